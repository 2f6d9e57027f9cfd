/- Text of this claim. -/
import Derived.Test.YthaamopjdieecaaEvK6
import Derived.Test.YthaamopjdieecaaProg
import Derived.Test.YthaamopjdieecaaEvD1
import Derived.Test.YthaamopjdieecaaEvD12
import Derived.Test.YthaamopjdieecaaEvD3
import Derived.Test.YthaamopjdieecaaEvD4
set_option linter.unusedVariables false
set_option linter.unusedSimpArgs false
set_option linter.unusedVariables false
set_option linter.unusedSimpArgs false
set_option maxRecDepth 100000
set_option maxHeartbeats 4000000
namespace Go.Proofs.Ev
noncomputable section
variable [Tok]
set_option linter.unusedSectionVars false
def tt : TT := look [(2, (.int .i64)), (3, (.int .i64)), (4, .bool), (5, (.int .u8)), (6, (.int .u8)), (9, .str), (10, .str), (11, .str), (12, (.int .u64)), (21, (.int .i32)), (22, (.sl (.int .u8))), (24, (.st .shape)), (25, (.sl (.int .i64))), (27, (.st .tensor)), (29, (.st .step)), (33, (.st .shape)), (35, (.st .tensor)), (37, (.st .step)), (44, (.sl (.st .step))), (47, (.sl (.st .step))), (53, (.sl (.st .task))), (64, (.sl (.sl (.int .i64)))), (74, (.st .task)), (76, (.sl (.st .layer))), (78, (.st .model)), (80, (.sl (.st .layer))), (82, (.st .model)), (90, (.sl (.st .tensor))), (102, (.sl (.st .wish))), (106, (.sl (.st .wish))), (126, (.sl (.st .shape))), (163, (.st .layer)), (179, (.st .wish)), (181, (.st .wish)), (202, (.int .u64)), (214, (.st .layer)), (219, (.sl (.sl (.st .layer)))), (258, (.int .u32)), (259, (.int .u8)), (260, (.int .u8)), (263, (.int .i32)), (264, (.int .i32))]
noncomputable def y5 (k : Nat) : Env := { P := Try.prog, tt := tt, orc := fun g => noOrc }
theorem y7 (k : Nat) : EnvOk (y5 k) := fun g => (noOrc_ok _ _)
noncomputable def y8 : Code := (Try.f97.body).getD .skip
def ya (ρ : Type) (k : Nat) : Nat → Ev ρ → Ev ρ := fun _ _ _ _ => none
def yb (a : List Int × Int) : List Arg := [.one (.sl (.int .u8) a.1), .one (.int .i64 a.2)]
def yc (l : List Arg) : Option (List Int × Int) := match l with
  | [.one (.sl (.int .u8) b0), .one (.int .i64 b1)] => some (b0, b1)
  | _ => none
def yd (r : Int) : Out := (.r [] (.int .i64 r), [])
def ye (o : Out) : Option (Int) := match o with
  | (.r [] (.int .i64 z1), []) => some z1
  | _ => none
def yf (k : Nat) : PG := fun _ l K => (yc l).bind fun a => (L_szByteS k a.1 a.2).bind fun r => K (yd r)
theorem yg (k : Nat) (a : List Int × Int) : ev (y5 k) (ya (Int) k) 0 y8 (st0 Try.f97 (yb a)) (fin Try.prog Try.f97 (.sc) ye) = L_szByteS k a.1 a.2 := by kernel_rfl
theorem yh (k : Nat) : PureOk Try.prog 97 (yf k) :=
  pureOk_of_ev (y7 k) Try.func97 (by kernel_rfl) (by kernel_rfl) yb yc
    (fun l a h => by unfold yc at h; split at h <;> first | (cases h; rfl) | cases h) (fun a => rfl) (lpgood_none (by kernel_rfl))
    (fun o r h => by unfold ye at h; split at h <;> first | (cases h; rfl) | cases h) (yg k)
def yi (k : Nat) : Orc := pureOrc [.one (.sl (.int .u8)), .one (.int .i64)] (yf k)
theorem yj (k : Nat) : OrcOk Try.prog 97 (yi k) := pureOrc_ok (yh k)
noncomputable def yk (k : Nat) : Env := { P := Try.prog, tt := tt, orc := fun g => noOrc }
theorem yl (k : Nat) : EnvOk (yk k) := fun g => (noOrc_ok _ _)
noncomputable def ym : Code := (Try.f155.body).getD .skip
def yn (ρ : Type) (k : Nat) : Nat → Ev ρ → Ev ρ := fun _ _ _ _ => none
def yo (a : List Int × Int) : List Arg := [.one (.sl (.int .i64) a.1), .one (.int .i64 a.2)]
def yp (l : List Arg) : Option (List Int × Int) := match l with
  | [.one (.sl (.int .i64) b0), .one (.int .i64 b1)] => some (b0, b1)
  | _ => none
def yq (r : Int) : Out := (.r [] (.int .i64 r), [])
def yr (o : Out) : Option (Int) := match o with
  | (.r [] (.int .i64 z1), []) => some z1
  | _ => none
def yt (k : Nat) : PG := fun _ l K => (yp l).bind fun a => (L_szIntS k a.1 a.2).bind fun r => K (yq r)
theorem yu (k : Nat) (a : List Int × Int) : ev (yk k) (yn (Int) k) 0 ym (st0 Try.f155 (yo a)) (fin Try.prog Try.f155 (.sc) yr) = L_szIntS k a.1 a.2 := by kernel_rfl
theorem yv (k : Nat) : PureOk Try.prog 155 (yt k) :=
  pureOk_of_ev (yl k) Try.func155 (by kernel_rfl) (by kernel_rfl) yo yp
    (fun l a h => by unfold yp at h; split at h <;> first | (cases h; rfl) | cases h) (fun a => rfl) (lpgood_none (by kernel_rfl))
    (fun o r h => by unfold yr at h; split at h <;> first | (cases h; rfl) | cases h) (yu k)
def yw (k : Nat) : Orc := pureOrc [.one (.sl (.int .i64)), .one (.int .i64)] (yt k)
theorem yx (k : Nat) : OrcOk Try.prog 155 (yw k) := pureOrc_ok (yv k)
noncomputable def yy (k : Nat) : Env := { P := Try.prog, tt := tt, orc := fun g => cond (Nat.beq g 155) (yw k) (noOrc) }
theorem yz (k : Nat) : EnvOk (yy k) := fun g => (orc_cond (yx k) (noOrc_ok _ _))
noncomputable def y10 : Code := (Try.f54.body).getD .skip
def y11 (ρ : Type) (k : Nat) : Nat → Ev ρ → Ev ρ := fun _ _ _ _ => none
def y12 (a : Tensor × Int) : List Arg := [.agg [.int .i64 a.1.sh.h, .int .i64 a.1.sh.w, .int .i64 a.1.sh.c, .sl (.int .i64) a.1.data], .one (.int .i64 a.2)]
def y13 (l : List Arg) : Option (Tensor × Int) := match l with
  | [.agg [.int .i64 b0_0, .int .i64 b0_1, .int .i64 b0_2, .sl (.int .i64) b0_3], .one (.int .i64 b1)] => some ((⟨(⟨b0_0, b0_1, b0_2⟩ : Shape), b0_3⟩ : Tensor), b1)
  | _ => none
def y15 (r : Int) : Out := (.r [] (.int .i64 r), [])
def y16 (o : Out) : Option (Int) := match o with
  | (.r [] (.int .i64 z1), []) => some z1
  | _ => none
def y17 (k : Nat) : PG := fun _ l K => (y13 l).bind fun a => (L_szTensor k a.1 a.2).bind fun r => K (y15 r)
theorem y18 (k : Nat) (a : Tensor × Int) : ev (yy k) (y11 (Int) k) 0 y10 (st0 Try.f54 (y12 a)) (fin Try.prog Try.f54 (.sc) y16) = L_szTensor k a.1 a.2 := by kernel_rfl
theorem y19 (k : Nat) : PureOk Try.prog 54 (y17 k) :=
  pureOk_of_ev (yz k) Try.func54 (by kernel_rfl) (by kernel_rfl) y12 y13
    (fun l a h => by unfold y13 at h; split at h <;> first | (cases h; rfl) | cases h) (fun a => rfl) (lpgood_none (by kernel_rfl))
    (fun o r h => by unfold y16 at h; split at h <;> first | (cases h; rfl) | cases h) (y18 k)
def y1a (k : Nat) : Orc := pureOrc [.agg [(.int .i64), (.int .i64), (.int .i64), (.sl (.int .i64))], .one (.int .i64)] (y17 k)
theorem y1b (k : Nat) : OrcOk Try.prog 54 (y1a k) := pureOrc_ok (y19 k)
noncomputable def y1c (k : Nat) : Env := { P := Try.prog, tt := tt, orc := fun g => cond (Nat.beq g 54) (y1a k) (cond (Nat.beq g 97) (yi k) (noOrc)) }
theorem y1d (k : Nat) : EnvOk (y1c k) := fun g => (orc_cond (y1b k) (orc_cond (yj k) (noOrc_ok _ _)))
noncomputable def y1e : Code := (Try.f14.body).getD .skip
def y1f (ρ : Type) (k : Nat) : Nat → Ev ρ → Ev ρ := fun _ _ _ _ => none
def y1g (a : Step × Int) : List Arg := [.agg [.int .i64 a.1.kind, .int .i64 a.1.a, .int .i64 a.1.b, .sl (.int .u8) a.1.data, .int .i64 a.1.input.sh.h, .int .i64 a.1.input.sh.w, .int .i64 a.1.input.sh.c, .sl (.int .i64) a.1.input.data], .one (.int .i64 a.2)]
def y1h (l : List Arg) : Option (Step × Int) := match l with
  | [.agg [.int .i64 b0_0, .int .i64 b0_1, .int .i64 b0_2, .sl (.int .u8) b0_3, .int .i64 b0_4, .int .i64 b0_5, .int .i64 b0_6, .sl (.int .i64) b0_7], .one (.int .i64 b1)] => some ((⟨b0_0, b0_1, b0_2, b0_3, (⟨(⟨b0_4, b0_5, b0_6⟩ : Shape), b0_7⟩ : Tensor)⟩ : Step), b1)
  | _ => none
def y1i (r : Int) : Out := (.r [] (.int .i64 r), [])
def y1j (o : Out) : Option (Int) := match o with
  | (.r [] (.int .i64 z1), []) => some z1
  | _ => none
def y1k (k : Nat) : PG := fun _ l K => (y1h l).bind fun a => (L_szStep k a.1 a.2).bind fun r => K (y1i r)
theorem y1l (k : Nat) (a : Step × Int) : ev (y1c k) (y1f (Int) k) 0 y1e (st0 Try.f14 (y1g a)) (fin Try.prog Try.f14 (.sc) y1j) = L_szStep k a.1 a.2 := by kernel_rfl
theorem y1m (k : Nat) : PureOk Try.prog 14 (y1k k) :=
  pureOk_of_ev (y1d k) Try.func14 (by kernel_rfl) (by kernel_rfl) y1g y1h
    (fun l a h => by unfold y1h at h; split at h <;> first | (cases h; rfl) | cases h) (fun a => rfl) (lpgood_none (by kernel_rfl))
    (fun o r h => by unfold y1j at h; split at h <;> first | (cases h; rfl) | cases h) (y1l k)
def y1n (k : Nat) : Orc := pureOrc [.agg [(.int .i64), (.int .i64), (.int .i64), (.sl (.int .u8)), (.int .i64), (.int .i64), (.int .i64), (.sl (.int .i64))], .one (.int .i64)] (y1k k)
theorem y1o (k : Nat) : OrcOk Try.prog 14 (y1n k) := pureOrc_ok (y1m k)
noncomputable def y1p (k : Nat) : Env := { P := Try.prog, tt := tt, orc := fun g => noOrc }
theorem y1q (k : Nat) : EnvOk (y1p k) := fun g => (noOrc_ok _ _)
noncomputable def y1r : Code := (Try.f101.body).getD .skip
noncomputable def y1s : Code := ((loopsIn 0 y1r).getD 0 (0, .skip)).2
def y1t : List Nat := [0, 3, 4]
def y1u : List (Where × Co) := []
def y1v : Ex → List Nat
  | .exit j => cond (Nat.beq j 0) [3] []
  | .ret => []
  | .normal => []
def y1w : Ex → List (Where × Co)
  | .exit j => cond (Nat.beq j 0) [] []
  | .ret => []
  | .normal => []
def y1x (pv : (List Int) × (Int × List Int)) : St := { slots := [(0, .r [] (.sl (.int .u8) pv.1)), (3, .own 0), (4, .r [] (.int .i64 pv.2.1))], heap := [(0, .arr none (.int .u8) pv.2.2)], nid := 1, n := 22, gh := [] }
def y1y (nf : NF) : Option ((List Int) × (Int × List Int)) := match nf with
  | ([.r [] (.sl (.int .u8) w0), .own 0, .r [] (.int .i64 w1)], [.arr none (.int .u8) w2], []) => some (w0, (w1, w2))
  | _ => none
theorem y1z (nf : NF) (v : (List Int) × (Int × List Int)) (h : y1y nf = some v) : denorm y1t 22 nf = y1x v := by
  unfold y1y at h
  split at h
  · cases h; rfl
  · cases h
def y20 (p : List Int) (x : List Int) : St := { slots := [(3, .own 0)], heap := [(0, .arr none (.int .u8) x)], nid := 1, n := 22, gh := [] }
def y21 (ρ : Type) (k : Nat) : Nat → Ev ρ → Ev ρ := fun id f => cond (Nat.beq id 0) (loopOrc y1t y1u (fun n nf => cond (Nat.beq n 22) (y1y nf) none) fun pv K => iter (fun v next => L_toByteS_g0 k pv.1 v next (fun x => K (.exit 0) (y20 pv.1 x))) k pv.2) ((fun _ _ _ _ => none) id f)
theorem y22 {ρ : Type} (k : Nat) (p : List Int) (v : Int × List Int) (K K1 : Ex → St → Option ρ) : ev (y1p k) (y21 ρ k) 0 y1s (y1x (p, v)) (fun e st' => match e with
    | .normal => (normC y1t y1u st').bind fun nf => K1 .normal (denorm y1t st'.n nf)
    | e => (normC (y1v e) (y1w e) st').bind fun nf => K e (denorm (y1v e) st'.n nf)) = L_toByteS_g0 k p v (fun v' => K1 .normal (y1x (p, v'))) (fun x => K (.exit 0) (y20 p x)) := by kernel_rfl
theorem y23 {ρ : Type} (k : Nat) : Sound Try.prog (.loop y1s) (y21 ρ k 0 fun st K => ev (y1p k) (y21 ρ k) 0 y1s st K) :=
  loop_ok (ev_sound (y1q k) y1s 0 (lpgood_none (by kernel_rfl))) y1v y1w k (g := fun p v next K => L_toByteS_g0 k p v next (fun x => K (.exit 0) (y20 p x))) (dec_at y1z) (fun p v K K1 => y22 k p v K K1)
def y24 (a : List Int) : List Arg := [.one (.sl (.int .u8) a)]
def y25 (l : List Arg) : Option (List Int) := match l with
  | [.one (.sl (.int .u8) b0)] => some b0
  | _ => none
def y26 (r : List Int) : Out := (.own 0, [.arr none (.int .u8) r])
def y27 (o : Out) : Option (List Int) := match o with
  | (.own 0, [.arr none (.int .u8) z1]) => some z1
  | _ => none
def y28 (k : Nat) : PG := fun _ l K => (y25 l).bind fun a => (L_toByteS k a).bind fun r => K (y26 r)
theorem y29 (k : Nat) (a : List Int) : ev (y1p k) (y21 (List Int) k) 0 y1r (st0 Try.f101 (y24 a)) (fin Try.prog Try.f101 (.own (.int .u8)) y27) = L_toByteS k a := by kernel_rfl
theorem y2a (k : Nat) : PureOk Try.prog 101 (y28 k) :=
  pureOk_of_ev (y1q k) Try.func101 (by kernel_rfl) (by kernel_rfl) y24 y25
    (fun l a h => by unfold y25 at h; split at h <;> first | (cases h; rfl) | cases h) (fun a => rfl) (lpgood_of (l := [(0, y1s)]) (by kernel_rfl) ⟨y23 k, trivial⟩)
    (fun o r h => by unfold y27 at h; split at h <;> first | (cases h; rfl) | cases h) (y29 k)
def y2b (k : Nat) : Orc := pureOrc [.one (.sl (.int .u8))] (y28 k)
theorem y2c (k : Nat) : OrcOk Try.prog 101 (y2b k) := pureOrc_ok (y2a k)
noncomputable def y2d (k : Nat) : Env := { P := Try.prog, tt := tt, orc := fun g => noOrc }
theorem y2e (k : Nat) : EnvOk (y2d k) := fun g => (noOrc_ok _ _)
noncomputable def y2f : Code := (Try.f147.body).getD .skip
def y2g (ρ : Type) (k : Nat) : Nat → Ev ρ → Ev ρ := fun _ _ _ _ => none
def y2h (a : Shape) : List Arg := [.agg [.int .i64 a.h, .int .i64 a.w, .int .i64 a.c]]
def y2i (l : List Arg) : Option (Shape) := match l with
  | [.agg [.int .i64 b0_0, .int .i64 b0_1, .int .i64 b0_2]] => some (⟨b0_0, b0_1, b0_2⟩ : Shape)
  | _ => none
def y2j (r : Shape) : Out := (.agg [.r [] (.int .i64 r.h), .r [] (.int .i64 r.w), .r [] (.int .i64 r.c)], [])
def y2k (o : Out) : Option (Shape) := match o with
  | (.agg [.r [] (.int .i64 z1), .r [] (.int .i64 z2), .r [] (.int .i64 z3)], []) => some (⟨z1, z2, z3⟩ : Shape)
  | _ => none
def y2l (k : Nat) : PG := fun _ l K => (y2i l).bind fun a => (L_toShape k a).bind fun r => K (y2j r)
theorem y2m (k : Nat) (a : Shape) : ev (y2d k) (y2g (Shape) k) 0 y2f (st0 Try.f147 (y2h a)) (fin Try.prog Try.f147 (.agg [.sc, .sc, .sc]) y2k) = L_toShape k a := by kernel_rfl
theorem y2n (k : Nat) : PureOk Try.prog 147 (y2l k) :=
  pureOk_of_ev (y2e k) Try.func147 (by kernel_rfl) (by kernel_rfl) y2h y2i
    (fun l a h => by unfold y2i at h; split at h <;> first | (cases h; rfl) | cases h) (fun a => rfl) (lpgood_none (by kernel_rfl))
    (fun o r h => by unfold y2k at h; split at h <;> first | (cases h; rfl) | cases h) (y2m k)
def y2o (k : Nat) : Orc := pureOrc [.agg [(.int .i64), (.int .i64), (.int .i64)]] (y2l k)
theorem y2p (k : Nat) : OrcOk Try.prog 147 (y2o k) := pureOrc_ok (y2n k)
noncomputable def y2q (k : Nat) : Env := { P := Try.prog, tt := tt, orc := fun g => noOrc }
theorem y2r (k : Nat) : EnvOk (y2q k) := fun g => (noOrc_ok _ _)
noncomputable def y2s : Code := (Try.f64.body).getD .skip
noncomputable def y2t : Code := ((loopsIn 0 y2s).getD 0 (0, .skip)).2
def y2u : List Nat := [0, 3, 4]
def y2v : List (Where × Co) := []
def y2w : Ex → List Nat
  | .exit j => cond (Nat.beq j 0) [3] []
  | .ret => []
  | .normal => []
def y2x : Ex → List (Where × Co)
  | .exit j => cond (Nat.beq j 0) [] []
  | .ret => []
  | .normal => []
def y2y (pv : (List Int) × (Int × List Int)) : St := { slots := [(0, .r [] (.sl (.int .i64) pv.1)), (3, .own 0), (4, .r [] (.int .i64 pv.2.1))], heap := [(0, .arr none (.int .i64) pv.2.2)], nid := 1, n := 22, gh := [] }
def y2z (nf : NF) : Option ((List Int) × (Int × List Int)) := match nf with
  | ([.r [] (.sl (.int .i64) w0), .own 0, .r [] (.int .i64 w1)], [.arr none (.int .i64) w2], []) => some (w0, (w1, w2))
  | _ => none
theorem y30 (nf : NF) (v : (List Int) × (Int × List Int)) (h : y2z nf = some v) : denorm y2u 22 nf = y2y v := by
  unfold y2z at h
  split at h
  · cases h; rfl
  · cases h
def y31 (p : List Int) (x : List Int) : St := { slots := [(3, .own 0)], heap := [(0, .arr none (.int .i64) x)], nid := 1, n := 22, gh := [] }
def y32 (ρ : Type) (k : Nat) : Nat → Ev ρ → Ev ρ := fun id f => cond (Nat.beq id 0) (loopOrc y2u y2v (fun n nf => cond (Nat.beq n 22) (y2z nf) none) fun pv K => iter (fun v next => L_toIntS_g0 k pv.1 v next (fun x => K (.exit 0) (y31 pv.1 x))) k pv.2) ((fun _ _ _ _ => none) id f)
theorem y33 {ρ : Type} (k : Nat) (p : List Int) (v : Int × List Int) (K K1 : Ex → St → Option ρ) : ev (y2q k) (y32 ρ k) 0 y2t (y2y (p, v)) (fun e st' => match e with
    | .normal => (normC y2u y2v st').bind fun nf => K1 .normal (denorm y2u st'.n nf)
    | e => (normC (y2w e) (y2x e) st').bind fun nf => K e (denorm (y2w e) st'.n nf)) = L_toIntS_g0 k p v (fun v' => K1 .normal (y2y (p, v'))) (fun x => K (.exit 0) (y31 p x)) := by kernel_rfl
theorem y34 {ρ : Type} (k : Nat) : Sound Try.prog (.loop y2t) (y32 ρ k 0 fun st K => ev (y2q k) (y32 ρ k) 0 y2t st K) :=
  loop_ok (ev_sound (y2r k) y2t 0 (lpgood_none (by kernel_rfl))) y2w y2x k (g := fun p v next K => L_toIntS_g0 k p v next (fun x => K (.exit 0) (y31 p x))) (dec_at y30) (fun p v K K1 => y33 k p v K K1)
def y35 (a : List Int) : List Arg := [.one (.sl (.int .i64) a)]
def y36 (l : List Arg) : Option (List Int) := match l with
  | [.one (.sl (.int .i64) b0)] => some b0
  | _ => none
def y37 (r : List Int) : Out := (.own 0, [.arr none (.int .i64) r])
def y38 (o : Out) : Option (List Int) := match o with
  | (.own 0, [.arr none (.int .i64) z1]) => some z1
  | _ => none
def y39 (k : Nat) : PG := fun _ l K => (y36 l).bind fun a => (L_toIntS k a).bind fun r => K (y37 r)
theorem y3a (k : Nat) (a : List Int) : ev (y2q k) (y32 (List Int) k) 0 y2s (st0 Try.f64 (y35 a)) (fin Try.prog Try.f64 (.own (.int .i64)) y38) = L_toIntS k a := by kernel_rfl
theorem y3b (k : Nat) : PureOk Try.prog 64 (y39 k) :=
  pureOk_of_ev (y2r k) Try.func64 (by kernel_rfl) (by kernel_rfl) y35 y36
    (fun l a h => by unfold y36 at h; split at h <;> first | (cases h; rfl) | cases h) (fun a => rfl) (lpgood_of (l := [(0, y2t)]) (by kernel_rfl) ⟨y34 k, trivial⟩)
    (fun o r h => by unfold y38 at h; split at h <;> first | (cases h; rfl) | cases h) (y3a k)
def y3c (k : Nat) : Orc := pureOrc [.one (.sl (.int .i64))] (y39 k)
theorem y3d (k : Nat) : OrcOk Try.prog 64 (y3c k) := pureOrc_ok (y3b k)
noncomputable def y3e (k : Nat) : Env := { P := Try.prog, tt := tt, orc := fun g => cond (Nat.beq g 64) (y3c k) (cond (Nat.beq g 147) (y2o k) (noOrc)) }
theorem y3f (k : Nat) : EnvOk (y3e k) := fun g => (orc_cond (y3d k) (orc_cond (y2p k) (noOrc_ok _ _)))
noncomputable def y3g : Code := (Try.f56.body).getD .skip
def y3h (ρ : Type) (k : Nat) : Nat → Ev ρ → Ev ρ := fun _ _ _ _ => none
def y3i (a : Tensor) : List Arg := [.agg [.int .i64 a.sh.h, .int .i64 a.sh.w, .int .i64 a.sh.c, .sl (.int .i64) a.data]]
def y3j (l : List Arg) : Option (Tensor) := match l with
  | [.agg [.int .i64 b0_0, .int .i64 b0_1, .int .i64 b0_2, .sl (.int .i64) b0_3]] => some (⟨(⟨b0_0, b0_1, b0_2⟩ : Shape), b0_3⟩ : Tensor)
  | _ => none
def y3k (r : Tensor) : Out := (.agg [.r [] (.int .i64 r.sh.h), .r [] (.int .i64 r.sh.w), .r [] (.int .i64 r.sh.c), .own 0], [.arr none (.int .i64) r.data])
def y3l (o : Out) : Option (Tensor) := match o with
  | (.agg [.r [] (.int .i64 z1), .r [] (.int .i64 z2), .r [] (.int .i64 z3), .own 0], [.arr none (.int .i64) z4]) => some (⟨(⟨z1, z2, z3⟩ : Shape), z4⟩ : Tensor)
  | _ => none
def y3m (k : Nat) : PG := fun _ l K => (y3j l).bind fun a => (L_toTensor k a).bind fun r => K (y3k r)
theorem y3n (k : Nat) (a : Tensor) : ev (y3e k) (y3h (Tensor) k) 0 y3g (st0 Try.f56 (y3i a)) (fin Try.prog Try.f56 (.agg [.sc, .sc, .sc, .own (.int .i64)]) y3l) = L_toTensor k a := by kernel_rfl
theorem y3o (k : Nat) : PureOk Try.prog 56 (y3m k) :=
  pureOk_of_ev (y3f k) Try.func56 (by kernel_rfl) (by kernel_rfl) y3i y3j
    (fun l a h => by unfold y3j at h; split at h <;> first | (cases h; rfl) | cases h) (fun a => rfl) (lpgood_none (by kernel_rfl))
    (fun o r h => by unfold y3l at h; split at h <;> first | (cases h; rfl) | cases h) (y3n k)
def y3p (k : Nat) : Orc := pureOrc [.agg [(.int .i64), (.int .i64), (.int .i64), (.sl (.int .i64))]] (y3m k)
theorem y3q (k : Nat) : OrcOk Try.prog 56 (y3p k) := pureOrc_ok (y3o k)
noncomputable def y3r (k : Nat) : Env := { P := Try.prog, tt := tt, orc := fun g => cond (Nat.beq g 56) (y3p k) (cond (Nat.beq g 101) (y2b k) (noOrc)) }
theorem y3s (k : Nat) : EnvOk (y3r k) := fun g => (orc_cond (y3q k) (orc_cond (y2c k) (noOrc_ok _ _)))
noncomputable def y3t : Code := (Try.f16.body).getD .skip
def y3u (ρ : Type) (k : Nat) : Nat → Ev ρ → Ev ρ := fun _ _ _ _ => none
def y3v (a : Step) : List Arg := [.agg [.int .i64 a.kind, .int .i64 a.a, .int .i64 a.b, .sl (.int .u8) a.data, .int .i64 a.input.sh.h, .int .i64 a.input.sh.w, .int .i64 a.input.sh.c, .sl (.int .i64) a.input.data]]
def y3w (l : List Arg) : Option (Step) := match l with
  | [.agg [.int .i64 b0_0, .int .i64 b0_1, .int .i64 b0_2, .sl (.int .u8) b0_3, .int .i64 b0_4, .int .i64 b0_5, .int .i64 b0_6, .sl (.int .i64) b0_7]] => some (⟨b0_0, b0_1, b0_2, b0_3, (⟨(⟨b0_4, b0_5, b0_6⟩ : Shape), b0_7⟩ : Tensor)⟩ : Step)
  | _ => none
def y3x (r : Step) : Out := (.agg [.r [] (.int .i64 r.kind), .r [] (.int .i64 r.a), .r [] (.int .i64 r.b), .own 0, .r [] (.int .i64 r.input.sh.h), .r [] (.int .i64 r.input.sh.w), .r [] (.int .i64 r.input.sh.c), .own 1], [.arr none (.int .u8) r.data, .arr none (.int .i64) r.input.data])
def y3y (o : Out) : Option (Step) := match o with
  | (.agg [.r [] (.int .i64 z1), .r [] (.int .i64 z2), .r [] (.int .i64 z3), .own 0, .r [] (.int .i64 z5), .r [] (.int .i64 z6), .r [] (.int .i64 z7), .own 1], [.arr none (.int .u8) z4, .arr none (.int .i64) z8]) => some (⟨z1, z2, z3, z4, (⟨(⟨z5, z6, z7⟩ : Shape), z8⟩ : Tensor)⟩ : Step)
  | _ => none
def y3z (k : Nat) : PG := fun _ l K => (y3w l).bind fun a => (L_toStep k a).bind fun r => K (y3x r)
theorem y40 (k : Nat) (a : Step) : ev (y3r k) (y3u (Step) k) 0 y3t (st0 Try.f16 (y3v a)) (fin Try.prog Try.f16 (.agg [.sc, .sc, .sc, .own (.int .u8), .sc, .sc, .sc, .own (.int .i64)]) y3y) = L_toStep k a := by kernel_rfl
theorem y41 (k : Nat) : PureOk Try.prog 16 (y3z k) :=
  pureOk_of_ev (y3s k) Try.func16 (by kernel_rfl) (by kernel_rfl) y3v y3w
    (fun l a h => by unfold y3w at h; split at h <;> first | (cases h; rfl) | cases h) (fun a => rfl) (lpgood_none (by kernel_rfl))
    (fun o r h => by unfold y3y at h; split at h <;> first | (cases h; rfl) | cases h) (y40 k)
def y42 (k : Nat) : Orc := pureOrc [.agg [(.int .i64), (.int .i64), (.int .i64), (.sl (.int .u8)), (.int .i64), (.int .i64), (.int .i64), (.sl (.int .i64))]] (y3z k)
theorem y43 (k : Nat) : OrcOk Try.prog 16 (y42 k) := pureOrc_ok (y41 k)
noncomputable def y44 (k : Nat) : Env := { P := Try.prog, tt := tt, orc := fun g => noOrc }
theorem y45 (k : Nat) : EnvOk (y44 k) := fun g => (noOrc_ok _ _)
noncomputable def y46 : Code := (Try.f136.body).getD .skip
def y47 (ρ : Type) (k : Nat) : Nat → Ev ρ → Ev ρ := fun _ _ _ _ => none
def y48 (a : Int × Int × Int) : List Arg := [.one (.int .i64 a.1), .one (.int .i64 a.2.1), .one (.int .i64 a.2.2)]
def y49 (l : List Arg) : Option (Int × Int × Int) := match l with
  | [.one (.int .i64 b0), .one (.int .i64 b1), .one (.int .i64 b2)] => some (b0, b1, b2)
  | _ => none
def y4a (r : Bool) : Out := (.r [] (.bool r), [])
def y4b (o : Out) : Option (Bool) := match o with
  | (.r [] (.bool z1), []) => some z1
  | _ => none
def y4c (k : Nat) : PG := fun _ l K => (y49 l).bind fun a => (S_l01In k a.1 a.2.1 a.2.2).bind fun r => K (y4a r)
theorem y4d (k : Nat) (a : Int × Int × Int) : ev (y44 k) (y47 (Bool) k) 0 y46 (st0 Try.f136 (y48 a)) (fin Try.prog Try.f136 (.sc) y4b) = S_l01In k a.1 a.2.1 a.2.2 := by kernel_rfl
theorem y4e (k : Nat) : PureOk Try.prog 136 (y4c k) :=
  pureOk_of_ev (y45 k) Try.func136 (by kernel_rfl) (by kernel_rfl) y48 y49
    (fun l a h => by unfold y49 at h; split at h <;> first | (cases h; rfl) | cases h) (fun a => rfl) (lpgood_none (by kernel_rfl))
    (fun o r h => by unfold y4b at h; split at h <;> first | (cases h; rfl) | cases h) (y4d k)
def y4f (k : Nat) : Orc := pureOrc [.one (.int .i64), .one (.int .i64), .one (.int .i64)] (y4c k)
theorem y4g (k : Nat) : OrcOk Try.prog 136 (y4f k) := pureOrc_ok (y4e k)
noncomputable def y4h (k : Nat) : Env := { P := Try.prog, tt := tt, orc := fun g => cond (Nat.beq g 136) (y4f k) (noOrc) }
theorem y4i (k : Nat) : EnvOk (y4h k) := fun g => (orc_cond (y4g k) (noOrc_ok _ _))
noncomputable def y4j : Code := (Try.f98.body).getD .skip
def y4k (ρ : Type) (k : Nat) : Nat → Ev ρ → Ev ρ := fun _ _ _ _ => none
def y4l (a : Int) : List Arg := [.one (.int .i64 a)]
def y4m (l : List Arg) : Option (Int) := match l with
  | [.one (.int .i64 b0)] => some b0
  | _ => none
def y4n (r : Bool) : Out := (.r [] (.bool r), [])
def y4o (o : Out) : Option (Bool) := match o with
  | (.r [] (.bool z1), []) => some z1
  | _ => none
def y4p (k : Nat) : PG := fun _ l K => (y4m l).bind fun a => (S_l14Wide k a).bind fun r => K (y4n r)
theorem y4q (k : Nat) (a : Int) : ev (y4h k) (y4k (Bool) k) 0 y4j (st0 Try.f98 (y4l a)) (fin Try.prog Try.f98 (.sc) y4o) = S_l14Wide k a := by kernel_rfl
theorem y4r (k : Nat) : PureOk Try.prog 98 (y4p k) :=
  pureOk_of_ev (y4i k) Try.func98 (by kernel_rfl) (by kernel_rfl) y4l y4m
    (fun l a h => by unfold y4m at h; split at h <;> first | (cases h; rfl) | cases h) (fun a => rfl) (lpgood_none (by kernel_rfl))
    (fun o r h => by unfold y4o at h; split at h <;> first | (cases h; rfl) | cases h) (y4q k)
def y4s (k : Nat) : Orc := pureOrc [.one (.int .i64)] (y4p k)
theorem y4t (k : Nat) : OrcOk Try.prog 98 (y4s k) := pureOrc_ok (y4r k)
noncomputable def y4u (k : Nat) : Env := { P := Try.prog, tt := tt, orc := fun g => cond (Nat.beq g 136) (y4f k) (noOrc) }
theorem y4v (k : Nat) : EnvOk (y4u k) := fun g => (orc_cond (y4g k) (noOrc_ok _ _))
noncomputable def y4w : Code := (Try.f186.body).getD .skip
noncomputable def y4x : Code := ((loopsIn 0 y4w).getD 0 (0, .skip)).2
def y4y : List Nat := [3, 4]
def y4z : List (Where × Co) := []
def y50 : Ex → List Nat
  | .exit j => cond (Nat.beq j 0) [3, 4] []
  | .ret => []
  | .normal => []
def y51 : Ex → List (Where × Co)
  | .exit j => cond (Nat.beq j 0) [] []
  | .ret => []
  | .normal => []
def y52 (pv : (Unit) × (Int × List Int)) : St := { slots := [(3, .own 0), (4, .r [] (.int .i64 pv.2.1))], heap := [(0, .arr none (.int .u8) pv.2.2)], nid := 1, n := 32, gh := [] }
def y53 (nf : NF) : Option ((Unit) × (Int × List Int)) := match nf with
  | ([.own 0, .r [] (.int .i64 w0)], [.arr none (.int .u8) w1], []) => some ((), (w0, w1))
  | _ => none
theorem y54 (nf : NF) (v : (Unit) × (Int × List Int)) (h : y53 nf = some v) : denorm y4y 32 nf = y52 v := by
  unfold y53 at h
  split at h
  · cases h; rfl
  · cases h
def y55 (p : Unit) (x : Int × List Int) : St := { slots := [(3, .own 0), (4, .r [] (.int .i64 x.1))], heap := [(0, .arr none (.int .u8) x.2)], nid := 1, n := 32, gh := [] }
def y56 (ρ : Type) (k : Nat) : Nat → Ev ρ → Ev ρ := fun id f => cond (Nat.beq id 0) (loopOrc y4y y4z (fun n nf => cond (Nat.beq n 32) (y53 nf) none) fun pv K => iter (fun v next => S_PutWide_g0 k pv.1 v next (fun x => K (.exit 0) (y55 pv.1 x))) k pv.2) ((fun _ _ _ _ => none) id f)
theorem y57 {ρ : Type} (k : Nat) (p : Unit) (v : Int × List Int) (K K1 : Ex → St → Option ρ) : ev (y4u k) (y56 ρ k) 0 y4x (y52 (p, v)) (fun e st' => match e with
    | .normal => (normC y4y y4z st').bind fun nf => K1 .normal (denorm y4y st'.n nf)
    | e => (normC (y50 e) (y51 e) st').bind fun nf => K e (denorm (y50 e) st'.n nf)) = S_PutWide_g0 k p v (fun v' => K1 .normal (y52 (p, v'))) (fun x => K (.exit 0) (y55 p x)) := by kernel_rfl
theorem y58 {ρ : Type} (k : Nat) : Sound Try.prog (.loop y4x) (y56 ρ k 0 fun st K => ev (y4u k) (y56 ρ k) 0 y4x st K) :=
  loop_ok (ev_sound (y4v k) y4x 0 (lpgood_none (by kernel_rfl))) y50 y51 k (g := fun p v next K => S_PutWide_g0 k p v next (fun x => K (.exit 0) (y55 p x))) (dec_at y54) (fun p v K K1 => y57 k p v K K1)
def y59 (a : Int) : List Arg := [.one (.int .i64 a)]
def y5a (l : List Arg) : Option (Int) := match l with
  | [.one (.int .i64 b0)] => some b0
  | _ => none
def y5b (r : List Int) : Out := (.own 0, [.arr none (.int .u8) r])
def y5c (o : Out) : Option (List Int) := match o with
  | (.own 0, [.arr none (.int .u8) z1]) => some z1
  | _ => none
def y5d (k : Nat) : PG := fun _ l K => (y5a l).bind fun a => (S_PutWide k a).bind fun r => K (y5b r)
theorem y5e (k : Nat) (a : Int) : ev (y4u k) (y56 (List Int) k) 0 y4w (st0 Try.f186 (y59 a)) (fin Try.prog Try.f186 (.own (.int .u8)) y5c) = S_PutWide k a := by kernel_rfl
theorem y5f (k : Nat) : PureOk Try.prog 186 (y5d k) :=
  pureOk_of_ev (y4v k) Try.func186 (by kernel_rfl) (by kernel_rfl) y59 y5a
    (fun l a h => by unfold y5a at h; split at h <;> first | (cases h; rfl) | cases h) (fun a => rfl) (lpgood_of (l := [(0, y4x)]) (by kernel_rfl) ⟨y58 k, trivial⟩)
    (fun o r h => by unfold y5c at h; split at h <;> first | (cases h; rfl) | cases h) (y5e k)
def y5g (k : Nat) : Orc := pureOrc [.one (.int .i64)] (y5d k)
theorem y5h (k : Nat) : OrcOk Try.prog 186 (y5g k) := pureOrc_ok (y5f k)
noncomputable def y5i (k : Nat) : Env := { P := Try.prog, tt := tt, orc := fun g => cond (Nat.beq g 186) (y5g k) (noOrc) }
theorem y5j (k : Nat) : EnvOk (y5i k) := fun g => (orc_cond (y5h k) (noOrc_ok _ _))
noncomputable def y5k : Code := (Try.f99.body).getD .skip
noncomputable def y5l : Code := ((loopsIn 0 y5k).getD 0 (0, .skip)).2
noncomputable def y5m : Code := ((loopsIn 0 y5l).getD 0 (0, .skip)).2
def y5n : List Nat := [0, 1, 5, 6, 7]
def y5o : List (Where × Co) := []
def y5p : Ex → List Nat
  | .exit j => cond (Nat.beq j 2) [0, 1, 5] []
  | .ret => []
  | .normal => []
def y5q : Ex → List (Where × Co)
  | .exit j => cond (Nat.beq j 2) [] []
  | .ret => []
  | .normal => []
def y5r (pv : (Int × List Int × List Int) × (Int × List Int)) : St := { slots := [(0, .own 0), (1, .own 1), (5, .r [] (.int .i64 pv.1.1)), (6, .own 2), (7, .r [] (.int .i64 pv.2.1))], heap := [(0, .arr none (.int .u8) pv.2.2), (1, .arr none (.int .i64) pv.1.2.1), (2, .arr none (.int .u8) pv.1.2.2)], nid := 3, n := 33, gh := [none] }
def y5s (nf : NF) : Option ((Int × List Int × List Int) × (Int × List Int)) := match nf with
  | ([.own 0, .own 1, .r [] (.int .i64 w0), .own 2, .r [] (.int .i64 w1)], [.arr none (.int .u8) w2, .arr none (.int .i64) w3, .arr none (.int .u8) w4], [none]) => some ((w0, w3, w4), (w1, w2))
  | _ => none
theorem y5t (nf : NF) (v : (Int × List Int × List Int) × (Int × List Int)) (h : y5s nf = some v) : denorm y5n 33 nf = y5r v := by
  unfold y5s at h
  split at h
  · cases h; rfl
  · cases h
def y5u (p : Int × List Int × List Int) (x : List Int) : St := { slots := [(0, .own 0), (1, .own 1), (5, .r [] (.int .i64 p.1))], heap := [(0, .arr none (.int .u8) x), (1, .arr none (.int .i64) p.2.1)], nid := 2, n := 33, gh := [none] }
def y5v : List Nat := [0, 1, 5]
def y5w : List (Where × Co) := [((.slot 0), (.nilOwn false (.int .u8))), ((.gh 0), .drop)]
def y5x : Ex → List Nat
  | .exit j => cond (Nat.beq j 0) [0] []
  | .ret => []
  | .normal => []
def y5y : Ex → List (Where × Co)
  | .exit j => cond (Nat.beq j 0) [] []
  | .ret => []
  | .normal => []
def y5z (pv : (List Int) × (Int × List Int)) : St := { slots := [(0, .own 0), (1, .own 1), (5, .r [] (.int .i64 pv.2.1))], heap := [(0, .arr none (.int .u8) pv.2.2), (1, .arr none (.int .i64) pv.1)], nid := 2, n := 33, gh := [none] }
def y60 (nf : NF) : Option ((List Int) × (Int × List Int)) := match nf with
  | ([.own 0, .own 1, .r [] (.int .i64 w0)], [.arr none (.int .u8) w1, .arr none (.int .i64) w2], [none]) => some (w2, (w0, w1))
  | _ => none
theorem y61 (nf : NF) (v : (List Int) × (Int × List Int)) (h : y60 nf = some v) : denorm y5v 33 nf = y5z v := by
  unfold y60 at h
  split at h
  · cases h; rfl
  · cases h
def y62 (p : List Int) (x : List Int) : St := { slots := [(0, .own 0)], heap := [(0, .arr none (.int .u8) x)], nid := 1, n := 33, gh := [none] }
def y63 (ρ : Type) (k : Nat) : Nat → Ev ρ → Ev ρ := fun id f => cond (Nat.beq id 0) (loopOrc y5v y5w (fun n nf => cond (Nat.beq n 33) (y60 nf) none) fun pv K => iter (fun v next => S_l05Put_m2_g0 k pv.1 v next (fun x => K (.exit 0) (y62 pv.1 x))) k pv.2) ((fun id f => cond (Nat.beq id 2) (loopOrc y5n y5o (fun n nf => cond (Nat.beq n 33) (y5s nf) none) fun pv K => iter (fun v next => S_l05Put_m2_g1 k pv.1 v next (fun x => K (.exit 2) (y5u pv.1 x))) k pv.2) ((fun _ _ _ _ => none) id f)) id f)
theorem y64 {ρ : Type} (k : Nat) (p : Int × List Int × List Int) (v : Int × List Int) (K K1 : Ex → St → Option ρ) : ev (y5i k) (y63 ρ k) 2 y5m (y5r (p, v)) (fun e st' => match e with
    | .normal => (normC y5n y5o st').bind fun nf => K1 .normal (denorm y5n st'.n nf)
    | e => (normC (y5p e) (y5q e) st').bind fun nf => K e (denorm (y5p e) st'.n nf)) = S_l05Put_m2_g1 k p v (fun v' => K1 .normal (y5r (p, v'))) (fun x => K (.exit 2) (y5u p x)) := by kernel_rfl
theorem y65 {ρ : Type} (k : Nat) : Sound Try.prog (.loop y5m) (y63 ρ k 2 fun st K => ev (y5i k) (y63 ρ k) 2 y5m st K) :=
  loop_ok (ev_sound (y5j k) y5m 2 (lpgood_none (by kernel_rfl))) y5p y5q k (g := fun p v next K => S_l05Put_m2_g1 k p v next (fun x => K (.exit 2) (y5u p x))) (dec_at y5t) (fun p v K K1 => y64 k p v K K1)
theorem y66 {ρ : Type} (k : Nat) (p : List Int) (v : Int × List Int) (K K1 : Ex → St → Option ρ) : ev (y5i k) (y63 ρ k) 0 y5l (y5z (p, v)) (fun e st' => match e with
    | .normal => (normC y5v y5w st').bind fun nf => K1 .normal (denorm y5v st'.n nf)
    | e => (normC (y5x e) (y5y e) st').bind fun nf => K e (denorm (y5x e) st'.n nf)) = S_l05Put_m2_g0 k p v (fun v' => K1 .normal (y5z (p, v'))) (fun x => K (.exit 0) (y62 p x)) := by kernel_rfl
theorem y67 {ρ : Type} (k : Nat) : Sound Try.prog (.loop y5l) (y63 ρ k 0 fun st K => ev (y5i k) (y63 ρ k) 0 y5l st K) :=
  loop_ok (ev_sound (y5j k) y5l 0 (lpgood_of (l := [(2, y5m)]) (by kernel_rfl) ⟨y65 k, trivial⟩)) y5x y5y k (g := fun p v next K => S_l05Put_m2_g0 k p v next (fun x => K (.exit 0) (y62 p x))) (dec_at y61) (fun p v K K1 => y66 k p v K K1)
def y68 (a : List Int) : List SV := [.nilS, .own 0]
def y69 (a : List Int) : List Blk := [.arr none (.int .i64) a]
def y6a (l : List SV) (b : List Blk) : Option (List Int) := match l, b with
  | [.nilS, .own 0], [.arr none (.int .i64) w0] => some w0
  | _, _ => none
def y6b (a : List Int) (r : List Int) : MOut := ⟨.own 1, [none], [.arr none (.int .u8) r]⟩
def y6c (a : List Int) (o : MOut) : Option (List Int) := match o with
  | ⟨.own 1, [none], [.arr none (.int .u8) z1]⟩ => some z1
  | _ => none
def y6d (k : Nat) : MG := fun _ l b K => (y6a l b).bind fun a => (S_l05Put_m2 k a).bind fun r => K (y6b a r)
theorem y6e (k : Nat) (a : List Int) : ev (y5i k) (y63 (List Int) k) 0 y5k (st0M Try.f99 (y68 a) (y69 a)) (finM Try.prog Try.f99 (.own (.int .u8)) [.gone] (y6c a)) = S_l05Put_m2 k a := by kernel_rfl
theorem y6f (k : Nat) : MutOk Try.prog 99 (y6d k) :=
  mutOk_of_ev (y5j k) Try.func99 (by kernel_rfl) (by kernel_rfl) y68 y69 y6a
    (fun l b a h => by unfold y6a at h; split at h <;> first | (cases h; exact ⟨rfl, rfl⟩) | cases h) (fun a => rfl) (lpgood_of (l := [(0, y5l)]) (by kernel_rfl) ⟨y67 k, trivial⟩) (fun a r => rfl)
    (fun a o r h => by unfold y6c at h; split at h <;> first | (skip; cases h; rfl) | cases h) (y6e k)
def y6g (k : Nat) : Orc := mutOrc [.keep, .keep] (y6d k)
theorem y6h (k : Nat) : OrcOk Try.prog 99 (y6g k) := mutOrc_ok (y6f k)
noncomputable def y6i (k : Nat) : Env := { P := Try.prog, tt := tt, orc := fun g => noOrc }
theorem y6j (k : Nat) : EnvOk (y6i k) := fun g => (noOrc_ok _ _)
noncomputable def y6k : Code := (Try.f187.body).getD .skip
noncomputable def y6l : Code := ((loopsIn 0 y6k).getD 0 (0, .skip)).2
def y6m : List Nat := [0, 3, 4]
def y6n : List (Where × Co) := []
def y6o : Ex → List Nat
  | .exit j => cond (Nat.beq j 0) [3] []
  | .ret => []
  | .normal => []
def y6p : Ex → List (Where × Co)
  | .exit j => cond (Nat.beq j 0) [] []
  | .ret => []
  | .normal => []
def y6q (pv : (List Int) × (Int × List Int)) : St := { slots := [(0, .r [] (.sl (.int .u8) pv.1)), (3, .own 0), (4, .r [] (.int .i64 pv.2.1))], heap := [(0, .arr none (.int .u8) pv.2.2)], nid := 1, n := 20, gh := [] }
def y6r (nf : NF) : Option ((List Int) × (Int × List Int)) := match nf with
  | ([.r [] (.sl (.int .u8) w0), .own 0, .r [] (.int .i64 w1)], [.arr none (.int .u8) w2], []) => some (w0, (w1, w2))
  | _ => none
theorem y6s (nf : NF) (v : (List Int) × (Int × List Int)) (h : y6r nf = some v) : denorm y6m 20 nf = y6q v := by
  unfold y6r at h
  split at h
  · cases h; rfl
  · cases h
def y6t (p : List Int) (x : List Int) : St := { slots := [(3, .own 0)], heap := [(0, .arr none (.int .u8) x)], nid := 1, n := 20, gh := [] }
def y6u (ρ : Type) (k : Nat) : Nat → Ev ρ → Ev ρ := fun id f => cond (Nat.beq id 0) (loopOrc y6m y6n (fun n nf => cond (Nat.beq n 20) (y6r nf) none) fun pv K => iter (fun v next => S_l01Bytes_g0 k pv.1 v next (fun x => K (.exit 0) (y6t pv.1 x))) k pv.2) ((fun _ _ _ _ => none) id f)
theorem y6v {ρ : Type} (k : Nat) (p : List Int) (v : Int × List Int) (K K1 : Ex → St → Option ρ) : ev (y6i k) (y6u ρ k) 0 y6l (y6q (p, v)) (fun e st' => match e with
    | .normal => (normC y6m y6n st').bind fun nf => K1 .normal (denorm y6m st'.n nf)
    | e => (normC (y6o e) (y6p e) st').bind fun nf => K e (denorm (y6o e) st'.n nf)) = S_l01Bytes_g0 k p v (fun v' => K1 .normal (y6q (p, v'))) (fun x => K (.exit 0) (y6t p x)) := by kernel_rfl
theorem y6w {ρ : Type} (k : Nat) : Sound Try.prog (.loop y6l) (y6u ρ k 0 fun st K => ev (y6i k) (y6u ρ k) 0 y6l st K) :=
  loop_ok (ev_sound (y6j k) y6l 0 (lpgood_none (by kernel_rfl))) y6o y6p k (g := fun p v next K => S_l01Bytes_g0 k p v next (fun x => K (.exit 0) (y6t p x))) (dec_at y6s) (fun p v K K1 => y6v k p v K K1)
def y6x (a : List Int) : List Arg := [.one (.sl (.int .u8) a)]
def y6y (l : List Arg) : Option (List Int) := match l with
  | [.one (.sl (.int .u8) b0)] => some b0
  | _ => none
def y6z (r : List Int) : Out := (.own 0, [.arr none (.int .u8) r])
def y70 (o : Out) : Option (List Int) := match o with
  | (.own 0, [.arr none (.int .u8) z1]) => some z1
  | _ => none
def y71 (k : Nat) : PG := fun _ l K => (y6y l).bind fun a => (S_l01Bytes k a).bind fun r => K (y6z r)
theorem y72 (k : Nat) (a : List Int) : ev (y6i k) (y6u (List Int) k) 0 y6k (st0 Try.f187 (y6x a)) (fin Try.prog Try.f187 (.own (.int .u8)) y70) = S_l01Bytes k a := by kernel_rfl
theorem y73 (k : Nat) : PureOk Try.prog 187 (y71 k) :=
  pureOk_of_ev (y6j k) Try.func187 (by kernel_rfl) (by kernel_rfl) y6x y6y
    (fun l a h => by unfold y6y at h; split at h <;> first | (cases h; rfl) | cases h) (fun a => rfl) (lpgood_of (l := [(0, y6l)]) (by kernel_rfl) ⟨y6w k, trivial⟩)
    (fun o r h => by unfold y70 at h; split at h <;> first | (cases h; rfl) | cases h) (y72 k)
def y74 (k : Nat) : Orc := pureOrc [.one (.sl (.int .u8))] (y71 k)
theorem y75 (k : Nat) : OrcOk Try.prog 187 (y74 k) := pureOrc_ok (y73 k)
noncomputable def y76 (k : Nat) : Env := { P := Try.prog, tt := tt, orc := fun g => cond (Nat.beq g 187) (y74 k) (noOrc) }
theorem y77 (k : Nat) : EnvOk (y76 k) := fun g => (orc_cond (y75 k) (noOrc_ok _ _))
noncomputable def y78 : Code := (Try.f100.body).getD .skip
noncomputable def y79 : Code := ((loopsIn 0 y78).getD 0 (0, .skip)).2
def y7a : List Nat := [1, 5, 6]
def y7b : List (Where × Co) := []
def y7c : Ex → List Nat
  | .exit j => cond (Nat.beq j 0) [5] []
  | .ret => []
  | .normal => []
def y7d : Ex → List (Where × Co)
  | .exit j => cond (Nat.beq j 0) [] []
  | .ret => []
  | .normal => []
def y7e (pv : (List Int) × (Int × List Int)) : St := { slots := [(1, .r [] (.sl (.int .u8) pv.1)), (5, .own 0), (6, .r [] (.int .i64 pv.2.1))], heap := [(0, .arr none (.int .u8) pv.2.2)], nid := 1, n := 23, gh := [] }
def y7f (nf : NF) : Option ((List Int) × (Int × List Int)) := match nf with
  | ([.r [] (.sl (.int .u8) w0), .own 0, .r [] (.int .i64 w1)], [.arr none (.int .u8) w2], []) => some (w0, (w1, w2))
  | _ => none
theorem y7g (nf : NF) (v : (List Int) × (Int × List Int)) (h : y7f nf = some v) : denorm y7a 23 nf = y7e v := by
  unfold y7f at h
  split at h
  · cases h; rfl
  · cases h
def y7h (p : List Int) (x : List Int) : St := { slots := [(5, .own 0)], heap := [(0, .arr none (.int .u8) x)], nid := 1, n := 23, gh := [] }
def y7i (ρ : Type) (k : Nat) : Nat → Ev ρ → Ev ρ := fun id f => cond (Nat.beq id 0) (loopOrc y7a y7b (fun n nf => cond (Nat.beq n 23) (y7f nf) none) fun pv K => iter (fun v next => S_l01Join_g0 k pv.1 v next (fun x => K (.exit 0) (y7h pv.1 x))) k pv.2) ((fun _ _ _ _ => none) id f)
theorem y7j {ρ : Type} (k : Nat) (p : List Int) (v : Int × List Int) (K K1 : Ex → St → Option ρ) : ev (y76 k) (y7i ρ k) 0 y79 (y7e (p, v)) (fun e st' => match e with
    | .normal => (normC y7a y7b st').bind fun nf => K1 .normal (denorm y7a st'.n nf)
    | e => (normC (y7c e) (y7d e) st').bind fun nf => K e (denorm (y7c e) st'.n nf)) = S_l01Join_g0 k p v (fun v' => K1 .normal (y7e (p, v'))) (fun x => K (.exit 0) (y7h p x)) := by kernel_rfl
theorem y7k {ρ : Type} (k : Nat) : Sound Try.prog (.loop y79) (y7i ρ k 0 fun st K => ev (y76 k) (y7i ρ k) 0 y79 st K) :=
  loop_ok (ev_sound (y77 k) y79 0 (lpgood_none (by kernel_rfl))) y7c y7d k (g := fun p v next K => S_l01Join_g0 k p v next (fun x => K (.exit 0) (y7h p x))) (dec_at y7g) (fun p v K K1 => y7j k p v K K1)
def y7l (a : List Int × List Int) : List Arg := [.one (.sl (.int .u8) a.1), .one (.sl (.int .u8) a.2)]
def y7m (l : List Arg) : Option (List Int × List Int) := match l with
  | [.one (.sl (.int .u8) b0), .one (.sl (.int .u8) b1)] => some (b0, b1)
  | _ => none
def y7n (r : List Int) : Out := (.own 0, [.arr none (.int .u8) r])
def y7o (o : Out) : Option (List Int) := match o with
  | (.own 0, [.arr none (.int .u8) z1]) => some z1
  | _ => none
def y7p (k : Nat) : PG := fun _ l K => (y7m l).bind fun a => (S_l01Join k a.1 a.2).bind fun r => K (y7n r)
theorem y7q (k : Nat) (a : List Int × List Int) : ev (y76 k) (y7i (List Int) k) 0 y78 (st0 Try.f100 (y7l a)) (fin Try.prog Try.f100 (.own (.int .u8)) y7o) = S_l01Join k a.1 a.2 := by kernel_rfl
theorem y7r (k : Nat) : PureOk Try.prog 100 (y7p k) :=
  pureOk_of_ev (y77 k) Try.func100 (by kernel_rfl) (by kernel_rfl) y7l y7m
    (fun l a h => by unfold y7m at h; split at h <;> first | (cases h; rfl) | cases h) (fun a => rfl) (lpgood_of (l := [(0, y79)]) (by kernel_rfl) ⟨y7k k, trivial⟩)
    (fun o r h => by unfold y7o at h; split at h <;> first | (cases h; rfl) | cases h) (y7q k)
def y7s (k : Nat) : Orc := pureOrc [.one (.sl (.int .u8)), .one (.sl (.int .u8))] (y7p k)
theorem y7t (k : Nat) : OrcOk Try.prog 100 (y7s k) := pureOrc_ok (y7r k)
noncomputable def y7u (k : Nat) : Env := { P := Try.prog, tt := tt, orc := fun g => cond (Nat.beq g 186) (y5g k) (noOrc) }
theorem y7v (k : Nat) : EnvOk (y7u k) := fun g => (orc_cond (y5h k) (noOrc_ok _ _))
noncomputable def y7w : Code := (Try.f99.body).getD .skip
noncomputable def y7x : Code := ((loopsIn 0 y7w).getD 0 (0, .skip)).2
noncomputable def y7y : Code := ((loopsIn 0 y7x).getD 0 (0, .skip)).2
def y7z : List Nat := [0, 1, 5, 6, 7]
def y80 : List (Where × Co) := []
def y81 : Ex → List Nat
  | .exit j => cond (Nat.beq j 2) [0, 1, 5] []
  | .ret => []
  | .normal => []
def y82 : Ex → List (Where × Co)
  | .exit j => cond (Nat.beq j 2) [] []
  | .ret => []
  | .normal => []
def y83 (pv : (Int × List Int × List Int) × (Int × List Int)) : St := { slots := [(0, .own 0), (1, .own 1), (5, .r [] (.int .i64 pv.1.1)), (6, .own 2), (7, .r [] (.int .i64 pv.2.1))], heap := [(0, .arr none (.int .u8) pv.2.2), (1, .arr none (.int .i64) pv.1.2.1), (2, .arr none (.int .u8) pv.1.2.2)], nid := 3, n := 33, gh := [none, some 1] }
def y84 (nf : NF) : Option ((Int × List Int × List Int) × (Int × List Int)) := match nf with
  | ([.own 0, .own 1, .r [] (.int .i64 w0), .own 2, .r [] (.int .i64 w1)], [.arr none (.int .u8) w2, .arr none (.int .i64) w3, .arr none (.int .u8) w4], [none, some 1]) => some ((w0, w3, w4), (w1, w2))
  | _ => none
theorem y85 (nf : NF) (v : (Int × List Int × List Int) × (Int × List Int)) (h : y84 nf = some v) : denorm y7z 33 nf = y83 v := by
  unfold y84 at h
  split at h
  · cases h; rfl
  · cases h
def y86 (p : Int × List Int × List Int) (x : List Int) : St := { slots := [(0, .own 0), (1, .own 1), (5, .r [] (.int .i64 p.1))], heap := [(0, .arr none (.int .u8) x), (1, .arr none (.int .i64) p.2.1)], nid := 2, n := 33, gh := [none, some 1] }
def y87 : List Nat := [0, 1, 5]
def y88 : List (Where × Co) := [((.gh 0), .drop)]
def y89 : Ex → List Nat
  | .exit j => cond (Nat.beq j 0) [0] []
  | .ret => []
  | .normal => []
def y8a : Ex → List (Where × Co)
  | .exit j => cond (Nat.beq j 0) [] []
  | .ret => []
  | .normal => []
def y8b (pv : (List Int) × (Int × List Int)) : St := { slots := [(0, .own 0), (1, .own 1), (5, .r [] (.int .i64 pv.2.1))], heap := [(0, .arr none (.int .u8) pv.2.2), (1, .arr none (.int .i64) pv.1)], nid := 2, n := 33, gh := [none, some 1] }
def y8c (nf : NF) : Option ((List Int) × (Int × List Int)) := match nf with
  | ([.own 0, .own 1, .r [] (.int .i64 w0)], [.arr none (.int .u8) w1, .arr none (.int .i64) w2], [none, some 1]) => some (w2, (w0, w1))
  | _ => none
theorem y8d (nf : NF) (v : (List Int) × (Int × List Int)) (h : y8c nf = some v) : denorm y87 33 nf = y8b v := by
  unfold y8c at h
  split at h
  · cases h; rfl
  · cases h
def y8e (p : List Int) (x : List Int) : St := { slots := [(0, .own 0)], heap := [(0, .arr none (.int .u8) x), (1, .arr none (.int .i64) p)], nid := 2, n := 33, gh := [none, some 1] }
def y8f (ρ : Type) (k : Nat) : Nat → Ev ρ → Ev ρ := fun id f => cond (Nat.beq id 0) (loopOrc y87 y88 (fun n nf => cond (Nat.beq n 33) (y8c nf) none) fun pv K => iter (fun v next => S_l05Put_m3_g0 k pv.1 v next (fun x => K (.exit 0) (y8e pv.1 x))) k pv.2) ((fun id f => cond (Nat.beq id 2) (loopOrc y7z y80 (fun n nf => cond (Nat.beq n 33) (y84 nf) none) fun pv K => iter (fun v next => S_l05Put_m3_g1 k pv.1 v next (fun x => K (.exit 2) (y86 pv.1 x))) k pv.2) ((fun _ _ _ _ => none) id f)) id f)
theorem y8g {ρ : Type} (k : Nat) (p : Int × List Int × List Int) (v : Int × List Int) (K K1 : Ex → St → Option ρ) : ev (y7u k) (y8f ρ k) 2 y7y (y83 (p, v)) (fun e st' => match e with
    | .normal => (normC y7z y80 st').bind fun nf => K1 .normal (denorm y7z st'.n nf)
    | e => (normC (y81 e) (y82 e) st').bind fun nf => K e (denorm (y81 e) st'.n nf)) = S_l05Put_m3_g1 k p v (fun v' => K1 .normal (y83 (p, v'))) (fun x => K (.exit 2) (y86 p x)) := by kernel_rfl
theorem y8h {ρ : Type} (k : Nat) : Sound Try.prog (.loop y7y) (y8f ρ k 2 fun st K => ev (y7u k) (y8f ρ k) 2 y7y st K) :=
  loop_ok (ev_sound (y7v k) y7y 2 (lpgood_none (by kernel_rfl))) y81 y82 k (g := fun p v next K => S_l05Put_m3_g1 k p v next (fun x => K (.exit 2) (y86 p x))) (dec_at y85) (fun p v K K1 => y8g k p v K K1)
theorem y8i {ρ : Type} (k : Nat) (p : List Int) (v : Int × List Int) (K K1 : Ex → St → Option ρ) : ev (y7u k) (y8f ρ k) 0 y7x (y8b (p, v)) (fun e st' => match e with
    | .normal => (normC y87 y88 st').bind fun nf => K1 .normal (denorm y87 st'.n nf)
    | e => (normC (y89 e) (y8a e) st').bind fun nf => K e (denorm (y89 e) st'.n nf)) = S_l05Put_m3_g0 k p v (fun v' => K1 .normal (y8b (p, v'))) (fun x => K (.exit 0) (y8e p x)) := by kernel_rfl
theorem y8j {ρ : Type} (k : Nat) : Sound Try.prog (.loop y7x) (y8f ρ k 0 fun st K => ev (y7u k) (y8f ρ k) 0 y7x st K) :=
  loop_ok (ev_sound (y7v k) y7x 0 (lpgood_of (l := [(2, y7y)]) (by kernel_rfl) ⟨y8h k, trivial⟩)) y89 y8a k (g := fun p v next K => S_l05Put_m3_g0 k p v next (fun x => K (.exit 0) (y8e p x))) (dec_at y8d) (fun p v K K1 => y8i k p v K K1)
def y8k (a : List Int × List Int) : List SV := [.own 0, .own 1]
def y8l (a : List Int × List Int) : List Blk := [.arr none (.int .u8) a.1, .arr none (.int .i64) a.2]
def y8m (l : List SV) (b : List Blk) : Option (List Int × List Int) := match l, b with
  | [.own 0, .own 1], [.arr none (.int .u8) w0, .arr none (.int .i64) w1] => some (w0, w1)
  | _, _ => none
def y8n (a : List Int × List Int) (r : List Int) : MOut := ⟨.own 2, [none, some (.arr none (.int .i64) a.2)], [.arr none (.int .u8) r]⟩
def y8o (a : List Int × List Int) (o : MOut) : Option (List Int) := match o with
  | ⟨.own 2, [none, some (.arr none (.int .i64) z1)], [.arr none (.int .u8) z2]⟩ => cond (@sameL (List Int) _ z1 a.2) (some z2) none
  | _ => none
def y8p (k : Nat) : MG := fun _ l b K => (y8m l b).bind fun a => (S_l05Put_m3 k a.1 a.2).bind fun r => K (y8n a r)
theorem y8q (k : Nat) (a : List Int × List Int) : ev (y7u k) (y8f (List Int) k) 0 y7w (st0M Try.f99 (y8k a) (y8l a)) (finM Try.prog Try.f99 (.own (.int .u8)) [.gone, .arr] (y8o a)) = S_l05Put_m3 k a.1 a.2 := by kernel_rfl
theorem y8r (k : Nat) : MutOk Try.prog 99 (y8p k) :=
  mutOk_of_ev (y7v k) Try.func99 (by kernel_rfl) (by kernel_rfl) y8k y8l y8m
    (fun l b a h => by unfold y8m at h; split at h <;> first | (cases h; exact ⟨rfl, rfl⟩) | cases h) (fun a => rfl) (lpgood_of (l := [(0, y7x)]) (by kernel_rfl) ⟨y8j k, trivial⟩) (fun a r => rfl)
    (fun a o r h => by unfold y8o at h; split at h <;> first | (obtain ⟨e0, hq⟩ := dec_chk1 h; clear h; subst e0; have h := hq; clear hq; cases h; rfl) | cases h) (y8q k)
def y8s (k : Nat) : Orc := mutOrc [.keep, .keep] (y8p k)
theorem y8t (k : Nat) : OrcOk Try.prog 99 (y8s k) := mutOrc_ok (y8r k)
noncomputable def y8u (k : Nat) : Env := { P := Try.prog, tt := tt, orc := fun g => cond (Nat.beq g 186) (y5g k) (noOrc) }
theorem y8v (k : Nat) : EnvOk (y8u k) := fun g => (orc_cond (y5h k) (noOrc_ok _ _))
noncomputable def y8w : Code := (Try.f99.body).getD .skip
noncomputable def y8x : Code := ((loopsIn 0 y8w).getD 0 (0, .skip)).2
noncomputable def y8y : Code := ((loopsIn 0 y8x).getD 0 (0, .skip)).2
def y8z : List Nat := [0, 1, 5, 6, 7]
def y90 : List (Where × Co) := []
def y91 : Ex → List Nat
  | .exit j => cond (Nat.beq j 2) [0, 1, 5] []
  | .ret => []
  | .normal => []
def y92 : Ex → List (Where × Co)
  | .exit j => cond (Nat.beq j 2) [] []
  | .ret => []
  | .normal => []
def y93 (pv : (List Int × Int × List Int) × (Int × List Int)) : St := { slots := [(0, .own 0), (1, .r [] (.sl (.int .i64) pv.1.1)), (5, .r [] (.int .i64 pv.1.2.1)), (6, .own 1), (7, .r [] (.int .i64 pv.2.1))], heap := [(0, .arr none (.int .u8) pv.2.2), (1, .arr none (.int .u8) pv.1.2.2)], nid := 2, n := 33, gh := [none] }
def y94 (nf : NF) : Option ((List Int × Int × List Int) × (Int × List Int)) := match nf with
  | ([.own 0, .r [] (.sl (.int .i64) w0), .r [] (.int .i64 w1), .own 1, .r [] (.int .i64 w2)], [.arr none (.int .u8) w3, .arr none (.int .u8) w4], [none]) => some ((w0, w1, w4), (w2, w3))
  | _ => none
theorem y95 (nf : NF) (v : (List Int × Int × List Int) × (Int × List Int)) (h : y94 nf = some v) : denorm y8z 33 nf = y93 v := by
  unfold y94 at h
  split at h
  · cases h; rfl
  · cases h
def y96 (p : List Int × Int × List Int) (x : List Int) : St := { slots := [(0, .own 0), (1, .r [] (.sl (.int .i64) p.1)), (5, .r [] (.int .i64 p.2.1))], heap := [(0, .arr none (.int .u8) x)], nid := 1, n := 33, gh := [none] }
def y97 : List Nat := [0, 1, 5]
def y98 : List (Where × Co) := [((.gh 0), .drop)]
def y99 : Ex → List Nat
  | .exit j => cond (Nat.beq j 0) [0] []
  | .ret => []
  | .normal => []
def y9a : Ex → List (Where × Co)
  | .exit j => cond (Nat.beq j 0) [] []
  | .ret => []
  | .normal => []
def y9b (pv : (List Int) × (Int × List Int)) : St := { slots := [(0, .own 0), (1, .r [] (.sl (.int .i64) pv.1)), (5, .r [] (.int .i64 pv.2.1))], heap := [(0, .arr none (.int .u8) pv.2.2)], nid := 1, n := 33, gh := [none] }
def y9c (nf : NF) : Option ((List Int) × (Int × List Int)) := match nf with
  | ([.own 0, .r [] (.sl (.int .i64) w0), .r [] (.int .i64 w1)], [.arr none (.int .u8) w2], [none]) => some (w0, (w1, w2))
  | _ => none
theorem y9d (nf : NF) (v : (List Int) × (Int × List Int)) (h : y9c nf = some v) : denorm y97 33 nf = y9b v := by
  unfold y9c at h
  split at h
  · cases h; rfl
  · cases h
def y9e (p : List Int) (x : List Int) : St := { slots := [(0, .own 0)], heap := [(0, .arr none (.int .u8) x)], nid := 1, n := 33, gh := [none] }
def y9f (ρ : Type) (k : Nat) : Nat → Ev ρ → Ev ρ := fun id f => cond (Nat.beq id 0) (loopOrc y97 y98 (fun n nf => cond (Nat.beq n 33) (y9c nf) none) fun pv K => iter (fun v next => S_l05Put_m4_g0 k pv.1 v next (fun x => K (.exit 0) (y9e pv.1 x))) k pv.2) ((fun id f => cond (Nat.beq id 2) (loopOrc y8z y90 (fun n nf => cond (Nat.beq n 33) (y94 nf) none) fun pv K => iter (fun v next => S_l05Put_m4_g1 k pv.1 v next (fun x => K (.exit 2) (y96 pv.1 x))) k pv.2) ((fun _ _ _ _ => none) id f)) id f)
theorem y9g {ρ : Type} (k : Nat) (p : List Int × Int × List Int) (v : Int × List Int) (K K1 : Ex → St → Option ρ) : ev (y8u k) (y9f ρ k) 2 y8y (y93 (p, v)) (fun e st' => match e with
    | .normal => (normC y8z y90 st').bind fun nf => K1 .normal (denorm y8z st'.n nf)
    | e => (normC (y91 e) (y92 e) st').bind fun nf => K e (denorm (y91 e) st'.n nf)) = S_l05Put_m4_g1 k p v (fun v' => K1 .normal (y93 (p, v'))) (fun x => K (.exit 2) (y96 p x)) := by kernel_rfl
theorem y9h {ρ : Type} (k : Nat) : Sound Try.prog (.loop y8y) (y9f ρ k 2 fun st K => ev (y8u k) (y9f ρ k) 2 y8y st K) :=
  loop_ok (ev_sound (y8v k) y8y 2 (lpgood_none (by kernel_rfl))) y91 y92 k (g := fun p v next K => S_l05Put_m4_g1 k p v next (fun x => K (.exit 2) (y96 p x))) (dec_at y95) (fun p v K K1 => y9g k p v K K1)
theorem y9i {ρ : Type} (k : Nat) (p : List Int) (v : Int × List Int) (K K1 : Ex → St → Option ρ) : ev (y8u k) (y9f ρ k) 0 y8x (y9b (p, v)) (fun e st' => match e with
    | .normal => (normC y97 y98 st').bind fun nf => K1 .normal (denorm y97 st'.n nf)
    | e => (normC (y99 e) (y9a e) st').bind fun nf => K e (denorm (y99 e) st'.n nf)) = S_l05Put_m4_g0 k p v (fun v' => K1 .normal (y9b (p, v'))) (fun x => K (.exit 0) (y9e p x)) := by kernel_rfl
theorem y9j {ρ : Type} (k : Nat) : Sound Try.prog (.loop y8x) (y9f ρ k 0 fun st K => ev (y8u k) (y9f ρ k) 0 y8x st K) :=
  loop_ok (ev_sound (y8v k) y8x 0 (lpgood_of (l := [(2, y8y)]) (by kernel_rfl) ⟨y9h k, trivial⟩)) y99 y9a k (g := fun p v next K => S_l05Put_m4_g0 k p v next (fun x => K (.exit 0) (y9e p x))) (dec_at y9d) (fun p v K K1 => y9i k p v K K1)
def y9k (a : List Int × List Int) : List SV := [.own 0, .r [] (.sl (.int .i64) a.2)]
def y9l (a : List Int × List Int) : List Blk := [.arr none (.int .u8) a.1]
def y9m (l : List SV) (b : List Blk) : Option (List Int × List Int) := match l, b with
  | [.own 0, .r [] (.sl (.int .i64) w0)], [.arr none (.int .u8) w1] => some (w1, w0)
  | _, _ => none
def y9n (a : List Int × List Int) (r : List Int) : MOut := ⟨.own 1, [none], [.arr none (.int .u8) r]⟩
def y9o (a : List Int × List Int) (o : MOut) : Option (List Int) := match o with
  | ⟨.own 1, [none], [.arr none (.int .u8) z1]⟩ => some z1
  | _ => none
def y9p (k : Nat) : MG := fun _ l b K => (y9m l b).bind fun a => (S_l05Put_m4 k a.1 a.2).bind fun r => K (y9n a r)
theorem y9q (k : Nat) (a : List Int × List Int) : ev (y8u k) (y9f (List Int) k) 0 y8w (st0M Try.f99 (y9k a) (y9l a)) (finM Try.prog Try.f99 (.own (.int .u8)) [.gone] (y9o a)) = S_l05Put_m4 k a.1 a.2 := by kernel_rfl
theorem y9r (k : Nat) : MutOk Try.prog 99 (y9p k) :=
  mutOk_of_ev (y8v k) Try.func99 (by kernel_rfl) (by kernel_rfl) y9k y9l y9m
    (fun l b a h => by unfold y9m at h; split at h <;> first | (cases h; exact ⟨rfl, rfl⟩) | cases h) (fun a => rfl) (lpgood_of (l := [(0, y8x)]) (by kernel_rfl) ⟨y9j k, trivial⟩) (fun a r => rfl)
    (fun a o r h => by unfold y9o at h; split at h <;> first | (skip; cases h; rfl) | cases h) (y9q k)
def y9s (k : Nat) : Orc := mutOrc [.keep, .keep] (y9p k)
theorem y9t (k : Nat) : OrcOk Try.prog 99 (y9s k) := mutOrc_ok (y9r k)
noncomputable def y9u (k : Nat) : Env := { P := Try.prog, tt := tt, orc := fun g => cond (Nat.beq g 98) (y4s k) (cond (Nat.beq g 99) (altB (mutT [.keep, .keep] y9m) (y9s k) (altB (mutT [.keep, .keep] y8m) (y8s k) (y6g k))) (cond (Nat.beq g 100) (y7s k) (noOrc))), wr := fun g => mem g [99], wt := true }
theorem y9v (k : Nat) : EnvOk (y9u k) := fun g => (orc_cond (y4t k) (orc_cond (altB_ok (y9t k) (altB_ok (y8t k) (y6h k))) (orc_cond (y7t k) (noOrc_ok _ _))))
noncomputable def y9w : Code := (Try.f15.body).getD .skip
noncomputable def y9x : Code := ((loopsIn 0 y9w).getD 0 (0, .skip)).2
def y9y : List Nat := [1, 4, 5]
def y9z : List (Where × Co) := []
def ya0 : Ex → List Nat
  | .exit j => cond (Nat.beq j 0) [1, 4] []
  | .ret => [2, 3]
  | .normal => []
def ya1 : Ex → List (Where × Co)
  | .exit j => cond (Nat.beq j 0) [] []
  | .ret => []
  | .normal => []
def ya2 (pv : (Int × Int × Int × List Int × Int × Int × Int × List Int × Int × Int × Int × List Int) × (Int)) : St := { slots := [(1, .ptr 0 0 0), (4, .ptr 1 0 0), (5, .r [] (.int .i64 pv.2))], heap := [(0, .box [.r [] (.int .i64 pv.1.1), .r [] (.int .i64 pv.1.2.1), .r [] (.int .i64 pv.1.2.2.1), .r [] (.sl (.int .u8) pv.1.2.2.2.1), .r [] (.int .i64 pv.1.2.2.2.2.1), .r [] (.int .i64 pv.1.2.2.2.2.2.1), .r [] (.int .i64 pv.1.2.2.2.2.2.2.1), .r [] (.sl (.int .i64) pv.1.2.2.2.2.2.2.2.1)]), (1, .box [.r [] (.int .i64 pv.1.2.2.2.2.2.2.2.2.1), .r [] (.int .i64 pv.1.2.2.2.2.2.2.2.2.2.1), .r [] (.int .i64 pv.1.2.2.2.2.2.2.2.2.2.2.1), .r [] (.sl (.int .i64) pv.1.2.2.2.2.2.2.2.2.2.2.2)])], nid := 2, n := 106, gh := [] }
def ya3 (nf : NF) : Option ((Int × Int × Int × List Int × Int × Int × Int × List Int × Int × Int × Int × List Int) × (Int)) := match nf with
  | ([.ptr 0 0 0, .ptr 1 0 0, .r [] (.int .i64 w0)], [.box [.r [] (.int .i64 w1), .r [] (.int .i64 w2), .r [] (.int .i64 w3), .r [] (.sl (.int .u8) w4), .r [] (.int .i64 w5), .r [] (.int .i64 w6), .r [] (.int .i64 w7), .r [] (.sl (.int .i64) w8)], .box [.r [] (.int .i64 w9), .r [] (.int .i64 w10), .r [] (.int .i64 w11), .r [] (.sl (.int .i64) w12)]], []) => some ((w1, w2, w3, w4, w5, w6, w7, w8, w9, w10, w11, w12), w0)
  | _ => none
theorem ya4 (nf : NF) (v : (Int × Int × Int × List Int × Int × Int × Int × List Int × Int × Int × Int × List Int) × (Int)) (h : ya3 nf = some v) : denorm y9y 106 nf = ya2 v := by
  unfold ya3 at h
  split at h
  · cases h; rfl
  · cases h
def ya5 (p : Int × Int × Int × List Int × Int × Int × Int × List Int × Int × Int × Int × List Int) (x : Unit) : St := { slots := [(1, .ptr 0 0 0), (4, .ptr 1 0 0)], heap := [(0, .box [.r [] (.int .i64 p.1), .r [] (.int .i64 p.2.1), .r [] (.int .i64 p.2.2.1), .r [] (.sl (.int .u8) p.2.2.2.1), .r [] (.int .i64 p.2.2.2.2.1), .r [] (.int .i64 p.2.2.2.2.2.1), .r [] (.int .i64 p.2.2.2.2.2.2.1), .r [] (.sl (.int .i64) p.2.2.2.2.2.2.2.1)]), (1, .box [.r [] (.int .i64 p.2.2.2.2.2.2.2.2.1), .r [] (.int .i64 p.2.2.2.2.2.2.2.2.2.1), .r [] (.int .i64 p.2.2.2.2.2.2.2.2.2.2.1), .r [] (.sl (.int .i64) p.2.2.2.2.2.2.2.2.2.2.2)])], nid := 2, n := 106, gh := [] }
def ya6 (p : Int × Int × Int × List Int × Int × Int × Int × List Int × Int × Int × Int × List Int) (x : Bool) : St := { slots := [(2, .nilS), (3, .r [] (.bool x))], heap := [], nid := 0, n := 106, gh := [] }
def ya7 (ρ : Type) (k : Nat) : Nat → Ev ρ → Ev ρ := fun id f => cond (Nat.beq id 0) (loopOrc y9y y9z (fun n nf => cond (Nat.beq n 106) (ya3 nf) none) fun pv K => iter (fun v next => S_PutStep_g0 k pv.1 v next (fun x => K (.exit 0) (ya5 pv.1 x)) (fun x => K .ret (ya6 pv.1 x))) k pv.2) ((fun _ _ _ _ => none) id f)
theorem ya8 {ρ : Type} (k : Nat) (p : Int × Int × Int × List Int × Int × Int × Int × List Int × Int × Int × Int × List Int) (v : Int) (K K1 : Ex → St → Option ρ) : ev (y9u k) (ya7 ρ k) 0 y9x (ya2 (p, v)) (fun e st' => match e with
    | .normal => (normC y9y y9z st').bind fun nf => K1 .normal (denorm y9y st'.n nf)
    | e => (normC (ya0 e) (ya1 e) st').bind fun nf => K e (denorm (ya0 e) st'.n nf)) = S_PutStep_g0 k p v (fun v' => K1 .normal (ya2 (p, v'))) (fun x => K (.exit 0) (ya5 p x)) (fun x => K .ret (ya6 p x)) := by kernel_rfl
theorem ya9 {ρ : Type} (k : Nat) : Sound Try.prog (.loop y9x) (ya7 ρ k 0 fun st K => ev (y9u k) (ya7 ρ k) 0 y9x st K) :=
  loop_ok (ev_sound (y9v k) y9x 0 (lpgood_none (by kernel_rfl))) ya0 ya1 k (g := fun p v next K => S_PutStep_g0 k p v next (fun x => K (.exit 0) (ya5 p x)) (fun x => K .ret (ya6 p x))) (dec_at ya4) (fun p v K K1 => ya8 k p v K K1)
def yaa (a : Step) : List Arg := [.agg [.int .i64 a.kind, .int .i64 a.a, .int .i64 a.b, .sl (.int .u8) a.data, .int .i64 a.input.sh.h, .int .i64 a.input.sh.w, .int .i64 a.input.sh.c, .sl (.int .i64) a.input.data]]
def yab (l : List Arg) : Option (Step) := match l with
  | [.agg [.int .i64 b0_0, .int .i64 b0_1, .int .i64 b0_2, .sl (.int .u8) b0_3, .int .i64 b0_4, .int .i64 b0_5, .int .i64 b0_6, .sl (.int .i64) b0_7]] => some (⟨b0_0, b0_1, b0_2, b0_3, (⟨(⟨b0_4, b0_5, b0_6⟩ : Shape), b0_7⟩ : Tensor)⟩ : Step)
  | _ => none
def yac (r : List Int × Bool) : Out := (.tup [.own 0, .r [] (.bool r.2)], [.arr none (.int .u8) r.1])
def yad (o : Out) : Option (List Int × Bool) := match o with
  | (.tup [.own 0, .r [] (.bool z2)], [.arr none (.int .u8) z1]) => some (z1, z2)
  | _ => none
def yae (k : Nat) : PG := fun _ l K => (yab l).bind fun a => (S_PutStep k a).bind fun r => K (yac r)
theorem yaf (k : Nat) (a : Step) : ev (y9u k) (ya7 (List Int × Bool) k) 0 y9w (st0 Try.f15 (yaa a)) (fin Try.prog Try.f15 (.tup [.own (.int .u8), .sc]) yad) = S_PutStep k a := by kernel_rfl
theorem yag (k : Nat) : PureOk Try.prog 15 (yae k) :=
  pureOk_of_ev (y9v k) Try.func15 (by kernel_rfl) (by kernel_rfl) yaa yab
    (fun l a h => by unfold yab at h; split at h <;> first | (cases h; rfl) | cases h) (fun a => rfl) (lpgood_of (l := [(0, y9x)]) (by kernel_rfl) ⟨ya9 k, trivial⟩)
    (fun o r h => by unfold yad at h; split at h <;> first | (cases h; rfl) | cases h) (yaf k)
def yah (k : Nat) : Orc := pureOrc [.agg [(.int .i64), (.int .i64), (.int .i64), (.sl (.int .u8)), (.int .i64), (.int .i64), (.int .i64), (.sl (.int .i64))]] (yae k)
theorem yai (k : Nat) : OrcOk Try.prog 15 (yah k) := pureOrc_ok (yag k)
noncomputable def E_I_in (k : Nat) : Env := { P := Try.prog, tt := tt, orc := fun g => noOrc }
theorem yaj (k : Nat) : EnvOk (E_I_in k) := fun g => (noOrc_ok _ _)
noncomputable def c_I_in : Code := (Try.f132.body).getD .skip
def yak (ρ : Type) (k : Nat) : Nat → Ev ρ → Ev ρ := fun _ _ _ _ => none
def yal (a : Int × Int × Int) : List Arg := [.one (.int .i64 a.1), .one (.int .i64 a.2.1), .one (.int .i64 a.2.2)]
def yam (l : List Arg) : Option (Int × Int × Int) := match l with
  | [.one (.int .i64 b0), .one (.int .i64 b1), .one (.int .i64 b2)] => some (b0, b1, b2)
  | _ => none
def yan (r : Bool) : Out := (.r [] (.bool r), [])
def yao (o : Out) : Option (Bool) := match o with
  | (.r [] (.bool z1), []) => some z1
  | _ => none
def I_in_G (k : Nat) : PG := fun _ l K => (yam l).bind fun a => (I_in k a.1 a.2.1 a.2.2).bind fun r => K (yan r)
theorem yap (k : Nat) (a : Int × Int × Int) : ev (E_I_in k) (yak (Bool) k) 0 c_I_in (st0 Try.f132 (yal a)) (fin Try.prog Try.f132 (.sc) yao) = I_in k a.1 a.2.1 a.2.2 := by kernel_rfl
theorem yaq (k : Nat) : PureOk Try.prog 132 (I_in_G k) :=
  pureOk_of_ev (yaj k) Try.func132 (by kernel_rfl) (by kernel_rfl) yal yam
    (fun l a h => by unfold yam at h; split at h <;> first | (cases h; rfl) | cases h) (fun a => rfl) (lpgood_none (by kernel_rfl))
    (fun o r h => by unfold yao at h; split at h <;> first | (cases h; rfl) | cases h) (yap k)
def o_I_in (k : Nat) : Orc := pureOrc [.one (.int .i64), .one (.int .i64), .one (.int .i64)] (I_in_G k)
theorem yar (k : Nat) : OrcOk Try.prog 132 (o_I_in k) := pureOrc_ok (yaq k)
noncomputable def yas (k : Nat) : Env := { P := Try.prog, tt := tt, orc := fun g => cond (Nat.beq g 132) (o_I_in k) (noOrc) }
theorem yat (k : Nat) : EnvOk (yas k) := fun g => (orc_cond (yar k) (noOrc_ok _ _))
noncomputable def yau : Code := (Try.f103.body).getD .skip
def yav (ρ : Type) (k : Nat) : Nat → Ev ρ → Ev ρ := fun _ _ _ _ => none
def yaw (a : Int) : List Arg := [.one (.int .i64 a)]
def yax (l : List Arg) : Option (Int) := match l with
  | [.one (.int .i64 b0)] => some b0
  | _ => none
def yay (r : Bool) : Out := (.r [] (.bool r), [])
def yaz (o : Out) : Option (Bool) := match o with
  | (.r [] (.bool z1), []) => some z1
  | _ => none
def yb0 (k : Nat) : PG := fun _ l K => (yax l).bind fun a => (I_isWide k a).bind fun r => K (yay r)
theorem yb1 (k : Nat) (a : Int) : ev (yas k) (yav (Bool) k) 0 yau (st0 Try.f103 (yaw a)) (fin Try.prog Try.f103 (.sc) yaz) = I_isWide k a := by kernel_rfl
theorem yb2 (k : Nat) : PureOk Try.prog 103 (yb0 k) :=
  pureOk_of_ev (yat k) Try.func103 (by kernel_rfl) (by kernel_rfl) yaw yax
    (fun l a h => by unfold yax at h; split at h <;> first | (cases h; rfl) | cases h) (fun a => rfl) (lpgood_none (by kernel_rfl))
    (fun o r h => by unfold yaz at h; split at h <;> first | (cases h; rfl) | cases h) (yb1 k)
def yb3 (k : Nat) : Orc := pureOrc [.one (.int .i64)] (yb0 k)
theorem yb4 (k : Nat) : OrcOk Try.prog 103 (yb3 k) := pureOrc_ok (yb2 k)
noncomputable def yb5 (k : Nat) : Env := { P := Try.prog, tt := tt, orc := fun g => cond (Nat.beq g 103) (yb3 k) (noOrc) }
theorem yb6 (k : Nat) : EnvOk (yb5 k) := fun g => (orc_cond (yb4 k) (noOrc_ok _ _))
noncomputable def yb7 : Code := (Try.f102.body).getD .skip
def yb8 (ρ : Type) (k : Nat) : Nat → Ev ρ → Ev ρ := fun _ _ _ _ => none
def yb9 (a : Int) : List Arg := [.one (.int .i64 a)]
def yba (l : List Arg) : Option (Int) := match l with
  | [.one (.int .i64 b0)] => some b0
  | _ => none
def ybb (r : Bool) : Out := (.r [] (.bool r), [])
def ybc (o : Out) : Option (Bool) := match o with
  | (.r [] (.bool z1), []) => some z1
  | _ => none
def ybd (k : Nat) : PG := fun _ l K => (yba l).bind fun a => (I_PutStep_c1 k a).bind fun r => K (ybb r)
theorem ybe (k : Nat) (a : Int) : ev (yb5 k) (yb8 (Bool) k) 0 yb7 (st0 Try.f102 (yb9 a)) (fin Try.prog Try.f102 (.sc) ybc) = I_PutStep_c1 k a := by kernel_rfl
theorem ybf (k : Nat) : PureOk Try.prog 102 (ybd k) :=
  pureOk_of_ev (yb6 k) Try.func102 (by kernel_rfl) (by kernel_rfl) yb9 yba
    (fun l a h => by unfold yba at h; split at h <;> first | (cases h; rfl) | cases h) (fun a => rfl) (lpgood_none (by kernel_rfl))
    (fun o r h => by unfold ybc at h; split at h <;> first | (cases h; rfl) | cases h) (ybe k)
def ybg (k : Nat) : Orc := pureOrc [.one (.int .i64)] (ybd k)
theorem ybh (k : Nat) : OrcOk Try.prog 102 (ybg k) := pureOrc_ok (ybf k)
noncomputable def ybi (k : Nat) : Env := { P := Try.prog, tt := tt, orc := fun g => cond (Nat.beq g 102) (ybg k) (noOrc) }
theorem ybj (k : Nat) : EnvOk (ybi k) := fun g => (orc_cond (ybh k) (noOrc_ok _ _))
noncomputable def ybk : Code := (Try.f188.body).getD .skip
noncomputable def ybl : Code := ((loopsIn 0 ybk).getD 0 (0, .skip)).2
def ybm : List Nat := [0, 1, 7, 8]
def ybn : List (Where × Co) := []
def ybo : Ex → List Nat
  | .exit j => cond (Nat.beq j 0) [] []
  | .ret => [4]
  | .normal => []
def ybp : Ex → List (Where × Co)
  | .exit j => cond (Nat.beq j 0) [] []
  | .ret => []
  | .normal => []
def ybq (pv : (List Int × Int) × (Int)) : St := { slots := [(0, .r [] (.sl (.int .i64) pv.1.1)), (1, .fn (.func 102) [] []), (7, .r [] (.int .i64 pv.1.2)), (8, .r [] (.int .i64 pv.2))], heap := [], nid := 0, n := 19, gh := [] }
def ybr (nf : NF) : Option ((List Int × Int) × (Int)) := match nf with
  | ([.r [] (.sl (.int .i64) w0), .fn (.func 102) [] [], .r [] (.int .i64 w1), .r [] (.int .i64 w2)], [], []) => some ((w0, w1), w2)
  | _ => none
theorem ybs (nf : NF) (v : (List Int × Int) × (Int)) (h : ybr nf = some v) : denorm ybm 19 nf = ybq v := by
  unfold ybr at h
  split at h
  · cases h; rfl
  · cases h
def ybt (p : List Int × Int) (x : Unit) : St := { slots := [], heap := [], nid := 0, n := 19, gh := [] }
def ybu (p : List Int × Int) (x : Int) : St := { slots := [(4, .r [] (.int .i64 x))], heap := [], nid := 0, n := 19, gh := [] }
def ybv (ρ : Type) (k : Nat) : Nat → Ev ρ → Ev ρ := fun id f => cond (Nat.beq id 0) (loopOrc ybm ybn (fun n nf => cond (Nat.beq n 19) (ybr nf) none) fun pv K => iter (fun v next => slices_IndexFunc_lint_int__I_PutStep_c1_g0 k pv.1 v next (fun x => K (.exit 0) (ybt pv.1 x)) (fun x => K .ret (ybu pv.1 x))) k pv.2) ((fun _ _ _ _ => none) id f)
theorem ybw {ρ : Type} (k : Nat) (p : List Int × Int) (v : Int) (K K1 : Ex → St → Option ρ) : ev (ybi k) (ybv ρ k) 0 ybl (ybq (p, v)) (fun e st' => match e with
    | .normal => (normC ybm ybn st').bind fun nf => K1 .normal (denorm ybm st'.n nf)
    | e => (normC (ybo e) (ybp e) st').bind fun nf => K e (denorm (ybo e) st'.n nf)) = slices_IndexFunc_lint_int__I_PutStep_c1_g0 k p v (fun v' => K1 .normal (ybq (p, v'))) (fun x => K (.exit 0) (ybt p x)) (fun x => K .ret (ybu p x)) := by kernel_rfl
theorem ybx {ρ : Type} (k : Nat) : Sound Try.prog (.loop ybl) (ybv ρ k 0 fun st K => ev (ybi k) (ybv ρ k) 0 ybl st K) :=
  loop_ok (ev_sound (ybj k) ybl 0 (lpgood_none (by kernel_rfl))) ybo ybp k (g := fun p v next K => slices_IndexFunc_lint_int__I_PutStep_c1_g0 k p v next (fun x => K (.exit 0) (ybt p x)) (fun x => K .ret (ybu p x))) (dec_at ybs) (fun p v K K1 => ybw k p v K K1)
def yby (a : List Int) : List Arg := [.one (.sl (.int .i64) a), .fn (.func 102) [] []]
def ybz (l : List Arg) : Option (List Int) := match l with
  | [.one (.sl (.int .i64) b0), .fn (.func 102) [] []] => some b0
  | _ => none
def yc0 (r : Int) : Out := (.r [] (.int .i64 r), [])
def yc1 (o : Out) : Option (Int) := match o with
  | (.r [] (.int .i64 z1), []) => some z1
  | _ => none
def yc2 (k : Nat) : PG := fun _ l K => (ybz l).bind fun a => (slices_IndexFunc_lint_int__I_PutStep_c1 k a).bind fun r => K (yc0 r)
theorem yc3 (k : Nat) (a : List Int) : ev (ybi k) (ybv (Int) k) 0 ybk (st0 Try.f188 (yby a)) (fin Try.prog Try.f188 (.sc) yc1) = slices_IndexFunc_lint_int__I_PutStep_c1 k a := by kernel_rfl
theorem yc4 (k : Nat) : PureOk Try.prog 188 (yc2 k) :=
  pureOk_of_ev (ybj k) Try.func188 (by kernel_rfl) (by kernel_rfl) yby ybz
    (fun l a h => by unfold ybz at h; split at h <;> first | (cases h; rfl) | cases h) (fun a => rfl) (lpgood_of (l := [(0, ybl)]) (by kernel_rfl) ⟨ybx k, trivial⟩)
    (fun o r h => by unfold yc1 at h; split at h <;> first | (cases h; rfl) | cases h) (yc3 k)
def yc5 (k : Nat) : Orc := pureOrc [.one (.sl (.int .i64)), .fn] (yc2 k)
theorem yc6 (k : Nat) : OrcOk Try.prog 188 (yc5 k) := pureOrc_ok (yc4 k)
noncomputable def yc7 (k : Nat) : Env := { P := Try.prog, tt := tt, orc := fun g => cond (Nat.beq g 188) (yc5 k) (noOrc) }
theorem yc8 (k : Nat) : EnvOk (yc7 k) := fun g => (orc_cond (yc6 k) (noOrc_ok _ _))
noncomputable def yc9 : Code := (Try.f104.body).getD .skip
def yca (ρ : Type) (k : Nat) : Nat → Ev ρ → Ev ρ := fun _ _ _ _ => none
def ycb (a : List Int) : List Arg := [.one (.sl (.int .i64) a), .fn (.func 102) [] []]
def ycc (l : List Arg) : Option (List Int) := match l with
  | [.one (.sl (.int .i64) b0), .fn (.func 102) [] []] => some b0
  | _ => none
def ycd (r : Bool) : Out := (.r [] (.bool r), [])
def yce (o : Out) : Option (Bool) := match o with
  | (.r [] (.bool z1), []) => some z1
  | _ => none
def ycf (k : Nat) : PG := fun _ l K => (ycc l).bind fun a => (slices_ContainsFunc_lint_int__I_PutStep_c1 k a).bind fun r => K (ycd r)
theorem ycg (k : Nat) (a : List Int) : ev (yc7 k) (yca (Bool) k) 0 yc9 (st0 Try.f104 (ycb a)) (fin Try.prog Try.f104 (.sc) yce) = slices_ContainsFunc_lint_int__I_PutStep_c1 k a := by kernel_rfl
theorem ych (k : Nat) : PureOk Try.prog 104 (ycf k) :=
  pureOk_of_ev (yc8 k) Try.func104 (by kernel_rfl) (by kernel_rfl) ycb ycc
    (fun l a h => by unfold ycc at h; split at h <;> first | (cases h; rfl) | cases h) (fun a => rfl) (lpgood_none (by kernel_rfl))
    (fun o r h => by unfold yce at h; split at h <;> first | (cases h; rfl) | cases h) (ycg k)
def yci (k : Nat) : Orc := pureOrc [.one (.sl (.int .i64)), .fn] (ycf k)
theorem ycj (k : Nat) : OrcOk Try.prog 104 (yci k) := pureOrc_ok (ych k)
noncomputable def yck (k : Nat) : Env := { P := Try.prog, tt := tt, orc := fun g => noOrc }
theorem ycl (k : Nat) : EnvOk (yck k) := fun g => (noOrc_ok _ _)
noncomputable def ycm : Code := (Try.f105.body).getD .skip
noncomputable def ycn : Code := ((loopsIn 0 ycm).getD 0 (0, .skip)).2
noncomputable def yco : Code := ((loopsIn 0 ycn).getD 0 (0, .skip)).2
def ycp : List Nat := [0, 7, 8, 9, 10]
def ycq : List (Where × Co) := []
def ycr : Ex → List Nat
  | .exit j => cond (Nat.beq j 2) [0, 7, 8, 9, 10] []
  | .ret => []
  | .normal => []
def ycs : Ex → List (Where × Co)
  | .exit j => cond (Nat.beq j 2) [] []
  | .ret => []
  | .normal => []
def yct (pv : (List Int × Int × Int) × (Int × List Int)) : St := { slots := [(0, .own 0), (7, .r [] (.int .i64 pv.2.1)), (8, .r [] (.sl (.int .i64) pv.1.1)), (9, .r [] (.int .i64 pv.1.2.1)), (10, .r [] (.int .i64 pv.1.2.2))], heap := [(0, .arr none (.int .u8) pv.2.2)], nid := 1, n := 38, gh := [] }
def ycu (nf : NF) : Option ((List Int × Int × Int) × (Int × List Int)) := match nf with
  | ([.own 0, .r [] (.int .i64 w0), .r [] (.sl (.int .i64) w1), .r [] (.int .i64 w2), .r [] (.int .i64 w3)], [.arr none (.int .u8) w4], []) => some ((w1, w2, w3), (w0, w4))
  | _ => none
theorem ycv (nf : NF) (v : (List Int × Int × Int) × (Int × List Int)) (h : ycu nf = some v) : denorm ycp 38 nf = yct v := by
  unfold ycu at h
  split at h
  · cases h; rfl
  · cases h
def ycw (p : List Int × Int × Int) (x : Int × List Int) : St := { slots := [(0, .own 0), (7, .r [] (.int .i64 x.1)), (8, .r [] (.sl (.int .i64) p.1)), (9, .r [] (.int .i64 p.2.1)), (10, .r [] (.int .i64 p.2.2))], heap := [(0, .arr none (.int .u8) x.2)], nid := 1, n := 38, gh := [] }
def ycx : List Nat := [0, 8, 9, 10]
def ycy : List (Where × Co) := [((.slot 0), (.nilOwn false (.int .u8)))]
def ycz : Ex → List Nat
  | .exit j => cond (Nat.beq j 0) [0] []
  | .ret => []
  | .normal => []
def yd0 : Ex → List (Where × Co)
  | .exit j => cond (Nat.beq j 0) [] []
  | .ret => []
  | .normal => []
def yd1 (pv : (List Int × Int) × (Int × List Int)) : St := { slots := [(0, .own 0), (8, .r [] (.sl (.int .i64) pv.1.1)), (9, .r [] (.int .i64 pv.1.2)), (10, .r [] (.int .i64 pv.2.1))], heap := [(0, .arr none (.int .u8) pv.2.2)], nid := 1, n := 38, gh := [] }
def yd2 (nf : NF) : Option ((List Int × Int) × (Int × List Int)) := match nf with
  | ([.own 0, .r [] (.sl (.int .i64) w0), .r [] (.int .i64 w1), .r [] (.int .i64 w2)], [.arr none (.int .u8) w3], []) => some ((w0, w1), (w2, w3))
  | _ => none
theorem yd3 (nf : NF) (v : (List Int × Int) × (Int × List Int)) (h : yd2 nf = some v) : denorm ycx 38 nf = yd1 v := by
  unfold yd2 at h
  split at h
  · cases h; rfl
  · cases h
def yd4 (p : List Int × Int) (x : List Int) : St := { slots := [(0, .own 0)], heap := [(0, .arr none (.int .u8) x)], nid := 1, n := 38, gh := [] }
def yd5 (ρ : Type) (k : Nat) : Nat → Ev ρ → Ev ρ := fun id f => cond (Nat.beq id 0) (loopOrc ycx ycy (fun n nf => cond (Nat.beq n 38) (yd2 nf) none) fun pv K => iter (fun v next => I_putWide_m4_g0 k pv.1 v next (fun x => K (.exit 0) (yd4 pv.1 x))) k pv.2) ((fun id f => cond (Nat.beq id 2) (loopOrc ycp ycq (fun n nf => cond (Nat.beq n 38) (ycu nf) none) fun pv K => iter (fun v next => I_putWide_m4_g1 k pv.1 v next (fun x => K (.exit 2) (ycw pv.1 x))) k pv.2) ((fun _ _ _ _ => none) id f)) id f)
theorem yd6 {ρ : Type} (k : Nat) (p : List Int × Int × Int) (v : Int × List Int) (K K1 : Ex → St → Option ρ) : ev (yck k) (yd5 ρ k) 2 yco (yct (p, v)) (fun e st' => match e with
    | .normal => (normC ycp ycq st').bind fun nf => K1 .normal (denorm ycp st'.n nf)
    | e => (normC (ycr e) (ycs e) st').bind fun nf => K e (denorm (ycr e) st'.n nf)) = I_putWide_m4_g1 k p v (fun v' => K1 .normal (yct (p, v'))) (fun x => K (.exit 2) (ycw p x)) := by kernel_rfl
theorem yd7 {ρ : Type} (k : Nat) : Sound Try.prog (.loop yco) (yd5 ρ k 2 fun st K => ev (yck k) (yd5 ρ k) 2 yco st K) :=
  loop_ok (ev_sound (ycl k) yco 2 (lpgood_none (by kernel_rfl))) ycr ycs k (g := fun p v next K => I_putWide_m4_g1 k p v next (fun x => K (.exit 2) (ycw p x))) (dec_at ycv) (fun p v K K1 => yd6 k p v K K1)
theorem yd8 {ρ : Type} (k : Nat) (p : List Int × Int) (v : Int × List Int) (K K1 : Ex → St → Option ρ) : ev (yck k) (yd5 ρ k) 0 ycn (yd1 (p, v)) (fun e st' => match e with
    | .normal => (normC ycx ycy st').bind fun nf => K1 .normal (denorm ycx st'.n nf)
    | e => (normC (ycz e) (yd0 e) st').bind fun nf => K e (denorm (ycz e) st'.n nf)) = I_putWide_m4_g0 k p v (fun v' => K1 .normal (yd1 (p, v'))) (fun x => K (.exit 0) (yd4 p x)) := by kernel_rfl
theorem yd9 {ρ : Type} (k : Nat) : Sound Try.prog (.loop ycn) (yd5 ρ k 0 fun st K => ev (yck k) (yd5 ρ k) 0 ycn st K) :=
  loop_ok (ev_sound (ycl k) ycn 0 (lpgood_of (l := [(2, yco)]) (by kernel_rfl) ⟨yd7 k, trivial⟩)) ycz yd0 k (g := fun p v next K => I_putWide_m4_g0 k p v next (fun x => K (.exit 0) (yd4 p x))) (dec_at yd3) (fun p v K K1 => yd8 k p v K K1)
def yda (a : List Int) : List SV := [.nilS, .r [] (.sl (.int .i64) a)]
def ydb (a : List Int) : List Blk := []
def ydc (l : List SV) (b : List Blk) : Option (List Int) := match l, b with
  | [.nilS, .r [] (.sl (.int .i64) w0)], [] => some w0
  | _, _ => none
def ydd (a : List Int) (r : List Int) : MOut := ⟨.own 0, [], [.arr none (.int .u8) r]⟩
def yde (a : List Int) (o : MOut) : Option (List Int) := match o with
  | ⟨.own 0, [], [.arr none (.int .u8) z1]⟩ => some z1
  | _ => none
def ydf (k : Nat) : MG := fun _ l b K => (ydc l b).bind fun a => (I_putWide_m4 k a).bind fun r => K (ydd a r)
theorem ydg (k : Nat) (a : List Int) : ev (yck k) (yd5 (List Int) k) 0 ycm (st0M Try.f105 (yda a) (ydb a)) (finM Try.prog Try.f105 (.own (.int .u8)) [] (yde a)) = I_putWide_m4 k a := by kernel_rfl
theorem ydh (k : Nat) : MutOk Try.prog 105 (ydf k) :=
  mutOk_of_ev (ycl k) Try.func105 (by kernel_rfl) (by kernel_rfl) yda ydb ydc
    (fun l b a h => by unfold ydc at h; split at h <;> first | (cases h; exact ⟨rfl, rfl⟩) | cases h) (fun a => rfl) (lpgood_of (l := [(0, ycn)]) (by kernel_rfl) ⟨yd9 k, trivial⟩) (fun a r => rfl)
    (fun a o r h => by unfold yde at h; split at h <;> first | (skip; cases h; rfl) | cases h) (ydg k)
def ydi (k : Nat) : Orc := mutOrc [.keep, .one (.sl (.int .i64))] (ydf k)
theorem ydj (k : Nat) : OrcOk Try.prog 105 (ydi k) := mutOrc_ok (ydh k)
noncomputable def ydk (k : Nat) : Env := { P := Try.prog, tt := tt, orc := fun g => noOrc }
theorem ydl (k : Nat) : EnvOk (ydk k) := fun g => (noOrc_ok _ _)
noncomputable def ydm : Code := (Try.f105.body).getD .skip
noncomputable def ydn : Code := ((loopsIn 0 ydm).getD 0 (0, .skip)).2
noncomputable def ydo : Code := ((loopsIn 0 ydn).getD 0 (0, .skip)).2
def ydp : List Nat := [0, 7, 8, 9, 10]
def ydq : List (Where × Co) := []
def ydr : Ex → List Nat
  | .exit j => cond (Nat.beq j 2) [0, 7, 8, 9, 10] []
  | .ret => []
  | .normal => []
def yds : Ex → List (Where × Co)
  | .exit j => cond (Nat.beq j 2) [] []
  | .ret => []
  | .normal => []
def ydt (pv : (List Int × Int × Int) × (Int × List Int)) : St := { slots := [(0, .own 0), (7, .r [] (.int .i64 pv.2.1)), (8, .r [] (.sl (.int .i64) pv.1.1)), (9, .r [] (.int .i64 pv.1.2.1)), (10, .r [] (.int .i64 pv.1.2.2))], heap := [(0, .arr none (.int .u8) pv.2.2)], nid := 1, n := 38, gh := [none] }
def ydu (nf : NF) : Option ((List Int × Int × Int) × (Int × List Int)) := match nf with
  | ([.own 0, .r [] (.int .i64 w0), .r [] (.sl (.int .i64) w1), .r [] (.int .i64 w2), .r [] (.int .i64 w3)], [.arr none (.int .u8) w4], [none]) => some ((w1, w2, w3), (w0, w4))
  | _ => none
theorem ydv (nf : NF) (v : (List Int × Int × Int) × (Int × List Int)) (h : ydu nf = some v) : denorm ydp 38 nf = ydt v := by
  unfold ydu at h
  split at h
  · cases h; rfl
  · cases h
def ydw (p : List Int × Int × Int) (x : Int × List Int) : St := { slots := [(0, .own 0), (7, .r [] (.int .i64 x.1)), (8, .r [] (.sl (.int .i64) p.1)), (9, .r [] (.int .i64 p.2.1)), (10, .r [] (.int .i64 p.2.2))], heap := [(0, .arr none (.int .u8) x.2)], nid := 1, n := 38, gh := [none] }
def ydx : List Nat := [0, 8, 9, 10]
def ydy : List (Where × Co) := [((.gh 0), .drop)]
def ydz : Ex → List Nat
  | .exit j => cond (Nat.beq j 0) [0] []
  | .ret => []
  | .normal => []
def ye0 : Ex → List (Where × Co)
  | .exit j => cond (Nat.beq j 0) [] []
  | .ret => []
  | .normal => []
def ye1 (pv : (List Int × Int) × (Int × List Int)) : St := { slots := [(0, .own 0), (8, .r [] (.sl (.int .i64) pv.1.1)), (9, .r [] (.int .i64 pv.1.2)), (10, .r [] (.int .i64 pv.2.1))], heap := [(0, .arr none (.int .u8) pv.2.2)], nid := 1, n := 38, gh := [none] }
def ye2 (nf : NF) : Option ((List Int × Int) × (Int × List Int)) := match nf with
  | ([.own 0, .r [] (.sl (.int .i64) w0), .r [] (.int .i64 w1), .r [] (.int .i64 w2)], [.arr none (.int .u8) w3], [none]) => some ((w0, w1), (w2, w3))
  | _ => none
theorem ye3 (nf : NF) (v : (List Int × Int) × (Int × List Int)) (h : ye2 nf = some v) : denorm ydx 38 nf = ye1 v := by
  unfold ye2 at h
  split at h
  · cases h; rfl
  · cases h
def ye4 (p : List Int × Int) (x : List Int) : St := { slots := [(0, .own 0)], heap := [(0, .arr none (.int .u8) x)], nid := 1, n := 38, gh := [none] }
def ye5 (ρ : Type) (k : Nat) : Nat → Ev ρ → Ev ρ := fun id f => cond (Nat.beq id 0) (loopOrc ydx ydy (fun n nf => cond (Nat.beq n 38) (ye2 nf) none) fun pv K => iter (fun v next => I_putWide_m5_g0 k pv.1 v next (fun x => K (.exit 0) (ye4 pv.1 x))) k pv.2) ((fun id f => cond (Nat.beq id 2) (loopOrc ydp ydq (fun n nf => cond (Nat.beq n 38) (ydu nf) none) fun pv K => iter (fun v next => I_putWide_m5_g1 k pv.1 v next (fun x => K (.exit 2) (ydw pv.1 x))) k pv.2) ((fun _ _ _ _ => none) id f)) id f)
theorem ye6 {ρ : Type} (k : Nat) (p : List Int × Int × Int) (v : Int × List Int) (K K1 : Ex → St → Option ρ) : ev (ydk k) (ye5 ρ k) 2 ydo (ydt (p, v)) (fun e st' => match e with
    | .normal => (normC ydp ydq st').bind fun nf => K1 .normal (denorm ydp st'.n nf)
    | e => (normC (ydr e) (yds e) st').bind fun nf => K e (denorm (ydr e) st'.n nf)) = I_putWide_m5_g1 k p v (fun v' => K1 .normal (ydt (p, v'))) (fun x => K (.exit 2) (ydw p x)) := by kernel_rfl
theorem ye7 {ρ : Type} (k : Nat) : Sound Try.prog (.loop ydo) (ye5 ρ k 2 fun st K => ev (ydk k) (ye5 ρ k) 2 ydo st K) :=
  loop_ok (ev_sound (ydl k) ydo 2 (lpgood_none (by kernel_rfl))) ydr yds k (g := fun p v next K => I_putWide_m5_g1 k p v next (fun x => K (.exit 2) (ydw p x))) (dec_at ydv) (fun p v K K1 => ye6 k p v K K1)
theorem ye8 {ρ : Type} (k : Nat) (p : List Int × Int) (v : Int × List Int) (K K1 : Ex → St → Option ρ) : ev (ydk k) (ye5 ρ k) 0 ydn (ye1 (p, v)) (fun e st' => match e with
    | .normal => (normC ydx ydy st').bind fun nf => K1 .normal (denorm ydx st'.n nf)
    | e => (normC (ydz e) (ye0 e) st').bind fun nf => K e (denorm (ydz e) st'.n nf)) = I_putWide_m5_g0 k p v (fun v' => K1 .normal (ye1 (p, v'))) (fun x => K (.exit 0) (ye4 p x)) := by kernel_rfl
theorem ye9 {ρ : Type} (k : Nat) : Sound Try.prog (.loop ydn) (ye5 ρ k 0 fun st K => ev (ydk k) (ye5 ρ k) 0 ydn st K) :=
  loop_ok (ev_sound (ydl k) ydn 0 (lpgood_of (l := [(2, ydo)]) (by kernel_rfl) ⟨ye7 k, trivial⟩)) ydz ye0 k (g := fun p v next K => I_putWide_m5_g0 k p v next (fun x => K (.exit 0) (ye4 p x))) (dec_at ye3) (fun p v K K1 => ye8 k p v K K1)
def yea (a : List Int × List Int) : List SV := [.own 0, .r [] (.sl (.int .i64) a.2)]
def yeb (a : List Int × List Int) : List Blk := [.arr none (.int .u8) a.1]
def yec (l : List SV) (b : List Blk) : Option (List Int × List Int) := match l, b with
  | [.own 0, .r [] (.sl (.int .i64) w0)], [.arr none (.int .u8) w1] => some (w1, w0)
  | _, _ => none
def yed (a : List Int × List Int) (r : List Int) : MOut := ⟨.own 1, [none], [.arr none (.int .u8) r]⟩
def yee (a : List Int × List Int) (o : MOut) : Option (List Int) := match o with
  | ⟨.own 1, [none], [.arr none (.int .u8) z1]⟩ => some z1
  | _ => none
def yef (k : Nat) : MG := fun _ l b K => (yec l b).bind fun a => (I_putWide_m5 k a.1 a.2).bind fun r => K (yed a r)
theorem yeg (k : Nat) (a : List Int × List Int) : ev (ydk k) (ye5 (List Int) k) 0 ydm (st0M Try.f105 (yea a) (yeb a)) (finM Try.prog Try.f105 (.own (.int .u8)) [.gone] (yee a)) = I_putWide_m5 k a.1 a.2 := by kernel_rfl
theorem yeh (k : Nat) : MutOk Try.prog 105 (yef k) :=
  mutOk_of_ev (ydl k) Try.func105 (by kernel_rfl) (by kernel_rfl) yea yeb yec
    (fun l b a h => by unfold yec at h; split at h <;> first | (cases h; exact ⟨rfl, rfl⟩) | cases h) (fun a => rfl) (lpgood_of (l := [(0, ydn)]) (by kernel_rfl) ⟨ye9 k, trivial⟩) (fun a r => rfl)
    (fun a o r h => by unfold yee at h; split at h <;> first | (skip; cases h; rfl) | cases h) (yeg k)
def yei (k : Nat) : Orc := mutOrc [.keep, .one (.sl (.int .i64))] (yef k)
theorem yej (k : Nat) : OrcOk Try.prog 105 (yei k) := mutOrc_ok (yeh k)
noncomputable def yek (k : Nat) : Env := { P := Try.prog, tt := tt, orc := fun g => cond (Nat.beq g 104) (yci k) (cond (Nat.beq g 105) (altB (mutT [.keep, .one (.sl (.int .i64))] yec) (yei k) (ydi k)) (noOrc)), wr := fun g => mem g [105], wt := true }
theorem yel (k : Nat) : EnvOk (yek k) := fun g => (orc_cond (ycj k) (orc_cond (altB_ok (yej k) (ydj k)) (noOrc_ok _ _)))
noncomputable def yem : Code := (Try.f17.body).getD .skip
def yen (ρ : Type) (k : Nat) : Nat → Ev ρ → Ev ρ := fun _ _ _ _ => none
def yeo (a : Step) : List Arg := [.agg [.int .i64 a.kind, .int .i64 a.a, .int .i64 a.b, .sl (.int .u8) a.data, .int .i64 a.input.sh.h, .int .i64 a.input.sh.w, .int .i64 a.input.sh.c, .sl (.int .i64) a.input.data]]
def yep (l : List Arg) : Option (Step) := match l with
  | [.agg [.int .i64 b0_0, .int .i64 b0_1, .int .i64 b0_2, .sl (.int .u8) b0_3, .int .i64 b0_4, .int .i64 b0_5, .int .i64 b0_6, .sl (.int .i64) b0_7]] => some (⟨b0_0, b0_1, b0_2, b0_3, (⟨(⟨b0_4, b0_5, b0_6⟩ : Shape), b0_7⟩ : Tensor)⟩ : Step)
  | _ => none
def yeq (r : List Int × Bool) : Out := (.tup [.own 0, .r [] (.bool r.2)], [.arr none (.int .u8) r.1])
def yer (o : Out) : Option (List Int × Bool) := match o with
  | (.tup [.own 0, .r [] (.bool z2)], [.arr none (.int .u8) z1]) => some (z1, z2)
  | _ => none
def yet (k : Nat) : PG := fun _ l K => (yep l).bind fun a => (I_PutStep k a).bind fun r => K (yeq r)
theorem yeu (k : Nat) (a : Step) : ev (yek k) (yen (List Int × Bool) k) 0 yem (st0 Try.f17 (yeo a)) (fin Try.prog Try.f17 (.tup [.own (.int .u8), .sc]) yer) = I_PutStep k a := by kernel_rfl
theorem yev (k : Nat) : PureOk Try.prog 17 (yet k) :=
  pureOk_of_ev (yel k) Try.func17 (by kernel_rfl) (by kernel_rfl) yeo yep
    (fun l a h => by unfold yep at h; split at h <;> first | (cases h; rfl) | cases h) (fun a => rfl) (lpgood_none (by kernel_rfl))
    (fun o r h => by unfold yer at h; split at h <;> first | (cases h; rfl) | cases h) (yeu k)
def yew (k : Nat) : Orc := pureOrc [.agg [(.int .i64), (.int .i64), (.int .i64), (.sl (.int .u8)), (.int .i64), (.int .i64), (.int .i64), (.sl (.int .i64))]] (yet k)
theorem yex (k : Nat) : OrcOk Try.prog 17 (yew k) := pureOrc_ok (yev k)
noncomputable def yey (k : Nat) : Env := { P := Try.prog, tt := tt, orc := fun g => noOrc }
theorem yez (k : Nat) : EnvOk (yey k) := fun g => (noOrc_ok _ _)
noncomputable def yf0 : Code := (Try.f18.body).getD .skip
noncomputable def yf1 : Code := ((loopsIn 0 yf0).getD 0 (0, .skip)).2
def yf2 : List Nat := [0, 1, 5]
def yf3 : List (Where × Co) := []
def yf4 : Ex → List Nat
  | .exit j => cond (Nat.beq j 0) [] []
  | .ret => [4]
  | .normal => []
def yf5 : Ex → List (Where × Co)
  | .exit j => cond (Nat.beq j 0) [] []
  | .ret => []
  | .normal => []
def yf6 (pv : (List Int × List Int) × (Int)) : St := { slots := [(0, .r [] (.sl (.int .u8) pv.1.1)), (1, .r [] (.sl (.int .u8) pv.1.2)), (5, .r [] (.int .i64 pv.2))], heap := [], nid := 0, n := 26, gh := [] }
def yf7 (nf : NF) : Option ((List Int × List Int) × (Int)) := match nf with
  | ([.r [] (.sl (.int .u8) w0), .r [] (.sl (.int .u8) w1), .r [] (.int .i64 w2)], [], []) => some ((w0, w1), w2)
  | _ => none
theorem yf8 (nf : NF) (v : (List Int × List Int) × (Int)) (h : yf7 nf = some v) : denorm yf2 26 nf = yf6 v := by
  unfold yf7 at h
  split at h
  · cases h; rfl
  · cases h
def yf9 (p : List Int × List Int) (x : Unit) : St := { slots := [], heap := [], nid := 0, n := 26, gh := [] }
def yfa (p : List Int × List Int) (x : Bool) : St := { slots := [(4, .r [] (.bool x))], heap := [], nid := 0, n := 26, gh := [] }
def yfb (ρ : Type) (k : Nat) : Nat → Ev ρ → Ev ρ := fun id f => cond (Nat.beq id 0) (loopOrc yf2 yf3 (fun n nf => cond (Nat.beq n 26) (yf7 nf) none) fun pv K => iter (fun v next => L_eqByteS_g0 k pv.1 v next (fun x => K (.exit 0) (yf9 pv.1 x)) (fun x => K .ret (yfa pv.1 x))) k pv.2) ((fun _ _ _ _ => none) id f)
theorem yfc {ρ : Type} (k : Nat) (p : List Int × List Int) (v : Int) (K K1 : Ex → St → Option ρ) : ev (yey k) (yfb ρ k) 0 yf1 (yf6 (p, v)) (fun e st' => match e with
    | .normal => (normC yf2 yf3 st').bind fun nf => K1 .normal (denorm yf2 st'.n nf)
    | e => (normC (yf4 e) (yf5 e) st').bind fun nf => K e (denorm (yf4 e) st'.n nf)) = L_eqByteS_g0 k p v (fun v' => K1 .normal (yf6 (p, v'))) (fun x => K (.exit 0) (yf9 p x)) (fun x => K .ret (yfa p x)) := by kernel_rfl
theorem yfd {ρ : Type} (k : Nat) : Sound Try.prog (.loop yf1) (yfb ρ k 0 fun st K => ev (yey k) (yfb ρ k) 0 yf1 st K) :=
  loop_ok (ev_sound (yez k) yf1 0 (lpgood_none (by kernel_rfl))) yf4 yf5 k (g := fun p v next K => L_eqByteS_g0 k p v next (fun x => K (.exit 0) (yf9 p x)) (fun x => K .ret (yfa p x))) (dec_at yf8) (fun p v K K1 => yfc k p v K K1)
def yfe (a : List Int × List Int) : List Arg := [.one (.sl (.int .u8) a.1), .one (.sl (.int .u8) a.2)]
def yff (l : List Arg) : Option (List Int × List Int) := match l with
  | [.one (.sl (.int .u8) b0), .one (.sl (.int .u8) b1)] => some (b0, b1)
  | _ => none
def yfg (r : Bool) : Out := (.r [] (.bool r), [])
def yfh (o : Out) : Option (Bool) := match o with
  | (.r [] (.bool z1), []) => some z1
  | _ => none
def yfi (k : Nat) : PG := fun _ l K => (yff l).bind fun a => (L_eqByteS k a.1 a.2).bind fun r => K (yfg r)
theorem yfj (k : Nat) (a : List Int × List Int) : ev (yey k) (yfb (Bool) k) 0 yf0 (st0 Try.f18 (yfe a)) (fin Try.prog Try.f18 (.sc) yfh) = L_eqByteS k a.1 a.2 := by kernel_rfl
theorem yfk (k : Nat) : PureOk Try.prog 18 (yfi k) :=
  pureOk_of_ev (yez k) Try.func18 (by kernel_rfl) (by kernel_rfl) yfe yff
    (fun l a h => by unfold yff at h; split at h <;> first | (cases h; rfl) | cases h) (fun a => rfl) (lpgood_of (l := [(0, yf1)]) (by kernel_rfl) ⟨yfd k, trivial⟩)
    (fun o r h => by unfold yfh at h; split at h <;> first | (cases h; rfl) | cases h) (yfj k)
def yfl (k : Nat) : Orc := pureOrc [.one (.sl (.int .u8)), .one (.sl (.int .u8))] (yfi k)
theorem yfm (k : Nat) : OrcOk Try.prog 18 (yfl k) := pureOrc_ok (yfk k)
noncomputable def yfn (k : Nat) : Env := { P := Try.prog, tt := tt, orc := fun g => noOrc }
theorem yfo (k : Nat) : EnvOk (yfn k) := fun g => (noOrc_ok _ _)
noncomputable def yfp : Code := (Try.f151.body).getD .skip
def yfq (ρ : Type) (k : Nat) : Nat → Ev ρ → Ev ρ := fun _ _ _ _ => none
def yfr (a : Shape × Shape) : List Arg := [.agg [.int .i64 a.1.h, .int .i64 a.1.w, .int .i64 a.1.c], .agg [.int .i64 a.2.h, .int .i64 a.2.w, .int .i64 a.2.c]]
def yfs (l : List Arg) : Option (Shape × Shape) := match l with
  | [.agg [.int .i64 b0_0, .int .i64 b0_1, .int .i64 b0_2], .agg [.int .i64 b1_0, .int .i64 b1_1, .int .i64 b1_2]] => some ((⟨b0_0, b0_1, b0_2⟩ : Shape), (⟨b1_0, b1_1, b1_2⟩ : Shape))
  | _ => none
def yft (r : Bool) : Out := (.r [] (.bool r), [])
def yfu (o : Out) : Option (Bool) := match o with
  | (.r [] (.bool z1), []) => some z1
  | _ => none
def yfv (k : Nat) : PG := fun _ l K => (yfs l).bind fun a => (L_eqShape k a.1 a.2).bind fun r => K (yft r)
theorem yfw (k : Nat) (a : Shape × Shape) : ev (yfn k) (yfq (Bool) k) 0 yfp (st0 Try.f151 (yfr a)) (fin Try.prog Try.f151 (.sc) yfu) = L_eqShape k a.1 a.2 := by kernel_rfl
theorem yfx (k : Nat) : PureOk Try.prog 151 (yfv k) :=
  pureOk_of_ev (yfo k) Try.func151 (by kernel_rfl) (by kernel_rfl) yfr yfs
    (fun l a h => by unfold yfs at h; split at h <;> first | (cases h; rfl) | cases h) (fun a => rfl) (lpgood_none (by kernel_rfl))
    (fun o r h => by unfold yfu at h; split at h <;> first | (cases h; rfl) | cases h) (yfw k)
def yfy (k : Nat) : Orc := pureOrc [.agg [(.int .i64), (.int .i64), (.int .i64)], .agg [(.int .i64), (.int .i64), (.int .i64)]] (yfv k)
theorem yfz (k : Nat) : OrcOk Try.prog 151 (yfy k) := pureOrc_ok (yfx k)
noncomputable def yg0 (k : Nat) : Env := { P := Try.prog, tt := tt, orc := fun g => noOrc }
theorem yg1 (k : Nat) : EnvOk (yg0 k) := fun g => (noOrc_ok _ _)
noncomputable def yg2 : Code := (Try.f66.body).getD .skip
noncomputable def yg3 : Code := ((loopsIn 0 yg2).getD 0 (0, .skip)).2
def yg4 : List Nat := [0, 1, 5]
def yg5 : List (Where × Co) := []
def yg6 : Ex → List Nat
  | .exit j => cond (Nat.beq j 0) [] []
  | .ret => [4]
  | .normal => []
def yg7 : Ex → List (Where × Co)
  | .exit j => cond (Nat.beq j 0) [] []
  | .ret => []
  | .normal => []
def yg8 (pv : (List Int × List Int) × (Int)) : St := { slots := [(0, .r [] (.sl (.int .i64) pv.1.1)), (1, .r [] (.sl (.int .i64) pv.1.2)), (5, .r [] (.int .i64 pv.2))], heap := [], nid := 0, n := 26, gh := [] }
def yg9 (nf : NF) : Option ((List Int × List Int) × (Int)) := match nf with
  | ([.r [] (.sl (.int .i64) w0), .r [] (.sl (.int .i64) w1), .r [] (.int .i64 w2)], [], []) => some ((w0, w1), w2)
  | _ => none
theorem yga (nf : NF) (v : (List Int × List Int) × (Int)) (h : yg9 nf = some v) : denorm yg4 26 nf = yg8 v := by
  unfold yg9 at h
  split at h
  · cases h; rfl
  · cases h
def ygb (p : List Int × List Int) (x : Unit) : St := { slots := [], heap := [], nid := 0, n := 26, gh := [] }
def ygc (p : List Int × List Int) (x : Bool) : St := { slots := [(4, .r [] (.bool x))], heap := [], nid := 0, n := 26, gh := [] }
def ygd (ρ : Type) (k : Nat) : Nat → Ev ρ → Ev ρ := fun id f => cond (Nat.beq id 0) (loopOrc yg4 yg5 (fun n nf => cond (Nat.beq n 26) (yg9 nf) none) fun pv K => iter (fun v next => L_eqIntS_g0 k pv.1 v next (fun x => K (.exit 0) (ygb pv.1 x)) (fun x => K .ret (ygc pv.1 x))) k pv.2) ((fun _ _ _ _ => none) id f)
theorem yge {ρ : Type} (k : Nat) (p : List Int × List Int) (v : Int) (K K1 : Ex → St → Option ρ) : ev (yg0 k) (ygd ρ k) 0 yg3 (yg8 (p, v)) (fun e st' => match e with
    | .normal => (normC yg4 yg5 st').bind fun nf => K1 .normal (denorm yg4 st'.n nf)
    | e => (normC (yg6 e) (yg7 e) st').bind fun nf => K e (denorm (yg6 e) st'.n nf)) = L_eqIntS_g0 k p v (fun v' => K1 .normal (yg8 (p, v'))) (fun x => K (.exit 0) (ygb p x)) (fun x => K .ret (ygc p x)) := by kernel_rfl
theorem ygf {ρ : Type} (k : Nat) : Sound Try.prog (.loop yg3) (ygd ρ k 0 fun st K => ev (yg0 k) (ygd ρ k) 0 yg3 st K) :=
  loop_ok (ev_sound (yg1 k) yg3 0 (lpgood_none (by kernel_rfl))) yg6 yg7 k (g := fun p v next K => L_eqIntS_g0 k p v next (fun x => K (.exit 0) (ygb p x)) (fun x => K .ret (ygc p x))) (dec_at yga) (fun p v K K1 => yge k p v K K1)
def ygg (a : List Int × List Int) : List Arg := [.one (.sl (.int .i64) a.1), .one (.sl (.int .i64) a.2)]
def ygh (l : List Arg) : Option (List Int × List Int) := match l with
  | [.one (.sl (.int .i64) b0), .one (.sl (.int .i64) b1)] => some (b0, b1)
  | _ => none
def ygi (r : Bool) : Out := (.r [] (.bool r), [])
def ygj (o : Out) : Option (Bool) := match o with
  | (.r [] (.bool z1), []) => some z1
  | _ => none
def ygk (k : Nat) : PG := fun _ l K => (ygh l).bind fun a => (L_eqIntS k a.1 a.2).bind fun r => K (ygi r)
theorem ygl (k : Nat) (a : List Int × List Int) : ev (yg0 k) (ygd (Bool) k) 0 yg2 (st0 Try.f66 (ygg a)) (fin Try.prog Try.f66 (.sc) ygj) = L_eqIntS k a.1 a.2 := by kernel_rfl
theorem ygm (k : Nat) : PureOk Try.prog 66 (ygk k) :=
  pureOk_of_ev (yg1 k) Try.func66 (by kernel_rfl) (by kernel_rfl) ygg ygh
    (fun l a h => by unfold ygh at h; split at h <;> first | (cases h; rfl) | cases h) (fun a => rfl) (lpgood_of (l := [(0, yg3)]) (by kernel_rfl) ⟨ygf k, trivial⟩)
    (fun o r h => by unfold ygj at h; split at h <;> first | (cases h; rfl) | cases h) (ygl k)
def ygn (k : Nat) : Orc := pureOrc [.one (.sl (.int .i64)), .one (.sl (.int .i64))] (ygk k)
theorem ygo (k : Nat) : OrcOk Try.prog 66 (ygn k) := pureOrc_ok (ygm k)
noncomputable def ygp (k : Nat) : Env := { P := Try.prog, tt := tt, orc := fun g => cond (Nat.beq g 66) (ygn k) (cond (Nat.beq g 151) (yfy k) (noOrc)) }
theorem ygq (k : Nat) : EnvOk (ygp k) := fun g => (orc_cond (ygo k) (orc_cond (yfz k) (noOrc_ok _ _)))
noncomputable def ygr : Code := (Try.f59.body).getD .skip
def ygs (ρ : Type) (k : Nat) : Nat → Ev ρ → Ev ρ := fun _ _ _ _ => none
def ygt (a : Tensor × Tensor) : List Arg := [.agg [.int .i64 a.1.sh.h, .int .i64 a.1.sh.w, .int .i64 a.1.sh.c, .sl (.int .i64) a.1.data], .agg [.int .i64 a.2.sh.h, .int .i64 a.2.sh.w, .int .i64 a.2.sh.c, .sl (.int .i64) a.2.data]]
def ygu (l : List Arg) : Option (Tensor × Tensor) := match l with
  | [.agg [.int .i64 b0_0, .int .i64 b0_1, .int .i64 b0_2, .sl (.int .i64) b0_3], .agg [.int .i64 b1_0, .int .i64 b1_1, .int .i64 b1_2, .sl (.int .i64) b1_3]] => some ((⟨(⟨b0_0, b0_1, b0_2⟩ : Shape), b0_3⟩ : Tensor), (⟨(⟨b1_0, b1_1, b1_2⟩ : Shape), b1_3⟩ : Tensor))
  | _ => none
def ygv (r : Bool) : Out := (.r [] (.bool r), [])
def ygw (o : Out) : Option (Bool) := match o with
  | (.r [] (.bool z1), []) => some z1
  | _ => none
def ygx (k : Nat) : PG := fun _ l K => (ygu l).bind fun a => (L_eqTensor k a.1 a.2).bind fun r => K (ygv r)
theorem ygy (k : Nat) (a : Tensor × Tensor) : ev (ygp k) (ygs (Bool) k) 0 ygr (st0 Try.f59 (ygt a)) (fin Try.prog Try.f59 (.sc) ygw) = L_eqTensor k a.1 a.2 := by kernel_rfl
theorem ygz (k : Nat) : PureOk Try.prog 59 (ygx k) :=
  pureOk_of_ev (ygq k) Try.func59 (by kernel_rfl) (by kernel_rfl) ygt ygu
    (fun l a h => by unfold ygu at h; split at h <;> first | (cases h; rfl) | cases h) (fun a => rfl) (lpgood_none (by kernel_rfl))
    (fun o r h => by unfold ygw at h; split at h <;> first | (cases h; rfl) | cases h) (ygy k)
def yh0 (k : Nat) : Orc := pureOrc [.agg [(.int .i64), (.int .i64), (.int .i64), (.sl (.int .i64))], .agg [(.int .i64), (.int .i64), (.int .i64), (.sl (.int .i64))]] (ygx k)
theorem yh1 (k : Nat) : OrcOk Try.prog 59 (yh0 k) := pureOrc_ok (ygz k)
noncomputable def yh2 (k : Nat) : Env := { P := Try.prog, tt := tt, orc := fun g => cond (Nat.beq g 18) (yfl k) (cond (Nat.beq g 59) (yh0 k) (noOrc)) }
theorem yh3 (k : Nat) : EnvOk (yh2 k) := fun g => (orc_cond (yfm k) (orc_cond (yh1 k) (noOrc_ok _ _)))
noncomputable def yh4 : Code := (Try.f19.body).getD .skip
def yh5 (ρ : Type) (k : Nat) : Nat → Ev ρ → Ev ρ := fun _ _ _ _ => none
def yh6 (a : Step × Step) : List Arg := [.agg [.int .i64 a.1.kind, .int .i64 a.1.a, .int .i64 a.1.b, .sl (.int .u8) a.1.data, .int .i64 a.1.input.sh.h, .int .i64 a.1.input.sh.w, .int .i64 a.1.input.sh.c, .sl (.int .i64) a.1.input.data], .agg [.int .i64 a.2.kind, .int .i64 a.2.a, .int .i64 a.2.b, .sl (.int .u8) a.2.data, .int .i64 a.2.input.sh.h, .int .i64 a.2.input.sh.w, .int .i64 a.2.input.sh.c, .sl (.int .i64) a.2.input.data]]
def yh7 (l : List Arg) : Option (Step × Step) := match l with
  | [.agg [.int .i64 b0_0, .int .i64 b0_1, .int .i64 b0_2, .sl (.int .u8) b0_3, .int .i64 b0_4, .int .i64 b0_5, .int .i64 b0_6, .sl (.int .i64) b0_7], .agg [.int .i64 b1_0, .int .i64 b1_1, .int .i64 b1_2, .sl (.int .u8) b1_3, .int .i64 b1_4, .int .i64 b1_5, .int .i64 b1_6, .sl (.int .i64) b1_7]] => some ((⟨b0_0, b0_1, b0_2, b0_3, (⟨(⟨b0_4, b0_5, b0_6⟩ : Shape), b0_7⟩ : Tensor)⟩ : Step), (⟨b1_0, b1_1, b1_2, b1_3, (⟨(⟨b1_4, b1_5, b1_6⟩ : Shape), b1_7⟩ : Tensor)⟩ : Step))
  | _ => none
def yh8 (r : Bool) : Out := (.r [] (.bool r), [])
def yh9 (o : Out) : Option (Bool) := match o with
  | (.r [] (.bool z1), []) => some z1
  | _ => none
def yha (k : Nat) : PG := fun _ l K => (yh7 l).bind fun a => (L_eqStep k a.1 a.2).bind fun r => K (yh8 r)
theorem yhb (k : Nat) (a : Step × Step) : ev (yh2 k) (yh5 (Bool) k) 0 yh4 (st0 Try.f19 (yh6 a)) (fin Try.prog Try.f19 (.sc) yh9) = L_eqStep k a.1 a.2 := by kernel_rfl
theorem yhc (k : Nat) : PureOk Try.prog 19 (yha k) :=
  pureOk_of_ev (yh3 k) Try.func19 (by kernel_rfl) (by kernel_rfl) yh6 yh7
    (fun l a h => by unfold yh7 at h; split at h <;> first | (cases h; rfl) | cases h) (fun a => rfl) (lpgood_none (by kernel_rfl))
    (fun o r h => by unfold yh9 at h; split at h <;> first | (cases h; rfl) | cases h) (yhb k)
def yhd (k : Nat) : Orc := pureOrc [.agg [(.int .i64), (.int .i64), (.int .i64), (.sl (.int .u8)), (.int .i64), (.int .i64), (.int .i64), (.sl (.int .i64))], .agg [(.int .i64), (.int .i64), (.int .i64), (.sl (.int .u8)), (.int .i64), (.int .i64), (.int .i64), (.sl (.int .i64))]] (yha k)
theorem yhe (k : Nat) : OrcOk Try.prog 19 (yhd k) := pureOrc_ok (yhc k)
noncomputable def yhf (k : Nat) : Env := { P := Try.prog, tt := tt, orc := fun g => noOrc }
theorem yhg (k : Nat) : EnvOk (yhf k) := fun g => (noOrc_ok _ _)
noncomputable def yhh : Code := (Try.f21.body).getD .skip
noncomputable def yhi : Code := ((loopsIn 0 yhh).getD 0 (0, .skip)).2
def yhj : List Nat := [0, 1, 5]
def yhk : List (Where × Co) := []
def yhl : Ex → List Nat
  | .exit j => cond (Nat.beq j 0) [1] []
  | .ret => []
  | .normal => []
def yhm : Ex → List (Where × Co)
  | .exit j => cond (Nat.beq j 0) [] []
  | .ret => []
  | .normal => []
def yhn (pv : (Unit) × (Int × Int × List Int)) : St := { slots := [(0, .own 0), (1, .r [] (.int .i64 pv.2.1)), (5, .r [] (.int .i64 pv.2.2.1))], heap := [(0, .arr none (.int .u8) pv.2.2.2)], nid := 1, n := 20, gh := [some 0] }
def yho (nf : NF) : Option ((Unit) × (Int × Int × List Int)) := match nf with
  | ([.own 0, .r [] (.int .i64 w0), .r [] (.int .i64 w1)], [.arr none (.int .u8) w2], [some 0]) => some ((), (w0, w1, w2))
  | _ => none
theorem yhp (nf : NF) (v : (Unit) × (Int × Int × List Int)) (h : yho nf = some v) : denorm yhj 20 nf = yhn v := by
  unfold yho at h
  split at h
  · cases h; rfl
  · cases h
def yhq (p : Unit) (x : Int × List Int) : St := { slots := [(1, .r [] (.int .i64 x.1))], heap := [(0, .arr none (.int .u8) x.2)], nid := 1, n := 20, gh := [some 0] }
def yhr (ρ : Type) (k : Nat) : Nat → Ev ρ → Ev ρ := fun id f => cond (Nat.beq id 0) (loopOrc yhj yhk (fun n nf => cond (Nat.beq n 20) (yho nf) none) fun pv K => iter (fun v next => L_markByteS_m3_g0 k pv.1 v next (fun x => K (.exit 0) (yhq pv.1 x))) k pv.2) ((fun _ _ _ _ => none) id f)
theorem yhs {ρ : Type} (k : Nat) (p : Unit) (v : Int × Int × List Int) (K K1 : Ex → St → Option ρ) : ev (yhf k) (yhr ρ k) 0 yhi (yhn (p, v)) (fun e st' => match e with
    | .normal => (normC yhj yhk st').bind fun nf => K1 .normal (denorm yhj st'.n nf)
    | e => (normC (yhl e) (yhm e) st').bind fun nf => K e (denorm (yhl e) st'.n nf)) = L_markByteS_m3_g0 k p v (fun v' => K1 .normal (yhn (p, v'))) (fun x => K (.exit 0) (yhq p x)) := by kernel_rfl
theorem yht {ρ : Type} (k : Nat) : Sound Try.prog (.loop yhi) (yhr ρ k 0 fun st K => ev (yhf k) (yhr ρ k) 0 yhi st K) :=
  loop_ok (ev_sound (yhg k) yhi 0 (lpgood_none (by kernel_rfl))) yhl yhm k (g := fun p v next K => L_markByteS_m3_g0 k p v next (fun x => K (.exit 0) (yhq p x))) (dec_at yhp) (fun p v K K1 => yhs k p v K K1)
def yhu (a : List Int × Int) : List SV := [.own 0, .r [] (.int .i64 a.2)]
def yhv (a : List Int × Int) : List Blk := [.arr none (.int .u8) a.1]
def yhw (l : List SV) (b : List Blk) : Option (List Int × Int) := match l, b with
  | [.own 0, .r [] (.int .i64 w0)], [.arr none (.int .u8) w1] => some (w1, w0)
  | _, _ => none
def yhx (a : List Int × Int) (r : Int × List Int) : MOut := ⟨.r [] (.int .i64 r.1), [some (.arr none (.int .u8) r.2)], []⟩
def yhy (a : List Int × Int) (o : MOut) : Option (Int × List Int) := match o with
  | ⟨.r [] (.int .i64 z1), [some (.arr none (.int .u8) z2)], []⟩ => some (z1, z2)
  | _ => none
def yhz (k : Nat) : MG := fun _ l b K => (yhw l b).bind fun a => (L_markByteS_m3 k a.1 a.2).bind fun r => K (yhx a r)
theorem yi0 (k : Nat) (a : List Int × Int) : ev (yhf k) (yhr (Int × List Int) k) 0 yhh (st0M Try.f21 (yhu a) (yhv a)) (finM Try.prog Try.f21 (.sc) [.arr] (yhy a)) = L_markByteS_m3 k a.1 a.2 := by kernel_rfl
theorem yi1 (k : Nat) : MutOk Try.prog 21 (yhz k) :=
  mutOk_of_ev (yhg k) Try.func21 (by kernel_rfl) (by kernel_rfl) yhu yhv yhw
    (fun l b a h => by unfold yhw at h; split at h <;> first | (cases h; exact ⟨rfl, rfl⟩) | cases h) (fun a => rfl) (lpgood_of (l := [(0, yhi)]) (by kernel_rfl) ⟨yht k, trivial⟩) (fun a r => rfl)
    (fun a o r h => by unfold yhy at h; split at h <;> first | (skip; cases h; rfl) | cases h) (yi0 k)
def yi2 (k : Nat) : Orc := mutOrc [.keep, .keep] (yhz k)
theorem yi3 (k : Nat) : OrcOk Try.prog 21 (yi2 k) := mutOrc_ok (yi1 k)
noncomputable def yi4 (k : Nat) : Env := { P := Try.prog, tt := tt, orc := fun g => noOrc }
theorem yi5 (k : Nat) : EnvOk (yi4 k) := fun g => (noOrc_ok _ _)
noncomputable def yi6 : Code := (Try.f67.body).getD .skip
noncomputable def yi7 : Code := ((loopsIn 0 yi6).getD 0 (0, .skip)).2
def yi8 : List Nat := [0, 1, 5]
def yi9 : List (Where × Co) := []
def yia : Ex → List Nat
  | .exit j => cond (Nat.beq j 0) [1] []
  | .ret => []
  | .normal => []
def yib : Ex → List (Where × Co)
  | .exit j => cond (Nat.beq j 0) [] []
  | .ret => []
  | .normal => []
def yic (pv : (Unit) × (Int × Int × List Int)) : St := { slots := [(0, .own 0), (1, .r [] (.int .i64 pv.2.1)), (5, .r [] (.int .i64 pv.2.2.1))], heap := [(0, .arr none (.int .i64) pv.2.2.2)], nid := 1, n := 19, gh := [some 0] }
def yid (nf : NF) : Option ((Unit) × (Int × Int × List Int)) := match nf with
  | ([.own 0, .r [] (.int .i64 w0), .r [] (.int .i64 w1)], [.arr none (.int .i64) w2], [some 0]) => some ((), (w0, w1, w2))
  | _ => none
theorem yie (nf : NF) (v : (Unit) × (Int × Int × List Int)) (h : yid nf = some v) : denorm yi8 19 nf = yic v := by
  unfold yid at h
  split at h
  · cases h; rfl
  · cases h
def yif (p : Unit) (x : Int × List Int) : St := { slots := [(1, .r [] (.int .i64 x.1))], heap := [(0, .arr none (.int .i64) x.2)], nid := 1, n := 19, gh := [some 0] }
def yig (ρ : Type) (k : Nat) : Nat → Ev ρ → Ev ρ := fun id f => cond (Nat.beq id 0) (loopOrc yi8 yi9 (fun n nf => cond (Nat.beq n 19) (yid nf) none) fun pv K => iter (fun v next => L_markIntS_m3_g0 k pv.1 v next (fun x => K (.exit 0) (yif pv.1 x))) k pv.2) ((fun _ _ _ _ => none) id f)
theorem yih {ρ : Type} (k : Nat) (p : Unit) (v : Int × Int × List Int) (K K1 : Ex → St → Option ρ) : ev (yi4 k) (yig ρ k) 0 yi7 (yic (p, v)) (fun e st' => match e with
    | .normal => (normC yi8 yi9 st').bind fun nf => K1 .normal (denorm yi8 st'.n nf)
    | e => (normC (yia e) (yib e) st').bind fun nf => K e (denorm (yia e) st'.n nf)) = L_markIntS_m3_g0 k p v (fun v' => K1 .normal (yic (p, v'))) (fun x => K (.exit 0) (yif p x)) := by kernel_rfl
theorem yii {ρ : Type} (k : Nat) : Sound Try.prog (.loop yi7) (yig ρ k 0 fun st K => ev (yi4 k) (yig ρ k) 0 yi7 st K) :=
  loop_ok (ev_sound (yi5 k) yi7 0 (lpgood_none (by kernel_rfl))) yia yib k (g := fun p v next K => L_markIntS_m3_g0 k p v next (fun x => K (.exit 0) (yif p x))) (dec_at yie) (fun p v K K1 => yih k p v K K1)
def yij (a : List Int × Int) : List SV := [.own 0, .r [] (.int .i64 a.2)]
def yik (a : List Int × Int) : List Blk := [.arr none (.int .i64) a.1]
def yil (l : List SV) (b : List Blk) : Option (List Int × Int) := match l, b with
  | [.own 0, .r [] (.int .i64 w0)], [.arr none (.int .i64) w1] => some (w1, w0)
  | _, _ => none
def yim (a : List Int × Int) (r : Int × List Int) : MOut := ⟨.r [] (.int .i64 r.1), [some (.arr none (.int .i64) r.2)], []⟩
def yin (a : List Int × Int) (o : MOut) : Option (Int × List Int) := match o with
  | ⟨.r [] (.int .i64 z1), [some (.arr none (.int .i64) z2)], []⟩ => some (z1, z2)
  | _ => none
def yio (k : Nat) : MG := fun _ l b K => (yil l b).bind fun a => (L_markIntS_m3 k a.1 a.2).bind fun r => K (yim a r)
theorem yip (k : Nat) (a : List Int × Int) : ev (yi4 k) (yig (Int × List Int) k) 0 yi6 (st0M Try.f67 (yij a) (yik a)) (finM Try.prog Try.f67 (.sc) [.arr] (yin a)) = L_markIntS_m3 k a.1 a.2 := by kernel_rfl
theorem yiq (k : Nat) : MutOk Try.prog 67 (yio k) :=
  mutOk_of_ev (yi5 k) Try.func67 (by kernel_rfl) (by kernel_rfl) yij yik yil
    (fun l b a h => by unfold yil at h; split at h <;> first | (cases h; exact ⟨rfl, rfl⟩) | cases h) (fun a => rfl) (lpgood_of (l := [(0, yi7)]) (by kernel_rfl) ⟨yii k, trivial⟩) (fun a r => rfl)
    (fun a o r h => by unfold yin at h; split at h <;> first | (skip; cases h; rfl) | cases h) (yip k)
def yir (k : Nat) : Orc := mutOrc [.keep, .keep] (yio k)
theorem yis (k : Nat) : OrcOk Try.prog 67 (yir k) := mutOrc_ok (yiq k)
noncomputable def yit (k : Nat) : Env := { P := Try.prog, tt := tt, orc := fun g => cond (Nat.beq g 67) (yir k) (noOrc), wr := fun g => mem g [67], wt := true }
theorem yiu (k : Nat) : EnvOk (yit k) := fun g => (orc_cond (yis k) (noOrc_ok _ _))
noncomputable def yiv : Code := (Try.f60.body).getD .skip
def yiw (ρ : Type) (k : Nat) : Nat → Ev ρ → Ev ρ := fun _ _ _ _ => none
def yix (a : Tensor × Int) : List SV := [.agg [.r [] (.int .i64 a.1.sh.h), .r [] (.int .i64 a.1.sh.w), .r [] (.int .i64 a.1.sh.c), .own 0], .r [] (.int .i64 a.2)]
def yiy (a : Tensor × Int) : List Blk := [.arr none (.int .i64) a.1.data]
def yiz (l : List SV) (b : List Blk) : Option (Tensor × Int) := match l, b with
  | [.agg [.r [] (.int .i64 w0), .r [] (.int .i64 w1), .r [] (.int .i64 w2), .own 0], .r [] (.int .i64 w3)], [.arr none (.int .i64) w4] => some ((⟨(⟨w0, w1, w2⟩ : Shape), w4⟩ : Tensor), w3)
  | _, _ => none
def yj0 (a : Tensor × Int) (r : Int × List Int) : MOut := ⟨.r [] (.int .i64 r.1), [some (.arr none (.int .i64) r.2)], []⟩
def yj1 (a : Tensor × Int) (o : MOut) : Option (Int × List Int) := match o with
  | ⟨.r [] (.int .i64 z1), [some (.arr none (.int .i64) z2)], []⟩ => some (z1, z2)
  | _ => none
def yj2 (k : Nat) : MG := fun _ l b K => (yiz l b).bind fun a => (L_markTensor_m2 k a.1 a.2).bind fun r => K (yj0 a r)
theorem yj3 (k : Nat) (a : Tensor × Int) : ev (yit k) (yiw (Int × List Int) k) 0 yiv (st0M Try.f60 (yix a) (yiy a)) (finM Try.prog Try.f60 (.sc) [.arr] (yj1 a)) = L_markTensor_m2 k a.1 a.2 := by kernel_rfl
theorem yj4 (k : Nat) : MutOk Try.prog 60 (yj2 k) :=
  mutOk_of_ev (yiu k) Try.func60 (by kernel_rfl) (by kernel_rfl) yix yiy yiz
    (fun l b a h => by unfold yiz at h; split at h <;> first | (cases h; exact ⟨rfl, rfl⟩) | cases h) (fun a => rfl) (lpgood_none (by kernel_rfl)) (fun a r => rfl)
    (fun a o r h => by unfold yj1 at h; split at h <;> first | (skip; cases h; rfl) | cases h) (yj3 k)
def yj5 (k : Nat) : Orc := mutOrc [.keep, .keep] (yj2 k)
theorem yj6 (k : Nat) : OrcOk Try.prog 60 (yj5 k) := mutOrc_ok (yj4 k)
noncomputable def yj7 (k : Nat) : Env := { P := Try.prog, tt := tt, orc := fun g => cond (Nat.beq g 21) (yi2 k) (cond (Nat.beq g 60) (yj5 k) (noOrc)), wr := fun g => mem g [21, 60], wt := true }
theorem yj8 (k : Nat) : EnvOk (yj7 k) := fun g => (orc_cond (yi3 k) (orc_cond (yj6 k) (noOrc_ok _ _)))
noncomputable def yj9 : Code := (Try.f20.body).getD .skip
def yja (ρ : Type) (k : Nat) : Nat → Ev ρ → Ev ρ := fun _ _ _ _ => none
def yjb (a : Step × Int) : List SV := [.agg [.r [] (.int .i64 a.1.kind), .r [] (.int .i64 a.1.a), .r [] (.int .i64 a.1.b), .own 0, .r [] (.int .i64 a.1.input.sh.h), .r [] (.int .i64 a.1.input.sh.w), .r [] (.int .i64 a.1.input.sh.c), .own 1], .r [] (.int .i64 a.2)]
def yjc (a : Step × Int) : List Blk := [.arr none (.int .u8) a.1.data, .arr none (.int .i64) a.1.input.data]
def yjd (l : List SV) (b : List Blk) : Option (Step × Int) := match l, b with
  | [.agg [.r [] (.int .i64 w0), .r [] (.int .i64 w1), .r [] (.int .i64 w2), .own 0, .r [] (.int .i64 w3), .r [] (.int .i64 w4), .r [] (.int .i64 w5), .own 1], .r [] (.int .i64 w6)], [.arr none (.int .u8) w7, .arr none (.int .i64) w8] => some ((⟨w0, w1, w2, w7, (⟨(⟨w3, w4, w5⟩ : Shape), w8⟩ : Tensor)⟩ : Step), w6)
  | _, _ => none
def yje (a : Step × Int) (r : Int × List Int × List Int) : MOut := ⟨.r [] (.int .i64 r.1), [some (.arr none (.int .u8) r.2.1), some (.arr none (.int .i64) r.2.2)], []⟩
def yjf (a : Step × Int) (o : MOut) : Option (Int × List Int × List Int) := match o with
  | ⟨.r [] (.int .i64 z1), [some (.arr none (.int .u8) z2), some (.arr none (.int .i64) z3)], []⟩ => some (z1, z2, z3)
  | _ => none
def yjg (k : Nat) : MG := fun _ l b K => (yjd l b).bind fun a => (L_markStep_m2 k a.1 a.2).bind fun r => K (yje a r)
theorem yjh (k : Nat) (a : Step × Int) : ev (yj7 k) (yja (Int × List Int × List Int) k) 0 yj9 (st0M Try.f20 (yjb a) (yjc a)) (finM Try.prog Try.f20 (.sc) [.arr, .arr] (yjf a)) = L_markStep_m2 k a.1 a.2 := by kernel_rfl
theorem yji (k : Nat) : MutOk Try.prog 20 (yjg k) :=
  mutOk_of_ev (yj8 k) Try.func20 (by kernel_rfl) (by kernel_rfl) yjb yjc yjd
    (fun l b a h => by unfold yjd at h; split at h <;> first | (cases h; exact ⟨rfl, rfl⟩) | cases h) (fun a => rfl) (lpgood_none (by kernel_rfl)) (fun a r => rfl)
    (fun a o r h => by unfold yjf at h; split at h <;> first | (skip; cases h; rfl) | cases h) (yjh k)
def yjj (k : Nat) : Orc := mutOrc [.keep, .keep] (yjg k)
theorem yjk (k : Nat) : OrcOk Try.prog 20 (yjj k) := mutOrc_ok (yji k)
noncomputable def yjl (k : Nat) : Env := { P := Try.prog, tt := tt, orc := fun g => noOrc }
theorem yjm (k : Nat) : EnvOk (yjl k) := fun g => (noOrc_ok _ _)
noncomputable def yjn : Code := (Try.f22.body).getD .skip
noncomputable def yjo : Code := ((loopsIn 0 yjn).getD 0 (0, .skip)).2
def yjp : List Nat := [0, 1, 5]
def yjq : List (Where × Co) := []
def yjr : Ex → List Nat
  | .exit j => cond (Nat.beq j 0) [1] []
  | .ret => [4]
  | .normal => []
def yjs : Ex → List (Where × Co)
  | .exit j => cond (Nat.beq j 0) [] []
  | .ret => []
  | .normal => []
def yjt (pv : (List Int) × (Int × Int)) : St := { slots := [(0, .r [] (.sl (.int .u8) pv.1)), (1, .r [] (.int .i64 pv.2.1)), (5, .r [] (.int .i64 pv.2.2))], heap := [], nid := 0, n := 22, gh := [] }
def yju (nf : NF) : Option ((List Int) × (Int × Int)) := match nf with
  | ([.r [] (.sl (.int .u8) w0), .r [] (.int .i64 w1), .r [] (.int .i64 w2)], [], []) => some (w0, (w1, w2))
  | _ => none
theorem yjv (nf : NF) (v : (List Int) × (Int × Int)) (h : yju nf = some v) : denorm yjp 22 nf = yjt v := by
  unfold yju at h
  split at h
  · cases h; rfl
  · cases h
def yjw (p : List Int) (x : Int) : St := { slots := [(1, .r [] (.int .i64 x))], heap := [], nid := 0, n := 22, gh := [] }
def yjx (p : List Int) (x : Int) : St := { slots := [(4, .r [] (.int .i64 x))], heap := [], nid := 0, n := 22, gh := [] }
def yjy (ρ : Type) (k : Nat) : Nat → Ev ρ → Ev ρ := fun id f => cond (Nat.beq id 0) (loopOrc yjp yjq (fun n nf => cond (Nat.beq n 22) (yju nf) none) fun pv K => iter (fun v next => L_heldByteS_g0 k pv.1 v next (fun x => K (.exit 0) (yjw pv.1 x)) (fun x => K .ret (yjx pv.1 x))) k pv.2) ((fun _ _ _ _ => none) id f)
theorem yjz {ρ : Type} (k : Nat) (p : List Int) (v : Int × Int) (K K1 : Ex → St → Option ρ) : ev (yjl k) (yjy ρ k) 0 yjo (yjt (p, v)) (fun e st' => match e with
    | .normal => (normC yjp yjq st').bind fun nf => K1 .normal (denorm yjp st'.n nf)
    | e => (normC (yjr e) (yjs e) st').bind fun nf => K e (denorm (yjr e) st'.n nf)) = L_heldByteS_g0 k p v (fun v' => K1 .normal (yjt (p, v'))) (fun x => K (.exit 0) (yjw p x)) (fun x => K .ret (yjx p x)) := by kernel_rfl
theorem yk0 {ρ : Type} (k : Nat) : Sound Try.prog (.loop yjo) (yjy ρ k 0 fun st K => ev (yjl k) (yjy ρ k) 0 yjo st K) :=
  loop_ok (ev_sound (yjm k) yjo 0 (lpgood_none (by kernel_rfl))) yjr yjs k (g := fun p v next K => L_heldByteS_g0 k p v next (fun x => K (.exit 0) (yjw p x)) (fun x => K .ret (yjx p x))) (dec_at yjv) (fun p v K K1 => yjz k p v K K1)
def yk1 (a : List Int × Int) : List Arg := [.one (.sl (.int .u8) a.1), .one (.int .i64 a.2)]
def yk2 (l : List Arg) : Option (List Int × Int) := match l with
  | [.one (.sl (.int .u8) b0), .one (.int .i64 b1)] => some (b0, b1)
  | _ => none
def yk3 (r : Int) : Out := (.r [] (.int .i64 r), [])
def yk4 (o : Out) : Option (Int) := match o with
  | (.r [] (.int .i64 z1), []) => some z1
  | _ => none
def yk5 (k : Nat) : PG := fun _ l K => (yk2 l).bind fun a => (L_heldByteS k a.1 a.2).bind fun r => K (yk3 r)
theorem yk6 (k : Nat) (a : List Int × Int) : ev (yjl k) (yjy (Int) k) 0 yjn (st0 Try.f22 (yk1 a)) (fin Try.prog Try.f22 (.sc) yk4) = L_heldByteS k a.1 a.2 := by kernel_rfl
theorem yk7 (k : Nat) : PureOk Try.prog 22 (yk5 k) :=
  pureOk_of_ev (yjm k) Try.func22 (by kernel_rfl) (by kernel_rfl) yk1 yk2
    (fun l a h => by unfold yk2 at h; split at h <;> first | (cases h; rfl) | cases h) (fun a => rfl) (lpgood_of (l := [(0, yjo)]) (by kernel_rfl) ⟨yk0 k, trivial⟩)
    (fun o r h => by unfold yk4 at h; split at h <;> first | (cases h; rfl) | cases h) (yk6 k)
def yk8 (k : Nat) : Orc := pureOrc [.one (.sl (.int .u8)), .one (.int .i64)] (yk5 k)
theorem yk9 (k : Nat) : OrcOk Try.prog 22 (yk8 k) := pureOrc_ok (yk7 k)
noncomputable def yka (k : Nat) : Env := { P := Try.prog, tt := tt, orc := fun g => cond (Nat.beq g 14) (y1n k) (cond (Nat.beq g 15) (yah k) (cond (Nat.beq g 16) (y42 k) (cond (Nat.beq g 17) (yew k) (cond (Nat.beq g 18) (yfl k) (cond (Nat.beq g 19) (yhd k) (cond (Nat.beq g 20) (yjj k) (cond (Nat.beq g 21) (yi2 k) (cond (Nat.beq g 22) (yk8 k) (noOrc))))))))), wr := fun g => mem g [20, 21], wt := true }
theorem ykb (k : Nat) : EnvOk (yka k) := fun g => (orc_cond (y1o k) (orc_cond (yai k) (orc_cond (y43 k) (orc_cond (yex k) (orc_cond (yfm k) (orc_cond (yhe k) (orc_cond (yjk k) (orc_cond (yi3 k) (orc_cond (yk9 k) (noOrc_ok _ _))))))))))
noncomputable def ykc : Code := (Try.f3.body).getD .skip
def ykd (ρ : Type) (k : Nat) : Nat → Ev ρ → Ev ρ := fun _ _ _ _ => none
def yke (a : Step) : List Arg := [.agg [.int .i64 a.kind, .int .i64 a.a, .int .i64 a.b, .sl (.int .u8) a.data, .int .i64 a.input.sh.h, .int .i64 a.input.sh.w, .int .i64 a.input.sh.c, .sl (.int .i64) a.input.data]]
def ykf (l : List Arg) : Option (Step) := match l with
  | [.agg [.int .i64 b0_0, .int .i64 b0_1, .int .i64 b0_2, .sl (.int .u8) b0_3, .int .i64 b0_4, .int .i64 b0_5, .int .i64 b0_6, .sl (.int .i64) b0_7]] => some (⟨b0_0, b0_1, b0_2, b0_3, (⟨(⟨b0_4, b0_5, b0_6⟩ : Shape), b0_7⟩ : Tensor)⟩ : Step)
  | _ => none
def ykg (r : Bool) : Out := (.r [] (.bool r), [])
def ykh (o : Out) : Option (Bool) := match o with
  | (.r [] (.bool z1), []) => some z1
  | _ => none
def yki (k : Nat) : PG := fun _ l K => (ykf l).bind fun a => (L_FnExactPutStep k a).bind fun r => K (ykg r)
theorem ykj (k : Nat) (a : Step) : ev (yka k) (ykd (Bool) k) 0 ykc (st0 Try.f3 (yke a)) (fin Try.prog Try.f3 (.sc) ykh) = L_FnExactPutStep k a := by kernel_rfl
theorem ykk (k : Nat) : PureOk Try.prog 3 (yki k) :=
  pureOk_of_ev (ykb k) Try.func3 (by kernel_rfl) (by kernel_rfl) yke ykf
    (fun l a h => by unfold ykf at h; split at h <;> first | (cases h; rfl) | cases h) (fun a => rfl) (lpgood_none (by kernel_rfl))
    (fun o r h => by unfold ykh at h; split at h <;> first | (cases h; rfl) | cases h) (ykj k)
end
end Go.Proofs.Ev
