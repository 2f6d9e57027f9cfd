/- Text of this claim. -/
import Derived.Test.YthaamopjdieecaaEvK6
import Derived.Test.YthaamopjdieecaaProg
import Derived.Test.YthaamopjdieecaaEvD1
import Derived.Test.YthaamopjdieecaaEvD14
import Derived.Test.YthaamopjdieecaaEvD3
import Derived.Test.YthaamopjdieecaaEvD5
set_option linter.unusedVariables false
set_option linter.unusedSimpArgs false
set_option linter.unusedVariables false
set_option linter.unusedSimpArgs false
set_option maxRecDepth 100000
set_option maxHeartbeats 4000000
namespace Go.Proofs.Ev
noncomputable section
variable [Tok]
set_option linter.unusedSectionVars false
def tt : TT := look [(2, (.int .i64)), (3, (.int .i64)), (4, .bool), (5, (.int .u8)), (6, (.int .u8)), (9, .str), (10, .str), (11, .str), (12, (.int .u64)), (21, (.int .i32)), (22, (.sl (.int .u8))), (24, (.st .shape)), (25, (.sl (.int .i64))), (27, (.st .tensor)), (29, (.st .step)), (33, (.st .shape)), (35, (.st .tensor)), (37, (.st .step)), (44, (.sl (.st .step))), (47, (.sl (.st .step))), (53, (.sl (.st .task))), (64, (.sl (.sl (.int .i64)))), (74, (.st .task)), (76, (.sl (.st .layer))), (78, (.st .model)), (80, (.sl (.st .layer))), (82, (.st .model)), (90, (.sl (.st .tensor))), (102, (.sl (.st .wish))), (106, (.sl (.st .wish))), (126, (.sl (.st .shape))), (163, (.st .layer)), (179, (.st .wish)), (181, (.st .wish)), (202, (.int .u64)), (214, (.st .layer)), (219, (.sl (.sl (.st .layer)))), (258, (.int .u32)), (259, (.int .u8)), (260, (.int .u8)), (263, (.int .i32)), (264, (.int .i32))]
noncomputable def y8 (k : Nat) : Env := { P := Try.prog, tt := tt, orc := fun g => noOrc }
theorem ya (k : Nat) : EnvOk (y8 k) := fun g => (noOrc_ok _ _)
noncomputable def yb : Code := (Try.f155.body).getD .skip
def yc (ρ : Type) (k : Nat) : Nat → Ev ρ → Ev ρ := fun _ _ _ _ => none
def yd (a : List Int × Int) : List Arg := [.one (.sl (.int .i64) a.1), .one (.int .i64 a.2)]
def ye (l : List Arg) : Option (List Int × Int) := match l with
  | [.one (.sl (.int .i64) b0), .one (.int .i64 b1)] => some (b0, b1)
  | _ => none
def yf (r : Int) : Out := (.r [] (.int .i64 r), [])
def yg (o : Out) : Option (Int) := match o with
  | (.r [] (.int .i64 z1), []) => some z1
  | _ => none
def yh (k : Nat) : PG := fun _ l K => (ye l).bind fun a => (L_szIntS k a.1 a.2).bind fun r => K (yf r)
theorem yi (k : Nat) (a : List Int × Int) : ev (y8 k) (yc (Int) k) 0 yb (st0 Try.f155 (yd a)) (fin Try.prog Try.f155 (.sc) yg) = L_szIntS k a.1 a.2 := by kernel_rfl
theorem yj (k : Nat) : PureOk Try.prog 155 (yh k) :=
  pureOk_of_ev (ya k) Try.func155 (by kernel_rfl) (by kernel_rfl) yd ye
    (fun l a h => by unfold ye at h; split at h <;> first | (cases h; rfl) | cases h) (fun a => rfl) (lpgood_none (by kernel_rfl))
    (fun o r h => by unfold yg at h; split at h <;> first | (cases h; rfl) | cases h) (yi k)
def yk (k : Nat) : Orc := pureOrc [.one (.sl (.int .i64)), .one (.int .i64)] (yh k)
theorem yl (k : Nat) : OrcOk Try.prog 155 (yk k) := pureOrc_ok (yj k)
noncomputable def ym (k : Nat) : Env := { P := Try.prog, tt := tt, orc := fun g => cond (Nat.beq g 155) (yk k) (noOrc) }
theorem yn (k : Nat) : EnvOk (ym k) := fun g => (orc_cond (yl k) (noOrc_ok _ _))
noncomputable def yo : Code := (Try.f201.body).getD .skip
def yp (ρ : Type) (k : Nat) : Nat → Ev ρ → Ev ρ := fun _ _ _ _ => none
def yq (a : Layer × Int) : List Arg := [.agg [.int .i64 a.1.kind, .int .i64 a.1.out, .int .i64 a.1.size, .int .i64 a.1.step, .int .i64 a.1.mult, .int .i64 a.1.shift, .int .i64 a.1.zero, .sl (.int .i64) a.1.weights, .sl (.int .i64) a.1.bias], .one (.int .i64 a.2)]
def yr (l : List Arg) : Option (Layer × Int) := match l with
  | [.agg [.int .i64 b0_0, .int .i64 b0_1, .int .i64 b0_2, .int .i64 b0_3, .int .i64 b0_4, .int .i64 b0_5, .int .i64 b0_6, .sl (.int .i64) b0_7, .sl (.int .i64) b0_8], .one (.int .i64 b1)] => some ((⟨b0_0, b0_1, b0_2, b0_3, b0_4, b0_5, b0_6, b0_7, b0_8⟩ : Layer), b1)
  | _ => none
def yt (r : Int) : Out := (.r [] (.int .i64 r), [])
def yu (o : Out) : Option (Int) := match o with
  | (.r [] (.int .i64 z1), []) => some z1
  | _ => none
def yv (k : Nat) : PG := fun _ l K => (yr l).bind fun a => (L_szLayer k a.1 a.2).bind fun r => K (yt r)
theorem yw (k : Nat) (a : Layer × Int) : ev (ym k) (yp (Int) k) 0 yo (st0 Try.f201 (yq a)) (fin Try.prog Try.f201 (.sc) yu) = L_szLayer k a.1 a.2 := by kernel_rfl
theorem yx (k : Nat) : PureOk Try.prog 201 (yv k) :=
  pureOk_of_ev (yn k) Try.func201 (by kernel_rfl) (by kernel_rfl) yq yr
    (fun l a h => by unfold yr at h; split at h <;> first | (cases h; rfl) | cases h) (fun a => rfl) (lpgood_none (by kernel_rfl))
    (fun o r h => by unfold yu at h; split at h <;> first | (cases h; rfl) | cases h) (yw k)
def yy (k : Nat) : Orc := pureOrc [.agg [(.int .i64), (.int .i64), (.int .i64), (.int .i64), (.int .i64), (.int .i64), (.int .i64), (.sl (.int .i64)), (.sl (.int .i64))], .one (.int .i64)] (yv k)
theorem yz (k : Nat) : OrcOk Try.prog 201 (yy k) := pureOrc_ok (yx k)
noncomputable def y10 (k : Nat) : Env := { P := Try.prog, tt := tt, orc := fun g => cond (Nat.beq g 201) (yy k) (noOrc) }
theorem y11 (k : Nat) : EnvOk (y10 k) := fun g => (orc_cond (yz k) (noOrc_ok _ _))
noncomputable def y14 : Code := (Try.f143.body).getD .skip
noncomputable def y16 : Code := ((loopsIn 0 y14).getD 0 (0, .skip)).2
def y17 : List Nat := [0, 1, 5]
def y18 : List (Where × Co) := []
def y19 : Ex → List Nat
  | .exit j => cond (Nat.beq j 0) [1] []
  | .ret => [4]
  | .normal => []
def y1a : Ex → List (Where × Co)
  | .exit j => cond (Nat.beq j 0) [] []
  | .ret => []
  | .normal => []
def y1b (pv : (List Layer) × (Int × Int)) : St := { slots := [(0, .r [] (.sl (.st .layer) pv.1)), (1, .r [] (.int .i64 pv.2.1)), (5, .r [] (.int .i64 pv.2.2))], heap := [], nid := 0, n := 27, gh := [] }
def y1c (nf : NF) : Option ((List Layer) × (Int × Int)) := match nf with
  | ([.r [] (.sl (.st .layer) w0), .r [] (.int .i64 w1), .r [] (.int .i64 w2)], [], []) => some (w0, (w1, w2))
  | _ => none
theorem y1d (nf : NF) (v : (List Layer) × (Int × Int)) (h : y1c nf = some v) : denorm y17 27 nf = y1b v := by
  unfold y1c at h
  split at h
  · cases h; rfl
  · cases h
def y1e (p : List Layer) (x : Int) : St := { slots := [(1, .r [] (.int .i64 x))], heap := [], nid := 0, n := 27, gh := [] }
def y1f (p : List Layer) (x : Int) : St := { slots := [(4, .r [] (.int .i64 x))], heap := [], nid := 0, n := 27, gh := [] }
def y1g (ρ : Type) (k : Nat) : Nat → Ev ρ → Ev ρ := fun id f => cond (Nat.beq id 0) (loopOrc y17 y18 (fun n nf => cond (Nat.beq n 27) (y1c nf) none) fun pv K => iter (fun v next => L_szLayerS_g0 k pv.1 v next (fun x => K (.exit 0) (y1e pv.1 x)) (fun x => K .ret (y1f pv.1 x))) k pv.2) ((fun _ _ _ _ => none) id f)
theorem y1h {ρ : Type} (k : Nat) (p : List Layer) (v : Int × Int) (K K1 : Ex → St → Option ρ) : ev (y10 k) (y1g ρ k) 0 y16 (y1b (p, v)) (fun e st' => match e with
    | .normal => (normC y17 y18 st').bind fun nf => K1 .normal (denorm y17 st'.n nf)
    | e => (normC (y19 e) (y1a e) st').bind fun nf => K e (denorm (y19 e) st'.n nf)) = L_szLayerS_g0 k p v (fun v' => K1 .normal (y1b (p, v'))) (fun x => K (.exit 0) (y1e p x)) (fun x => K .ret (y1f p x)) := by kernel_rfl
theorem y1i {ρ : Type} (k : Nat) : Sound Try.prog (.loop y16) (y1g ρ k 0 fun st K => ev (y10 k) (y1g ρ k) 0 y16 st K) :=
  loop_ok (ev_sound (y11 k) y16 0 (lpgood_none (by kernel_rfl))) y19 y1a k (g := fun p v next K => L_szLayerS_g0 k p v next (fun x => K (.exit 0) (y1e p x)) (fun x => K .ret (y1f p x))) (dec_at y1d) (fun p v K K1 => y1h k p v K K1)
def y1j (a : List Layer × Int) : List Arg := [.one (.sl (.st .layer) a.1), .one (.int .i64 a.2)]
def y1k (l : List Arg) : Option (List Layer × Int) := match l with
  | [.one (.sl (.st .layer) b0), .one (.int .i64 b1)] => some (b0, b1)
  | _ => none
def y1l (r : Int) : Out := (.r [] (.int .i64 r), [])
def y1m (o : Out) : Option (Int) := match o with
  | (.r [] (.int .i64 z1), []) => some z1
  | _ => none
def y1n (k : Nat) : PG := fun _ l K => (y1k l).bind fun a => (L_szLayerS k a.1 a.2).bind fun r => K (y1l r)
theorem y1o (k : Nat) (a : List Layer × Int) : ev (y10 k) (y1g (Int) k) 0 y14 (st0 Try.f143 (y1j a)) (fin Try.prog Try.f143 (.sc) y1m) = L_szLayerS k a.1 a.2 := by kernel_rfl
theorem y1p (k : Nat) : PureOk Try.prog 143 (y1n k) :=
  pureOk_of_ev (y11 k) Try.func143 (by kernel_rfl) (by kernel_rfl) y1j y1k
    (fun l a h => by unfold y1k at h; split at h <;> first | (cases h; rfl) | cases h) (fun a => rfl) (lpgood_of (l := [(0, y16)]) (by kernel_rfl) ⟨y1i k, trivial⟩)
    (fun o r h => by unfold y1m at h; split at h <;> first | (cases h; rfl) | cases h) (y1o k)
def y1q (k : Nat) : Orc := pureOrc [.one (.sl (.st .layer)), .one (.int .i64)] (y1n k)
theorem y1r (k : Nat) : OrcOk Try.prog 143 (y1q k) := pureOrc_ok (y1p k)
noncomputable def y1s (k : Nat) : Env := { P := Try.prog, tt := tt, orc := fun g => cond (Nat.beq g 143) (y1q k) (noOrc) }
theorem y1t (k : Nat) : EnvOk (y1s k) := fun g => (orc_cond (y1r k) (noOrc_ok _ _))
noncomputable def y1u : Code := (Try.f47.body).getD .skip
def y1v (ρ : Type) (k : Nat) : Nat → Ev ρ → Ev ρ := fun _ _ _ _ => none
def y1w (a : Model × Int) : List Arg := [.agg [.int .i64 a.1.inp.h, .int .i64 a.1.inp.w, .int .i64 a.1.inp.c, .sl (.st .layer) a.1.layers], .one (.int .i64 a.2)]
def y1x (l : List Arg) : Option (Model × Int) := match l with
  | [.agg [.int .i64 b0_0, .int .i64 b0_1, .int .i64 b0_2, .sl (.st .layer) b0_3], .one (.int .i64 b1)] => some ((⟨(⟨b0_0, b0_1, b0_2⟩ : Shape), b0_3⟩ : Model), b1)
  | _ => none
def y1y (r : Int) : Out := (.r [] (.int .i64 r), [])
def y1z (o : Out) : Option (Int) := match o with
  | (.r [] (.int .i64 z1), []) => some z1
  | _ => none
def y20 (k : Nat) : PG := fun _ l K => (y1x l).bind fun a => (L_szModel k a.1 a.2).bind fun r => K (y1y r)
theorem y21 (k : Nat) (a : Model × Int) : ev (y1s k) (y1v (Int) k) 0 y1u (st0 Try.f47 (y1w a)) (fin Try.prog Try.f47 (.sc) y1z) = L_szModel k a.1 a.2 := by kernel_rfl
theorem y22 (k : Nat) : PureOk Try.prog 47 (y20 k) :=
  pureOk_of_ev (y1t k) Try.func47 (by kernel_rfl) (by kernel_rfl) y1w y1x
    (fun l a h => by unfold y1x at h; split at h <;> first | (cases h; rfl) | cases h) (fun a => rfl) (lpgood_none (by kernel_rfl))
    (fun o r h => by unfold y1z at h; split at h <;> first | (cases h; rfl) | cases h) (y21 k)
def y23 (k : Nat) : Orc := pureOrc [.agg [(.int .i64), (.int .i64), (.int .i64), (.sl (.st .layer))], .one (.int .i64)] (y20 k)
theorem y25 (k : Nat) : OrcOk Try.prog 47 (y23 k) := pureOrc_ok (y22 k)
noncomputable def y26 (k : Nat) : Env := { P := Try.prog, tt := tt, orc := fun g => noOrc }
theorem y29 (k : Nat) : EnvOk (y26 k) := fun g => (noOrc_ok _ _)
noncomputable def y2a : Code := (Try.f147.body).getD .skip
def y2b (ρ : Type) (k : Nat) : Nat → Ev ρ → Ev ρ := fun _ _ _ _ => none
def y2c (a : Shape) : List Arg := [.agg [.int .i64 a.h, .int .i64 a.w, .int .i64 a.c]]
def y2d (l : List Arg) : Option (Shape) := match l with
  | [.agg [.int .i64 b0_0, .int .i64 b0_1, .int .i64 b0_2]] => some (⟨b0_0, b0_1, b0_2⟩ : Shape)
  | _ => none
def y2e (r : Shape) : Out := (.agg [.r [] (.int .i64 r.h), .r [] (.int .i64 r.w), .r [] (.int .i64 r.c)], [])
def y2f (o : Out) : Option (Shape) := match o with
  | (.agg [.r [] (.int .i64 z1), .r [] (.int .i64 z2), .r [] (.int .i64 z3)], []) => some (⟨z1, z2, z3⟩ : Shape)
  | _ => none
def y2g (k : Nat) : PG := fun _ l K => (y2d l).bind fun a => (L_toShape k a).bind fun r => K (y2e r)
theorem y2h (k : Nat) (a : Shape) : ev (y26 k) (y2b (Shape) k) 0 y2a (st0 Try.f147 (y2c a)) (fin Try.prog Try.f147 (.agg [.sc, .sc, .sc]) y2f) = L_toShape k a := by kernel_rfl
theorem y2i (k : Nat) : PureOk Try.prog 147 (y2g k) :=
  pureOk_of_ev (y29 k) Try.func147 (by kernel_rfl) (by kernel_rfl) y2c y2d
    (fun l a h => by unfold y2d at h; split at h <;> first | (cases h; rfl) | cases h) (fun a => rfl) (lpgood_none (by kernel_rfl))
    (fun o r h => by unfold y2f at h; split at h <;> first | (cases h; rfl) | cases h) (y2h k)
def y2j (k : Nat) : Orc := pureOrc [.agg [(.int .i64), (.int .i64), (.int .i64)]] (y2g k)
theorem y2k (k : Nat) : OrcOk Try.prog 147 (y2j k) := pureOrc_ok (y2i k)
noncomputable def y2l (k : Nat) : Env := { P := Try.prog, tt := tt, orc := fun g => noOrc }
theorem y2m (k : Nat) : EnvOk (y2l k) := fun g => (noOrc_ok _ _)
noncomputable def y2n : Code := (Try.f64.body).getD .skip
noncomputable def y2o : Code := ((loopsIn 0 y2n).getD 0 (0, .skip)).2
def y2p : List Nat := [0, 3, 4]
def y2q : List (Where × Co) := []
def y2r : Ex → List Nat
  | .exit j => cond (Nat.beq j 0) [3] []
  | .ret => []
  | .normal => []
def y2s : Ex → List (Where × Co)
  | .exit j => cond (Nat.beq j 0) [] []
  | .ret => []
  | .normal => []
def y2t (pv : (List Int) × (Int × List Int)) : St := { slots := [(0, .r [] (.sl (.int .i64) pv.1)), (3, .own 0), (4, .r [] (.int .i64 pv.2.1))], heap := [(0, .arr none (.int .i64) pv.2.2)], nid := 1, n := 22, gh := [] }
def y2u (nf : NF) : Option ((List Int) × (Int × List Int)) := match nf with
  | ([.r [] (.sl (.int .i64) w0), .own 0, .r [] (.int .i64 w1)], [.arr none (.int .i64) w2], []) => some (w0, (w1, w2))
  | _ => none
theorem y2v (nf : NF) (v : (List Int) × (Int × List Int)) (h : y2u nf = some v) : denorm y2p 22 nf = y2t v := by
  unfold y2u at h
  split at h
  · cases h; rfl
  · cases h
def y2w (p : List Int) (x : List Int) : St := { slots := [(3, .own 0)], heap := [(0, .arr none (.int .i64) x)], nid := 1, n := 22, gh := [] }
def y2x (ρ : Type) (k : Nat) : Nat → Ev ρ → Ev ρ := fun id f => cond (Nat.beq id 0) (loopOrc y2p y2q (fun n nf => cond (Nat.beq n 22) (y2u nf) none) fun pv K => iter (fun v next => L_toIntS_g0 k pv.1 v next (fun x => K (.exit 0) (y2w pv.1 x))) k pv.2) ((fun _ _ _ _ => none) id f)
theorem y2y {ρ : Type} (k : Nat) (p : List Int) (v : Int × List Int) (K K1 : Ex → St → Option ρ) : ev (y2l k) (y2x ρ k) 0 y2o (y2t (p, v)) (fun e st' => match e with
    | .normal => (normC y2p y2q st').bind fun nf => K1 .normal (denorm y2p st'.n nf)
    | e => (normC (y2r e) (y2s e) st').bind fun nf => K e (denorm (y2r e) st'.n nf)) = L_toIntS_g0 k p v (fun v' => K1 .normal (y2t (p, v'))) (fun x => K (.exit 0) (y2w p x)) := by kernel_rfl
theorem y2z {ρ : Type} (k : Nat) : Sound Try.prog (.loop y2o) (y2x ρ k 0 fun st K => ev (y2l k) (y2x ρ k) 0 y2o st K) :=
  loop_ok (ev_sound (y2m k) y2o 0 (lpgood_none (by kernel_rfl))) y2r y2s k (g := fun p v next K => L_toIntS_g0 k p v next (fun x => K (.exit 0) (y2w p x))) (dec_at y2v) (fun p v K K1 => y2y k p v K K1)
def y31 (a : List Int) : List Arg := [.one (.sl (.int .i64) a)]
def y32 (l : List Arg) : Option (List Int) := match l with
  | [.one (.sl (.int .i64) b0)] => some b0
  | _ => none
def y33 (r : List Int) : Out := (.own 0, [.arr none (.int .i64) r])
def y34 (o : Out) : Option (List Int) := match o with
  | (.own 0, [.arr none (.int .i64) z1]) => some z1
  | _ => none
def y35 (k : Nat) : PG := fun _ l K => (y32 l).bind fun a => (L_toIntS k a).bind fun r => K (y33 r)
theorem y36 (k : Nat) (a : List Int) : ev (y2l k) (y2x (List Int) k) 0 y2n (st0 Try.f64 (y31 a)) (fin Try.prog Try.f64 (.own (.int .i64)) y34) = L_toIntS k a := by kernel_rfl
theorem y37 (k : Nat) : PureOk Try.prog 64 (y35 k) :=
  pureOk_of_ev (y2m k) Try.func64 (by kernel_rfl) (by kernel_rfl) y31 y32
    (fun l a h => by unfold y32 at h; split at h <;> first | (cases h; rfl) | cases h) (fun a => rfl) (lpgood_of (l := [(0, y2o)]) (by kernel_rfl) ⟨y2z k, trivial⟩)
    (fun o r h => by unfold y34 at h; split at h <;> first | (cases h; rfl) | cases h) (y36 k)
def y38 (k : Nat) : Orc := pureOrc [.one (.sl (.int .i64))] (y35 k)
theorem y39 (k : Nat) : OrcOk Try.prog 64 (y38 k) := pureOrc_ok (y37 k)
noncomputable def y3a (k : Nat) : Env := { P := Try.prog, tt := tt, orc := fun g => cond (Nat.beq g 64) (y38 k) (noOrc) }
theorem y3b (k : Nat) : EnvOk (y3a k) := fun g => (orc_cond (y39 k) (noOrc_ok _ _))
noncomputable def y3c : Code := (Try.f204.body).getD .skip
def y3d (ρ : Type) (k : Nat) : Nat → Ev ρ → Ev ρ := fun _ _ _ _ => none
def y3e (a : Layer) : List Arg := [.agg [.int .i64 a.kind, .int .i64 a.out, .int .i64 a.size, .int .i64 a.step, .int .i64 a.mult, .int .i64 a.shift, .int .i64 a.zero, .sl (.int .i64) a.weights, .sl (.int .i64) a.bias]]
def y3f (l : List Arg) : Option (Layer) := match l with
  | [.agg [.int .i64 b0_0, .int .i64 b0_1, .int .i64 b0_2, .int .i64 b0_3, .int .i64 b0_4, .int .i64 b0_5, .int .i64 b0_6, .sl (.int .i64) b0_7, .sl (.int .i64) b0_8]] => some (⟨b0_0, b0_1, b0_2, b0_3, b0_4, b0_5, b0_6, b0_7, b0_8⟩ : Layer)
  | _ => none
def y3g (r : Layer) : Out := (.agg [.r [] (.int .i64 r.kind), .r [] (.int .i64 r.out), .r [] (.int .i64 r.size), .r [] (.int .i64 r.step), .r [] (.int .i64 r.mult), .r [] (.int .i64 r.shift), .r [] (.int .i64 r.zero), .own 0, .own 1], [.arr none (.int .i64) r.weights, .arr none (.int .i64) r.bias])
def y3h (o : Out) : Option (Layer) := match o with
  | (.agg [.r [] (.int .i64 z1), .r [] (.int .i64 z2), .r [] (.int .i64 z3), .r [] (.int .i64 z4), .r [] (.int .i64 z5), .r [] (.int .i64 z6), .r [] (.int .i64 z7), .own 0, .own 1], [.arr none (.int .i64) z8, .arr none (.int .i64) z9]) => some (⟨z1, z2, z3, z4, z5, z6, z7, z8, z9⟩ : Layer)
  | _ => none
def y3i (k : Nat) : PG := fun _ l K => (y3f l).bind fun a => (L_toLayer k a).bind fun r => K (y3g r)
theorem y3j (k : Nat) (a : Layer) : ev (y3a k) (y3d (Layer) k) 0 y3c (st0 Try.f204 (y3e a)) (fin Try.prog Try.f204 (.agg [.sc, .sc, .sc, .sc, .sc, .sc, .sc, .own (.int .i64), .own (.int .i64)]) y3h) = L_toLayer k a := by kernel_rfl
theorem y3k (k : Nat) : PureOk Try.prog 204 (y3i k) :=
  pureOk_of_ev (y3b k) Try.func204 (by kernel_rfl) (by kernel_rfl) y3e y3f
    (fun l a h => by unfold y3f at h; split at h <;> first | (cases h; rfl) | cases h) (fun a => rfl) (lpgood_none (by kernel_rfl))
    (fun o r h => by unfold y3h at h; split at h <;> first | (cases h; rfl) | cases h) (y3j k)
def y3l (k : Nat) : Orc := pureOrc [.agg [(.int .i64), (.int .i64), (.int .i64), (.int .i64), (.int .i64), (.int .i64), (.int .i64), (.sl (.int .i64)), (.sl (.int .i64))]] (y3i k)
theorem y3m (k : Nat) : OrcOk Try.prog 204 (y3l k) := pureOrc_ok (y3k k)
noncomputable def y3n (k : Nat) : Env := { P := Try.prog, tt := tt, orc := fun g => cond (Nat.beq g 204) (y3l k) (noOrc) }
theorem y3o (k : Nat) : EnvOk (y3n k) := fun g => (orc_cond (y3m k) (noOrc_ok _ _))
noncomputable def y3p : Code := (Try.f148.body).getD .skip
noncomputable def y3q : Code := ((loopsIn 0 y3p).getD 0 (0, .skip)).2
def y3r : List Nat := [0, 3, 4]
def y3s : List (Where × Co) := []
def y3t : Ex → List Nat
  | .exit j => cond (Nat.beq j 0) [3] []
  | .ret => []
  | .normal => []
def y3u : Ex → List (Where × Co)
  | .exit j => cond (Nat.beq j 0) [] []
  | .ret => []
  | .normal => []
def y3v (pv : (List Layer) × (Int × List Layer)) : St := { slots := [(0, .r [] (.sl (.st .layer) pv.1)), (3, .own 0), (4, .r [] (.int .i64 pv.2.1))], heap := [(0, .arr none (.st .layer) pv.2.2)], nid := 1, n := 23, gh := [] }
def y3w (nf : NF) : Option ((List Layer) × (Int × List Layer)) := match nf with
  | ([.r [] (.sl (.st .layer) w0), .own 0, .r [] (.int .i64 w1)], [.arr none (.st .layer) w2], []) => some (w0, (w1, w2))
  | _ => none
theorem y3x (nf : NF) (v : (List Layer) × (Int × List Layer)) (h : y3w nf = some v) : denorm y3r 23 nf = y3v v := by
  unfold y3w at h
  split at h
  · cases h; rfl
  · cases h
def y3y (p : List Layer) (x : List Layer) : St := { slots := [(3, .own 0)], heap := [(0, .arr none (.st .layer) x)], nid := 1, n := 23, gh := [] }
def y3z (ρ : Type) (k : Nat) : Nat → Ev ρ → Ev ρ := fun id f => cond (Nat.beq id 0) (loopOrc y3r y3s (fun n nf => cond (Nat.beq n 23) (y3w nf) none) fun pv K => iter (fun v next => L_toLayerS_g0 k pv.1 v next (fun x => K (.exit 0) (y3y pv.1 x))) k pv.2) ((fun _ _ _ _ => none) id f)
theorem y40 {ρ : Type} (k : Nat) (p : List Layer) (v : Int × List Layer) (K K1 : Ex → St → Option ρ) : ev (y3n k) (y3z ρ k) 0 y3q (y3v (p, v)) (fun e st' => match e with
    | .normal => (normC y3r y3s st').bind fun nf => K1 .normal (denorm y3r st'.n nf)
    | e => (normC (y3t e) (y3u e) st').bind fun nf => K e (denorm (y3t e) st'.n nf)) = L_toLayerS_g0 k p v (fun v' => K1 .normal (y3v (p, v'))) (fun x => K (.exit 0) (y3y p x)) := by kernel_rfl
theorem y41 {ρ : Type} (k : Nat) : Sound Try.prog (.loop y3q) (y3z ρ k 0 fun st K => ev (y3n k) (y3z ρ k) 0 y3q st K) :=
  loop_ok (ev_sound (y3o k) y3q 0 (lpgood_none (by kernel_rfl))) y3t y3u k (g := fun p v next K => L_toLayerS_g0 k p v next (fun x => K (.exit 0) (y3y p x))) (dec_at y3x) (fun p v K K1 => y40 k p v K K1)
def y42 (a : List Layer) : List Arg := [.one (.sl (.st .layer) a)]
def y43 (l : List Arg) : Option (List Layer) := match l with
  | [.one (.sl (.st .layer) b0)] => some b0
  | _ => none
def y44 (r : List Layer) : Out := (.own 0, [.arr none (.st .layer) r])
def y45 (o : Out) : Option (List Layer) := match o with
  | (.own 0, [.arr none (.st .layer) z1]) => some z1
  | _ => none
def y46 (k : Nat) : PG := fun _ l K => (y43 l).bind fun a => (L_toLayerS k a).bind fun r => K (y44 r)
theorem y47 (k : Nat) (a : List Layer) : ev (y3n k) (y3z (List Layer) k) 0 y3p (st0 Try.f148 (y42 a)) (fin Try.prog Try.f148 (.own (.st .layer)) y45) = L_toLayerS k a := by kernel_rfl
theorem y48 (k : Nat) : PureOk Try.prog 148 (y46 k) :=
  pureOk_of_ev (y3o k) Try.func148 (by kernel_rfl) (by kernel_rfl) y42 y43
    (fun l a h => by unfold y43 at h; split at h <;> first | (cases h; rfl) | cases h) (fun a => rfl) (lpgood_of (l := [(0, y3q)]) (by kernel_rfl) ⟨y41 k, trivial⟩)
    (fun o r h => by unfold y45 at h; split at h <;> first | (cases h; rfl) | cases h) (y47 k)
def y49 (k : Nat) : Orc := pureOrc [.one (.sl (.st .layer))] (y46 k)
theorem y4a (k : Nat) : OrcOk Try.prog 148 (y49 k) := pureOrc_ok (y48 k)
noncomputable def y4b (k : Nat) : Env := { P := Try.prog, tt := tt, orc := fun g => cond (Nat.beq g 147) (y2j k) (cond (Nat.beq g 148) (y49 k) (noOrc)) }
theorem y4c (k : Nat) : EnvOk (y4b k) := fun g => (orc_cond (y2k k) (orc_cond (y4a k) (noOrc_ok _ _)))
noncomputable def y4d : Code := (Try.f49.body).getD .skip
def y4e (ρ : Type) (k : Nat) : Nat → Ev ρ → Ev ρ := fun _ _ _ _ => none
def y4f (a : Model) : List Arg := [.agg [.int .i64 a.inp.h, .int .i64 a.inp.w, .int .i64 a.inp.c, .sl (.st .layer) a.layers]]
def y4g (l : List Arg) : Option (Model) := match l with
  | [.agg [.int .i64 b0_0, .int .i64 b0_1, .int .i64 b0_2, .sl (.st .layer) b0_3]] => some (⟨(⟨b0_0, b0_1, b0_2⟩ : Shape), b0_3⟩ : Model)
  | _ => none
def y4h (r : Model) : Out := (.agg [.r [] (.int .i64 r.inp.h), .r [] (.int .i64 r.inp.w), .r [] (.int .i64 r.inp.c), .own 0], [.arr none (.st .layer) r.layers])
def y4i (o : Out) : Option (Model) := match o with
  | (.agg [.r [] (.int .i64 z1), .r [] (.int .i64 z2), .r [] (.int .i64 z3), .own 0], [.arr none (.st .layer) z4]) => some (⟨(⟨z1, z2, z3⟩ : Shape), z4⟩ : Model)
  | _ => none
def y4j (k : Nat) : PG := fun _ l K => (y4g l).bind fun a => (L_toModel k a).bind fun r => K (y4h r)
theorem y4k (k : Nat) (a : Model) : ev (y4b k) (y4e (Model) k) 0 y4d (st0 Try.f49 (y4f a)) (fin Try.prog Try.f49 (.agg [.sc, .sc, .sc, .own (.st .layer)]) y4i) = L_toModel k a := by kernel_rfl
theorem y4l (k : Nat) : PureOk Try.prog 49 (y4j k) :=
  pureOk_of_ev (y4c k) Try.func49 (by kernel_rfl) (by kernel_rfl) y4f y4g
    (fun l a h => by unfold y4g at h; split at h <;> first | (cases h; rfl) | cases h) (fun a => rfl) (lpgood_none (by kernel_rfl))
    (fun o r h => by unfold y4i at h; split at h <;> first | (cases h; rfl) | cases h) (y4k k)
def y4m (k : Nat) : Orc := pureOrc [.agg [(.int .i64), (.int .i64), (.int .i64), (.sl (.st .layer))]] (y4j k)
theorem y4n (k : Nat) : OrcOk Try.prog 49 (y4m k) := pureOrc_ok (y4l k)
noncomputable def y4o (k : Nat) : Env := { P := Try.prog, tt := tt, orc := fun g => noOrc }
theorem y4p (k : Nat) : EnvOk (y4o k) := fun g => (noOrc_ok _ _)
noncomputable def y4q : Code := (Try.f136.body).getD .skip
def y4r (ρ : Type) (k : Nat) : Nat → Ev ρ → Ev ρ := fun _ _ _ _ => none
def y4s (a : Int × Int × Int) : List Arg := [.one (.int .i64 a.1), .one (.int .i64 a.2.1), .one (.int .i64 a.2.2)]
def y4t (l : List Arg) : Option (Int × Int × Int) := match l with
  | [.one (.int .i64 b0), .one (.int .i64 b1), .one (.int .i64 b2)] => some (b0, b1, b2)
  | _ => none
def y4u (r : Bool) : Out := (.r [] (.bool r), [])
def y4v (o : Out) : Option (Bool) := match o with
  | (.r [] (.bool z1), []) => some z1
  | _ => none
def y4w (k : Nat) : PG := fun _ l K => (y4t l).bind fun a => (S_l01In k a.1 a.2.1 a.2.2).bind fun r => K (y4u r)
theorem y4x (k : Nat) (a : Int × Int × Int) : ev (y4o k) (y4r (Bool) k) 0 y4q (st0 Try.f136 (y4s a)) (fin Try.prog Try.f136 (.sc) y4v) = S_l01In k a.1 a.2.1 a.2.2 := by kernel_rfl
theorem y4y (k : Nat) : PureOk Try.prog 136 (y4w k) :=
  pureOk_of_ev (y4p k) Try.func136 (by kernel_rfl) (by kernel_rfl) y4s y4t
    (fun l a h => by unfold y4t at h; split at h <;> first | (cases h; rfl) | cases h) (fun a => rfl) (lpgood_none (by kernel_rfl))
    (fun o r h => by unfold y4v at h; split at h <;> first | (cases h; rfl) | cases h) (y4x k)
def y4z (k : Nat) : Orc := pureOrc [.one (.int .i64), .one (.int .i64), .one (.int .i64)] (y4w k)
theorem y50 (k : Nat) : OrcOk Try.prog 136 (y4z k) := pureOrc_ok (y4y k)
noncomputable def y51 (k : Nat) : Env := { P := Try.prog, tt := tt, orc := fun g => cond (Nat.beq g 136) (y4z k) (noOrc) }
theorem y52 (k : Nat) : EnvOk (y51 k) := fun g => (orc_cond (y50 k) (noOrc_ok _ _))
noncomputable def y53 : Code := (Try.f202.body).getD .skip
def y54 (ρ : Type) (k : Nat) : Nat → Ev ρ → Ev ρ := fun _ _ _ _ => none
def y55 (a : Shape) : List Arg := [.agg [.int .i64 a.h, .int .i64 a.w, .int .i64 a.c]]
def y56 (l : List Arg) : Option (Shape) := match l with
  | [.agg [.int .i64 b0_0, .int .i64 b0_1, .int .i64 b0_2]] => some (⟨b0_0, b0_1, b0_2⟩ : Shape)
  | _ => none
def y57 (r : Bool) : Out := (.r [] (.bool r), [])
def y58 (o : Out) : Option (Bool) := match o with
  | (.r [] (.bool z1), []) => some z1
  | _ => none
def y59 (k : Nat) : PG := fun _ l K => (y56 l).bind fun a => (S_ShapeOk k a).bind fun r => K (y57 r)
theorem y5a (k : Nat) (a : Shape) : ev (y51 k) (y54 (Bool) k) 0 y53 (st0 Try.f202 (y55 a)) (fin Try.prog Try.f202 (.sc) y58) = S_ShapeOk k a := by kernel_rfl
theorem y5b (k : Nat) : PureOk Try.prog 202 (y59 k) :=
  pureOk_of_ev (y52 k) Try.func202 (by kernel_rfl) (by kernel_rfl) y55 y56
    (fun l a h => by unfold y56 at h; split at h <;> first | (cases h; rfl) | cases h) (fun a => rfl) (lpgood_none (by kernel_rfl))
    (fun o r h => by unfold y58 at h; split at h <;> first | (cases h; rfl) | cases h) (y5a k)
def y5c (k : Nat) : Orc := pureOrc [.agg [(.int .i64), (.int .i64), (.int .i64)]] (y59 k)
theorem y5d (k : Nat) : OrcOk Try.prog 202 (y5c k) := pureOrc_ok (y5b k)
noncomputable def y5e (k : Nat) : Env := { P := Try.prog, tt := tt, orc := fun g => cond (Nat.beq g 136) (y4z k) (noOrc) }
theorem y5f (k : Nat) : EnvOk (y5e k) := fun g => (orc_cond (y50 k) (noOrc_ok _ _))
noncomputable def y5g : Code := (Try.f209.body).getD .skip
def y5h (ρ : Type) (k : Nat) : Nat → Ev ρ → Ev ρ := fun _ _ _ _ => none
def y5i (a : Int) : List Arg := [.one (.int .i64 a)]
def y5j (l : List Arg) : Option (Int) := match l with
  | [.one (.int .i64 b0)] => some b0
  | _ => none
def y5k (r : Bool) : Out := (.r [] (.bool r), [])
def y5l (o : Out) : Option (Bool) := match o with
  | (.r [] (.bool z1), []) => some z1
  | _ => none
def y5m (k : Nat) : PG := fun _ l K => (y5j l).bind fun a => (S_l02Int8 k a).bind fun r => K (y5k r)
theorem y5n (k : Nat) (a : Int) : ev (y5e k) (y5h (Bool) k) 0 y5g (st0 Try.f209 (y5i a)) (fin Try.prog Try.f209 (.sc) y5l) = S_l02Int8 k a := by kernel_rfl
theorem y5o (k : Nat) : PureOk Try.prog 209 (y5m k) :=
  pureOk_of_ev (y5f k) Try.func209 (by kernel_rfl) (by kernel_rfl) y5i y5j
    (fun l a h => by unfold y5j at h; split at h <;> first | (cases h; rfl) | cases h) (fun a => rfl) (lpgood_none (by kernel_rfl))
    (fun o r h => by unfold y5l at h; split at h <;> first | (cases h; rfl) | cases h) (y5n k)
def y5p (k : Nat) : Orc := pureOrc [.one (.int .i64)] (y5m k)
theorem y5q (k : Nat) : OrcOk Try.prog 209 (y5p k) := pureOrc_ok (y5o k)
noncomputable def y5r (k : Nat) : Env := { P := Try.prog, tt := tt, orc := fun g => cond (Nat.beq g 136) (y4z k) (cond (Nat.beq g 209) (y5p k) (noOrc)) }
theorem y5s (k : Nat) : EnvOk (y5r k) := fun g => (orc_cond (y50 k) (orc_cond (y5q k) (noOrc_ok _ _)))
noncomputable def y5t : Code := (Try.f230.body).getD .skip
noncomputable def y5u : Code := ((loopsIn 0 y5t).getD 0 (0, .skip)).2
noncomputable def y5v : Code := ((loopsIn 0 y5t).getD 1 (0, .skip)).2
def y5w : List Nat := [3, 7]
def y5x : List (Where × Co) := []
def y5y : Ex → List Nat
  | .exit j => cond (Nat.beq j 0) [3] []
  | .ret => [6]
  | .normal => []
def y5z : Ex → List (Where × Co)
  | .exit j => cond (Nat.beq j 0) [] []
  | .ret => []
  | .normal => []
def y60 (pv : (Int × Int × Int × Int × Int × Int × Int × List Int × List Int) × (Int)) : St := { slots := [(3, .ptr 0 0 0), (7, .r [] (.int .i64 pv.2))], heap := [(0, .box [.r [] (.int .i64 pv.1.1), .r [] (.int .i64 pv.1.2.1), .r [] (.int .i64 pv.1.2.2.1), .r [] (.int .i64 pv.1.2.2.2.1), .r [] (.int .i64 pv.1.2.2.2.2.1), .r [] (.int .i64 pv.1.2.2.2.2.2.1), .r [] (.int .i64 pv.1.2.2.2.2.2.2.1), .r [] (.sl (.int .i64) pv.1.2.2.2.2.2.2.2.1), .r [] (.sl (.int .i64) pv.1.2.2.2.2.2.2.2.2)])], nid := 1, n := 121, gh := [] }
def y61 (nf : NF) : Option ((Int × Int × Int × Int × Int × Int × Int × List Int × List Int) × (Int)) := match nf with
  | ([.ptr 0 0 0, .r [] (.int .i64 w0)], [.box [.r [] (.int .i64 w1), .r [] (.int .i64 w2), .r [] (.int .i64 w3), .r [] (.int .i64 w4), .r [] (.int .i64 w5), .r [] (.int .i64 w6), .r [] (.int .i64 w7), .r [] (.sl (.int .i64) w8), .r [] (.sl (.int .i64) w9)]], []) => some ((w1, w2, w3, w4, w5, w6, w7, w8, w9), w0)
  | _ => none
theorem y62 (nf : NF) (v : (Int × Int × Int × Int × Int × Int × Int × List Int × List Int) × (Int)) (h : y61 nf = some v) : denorm y5w 121 nf = y60 v := by
  unfold y61 at h
  split at h
  · cases h; rfl
  · cases h
def y63 (p : Int × Int × Int × Int × Int × Int × Int × List Int × List Int) (x : Unit) : St := { slots := [(3, .ptr 0 0 0)], heap := [(0, .box [.r [] (.int .i64 p.1), .r [] (.int .i64 p.2.1), .r [] (.int .i64 p.2.2.1), .r [] (.int .i64 p.2.2.2.1), .r [] (.int .i64 p.2.2.2.2.1), .r [] (.int .i64 p.2.2.2.2.2.1), .r [] (.int .i64 p.2.2.2.2.2.2.1), .r [] (.sl (.int .i64) p.2.2.2.2.2.2.2.1), .r [] (.sl (.int .i64) p.2.2.2.2.2.2.2.2)])], nid := 1, n := 121, gh := [] }
def y64 (p : Int × Int × Int × Int × Int × Int × Int × List Int × List Int) (x : Bool) : St := { slots := [(6, .r [] (.bool x))], heap := [], nid := 0, n := 121, gh := [] }
def y65 : List Nat := [3, 8]
def y66 : List (Where × Co) := []
def y67 : Ex → List Nat
  | .exit j => cond (Nat.beq j 2) [] []
  | .ret => [6]
  | .normal => []
def y68 : Ex → List (Where × Co)
  | .exit j => cond (Nat.beq j 2) [] []
  | .ret => []
  | .normal => []
def y69 (pv : (Int × Int × Int × Int × Int × Int × Int × List Int × List Int) × (Int)) : St := { slots := [(3, .ptr 0 0 0), (8, .r [] (.int .i64 pv.2))], heap := [(0, .box [.r [] (.int .i64 pv.1.1), .r [] (.int .i64 pv.1.2.1), .r [] (.int .i64 pv.1.2.2.1), .r [] (.int .i64 pv.1.2.2.2.1), .r [] (.int .i64 pv.1.2.2.2.2.1), .r [] (.int .i64 pv.1.2.2.2.2.2.1), .r [] (.int .i64 pv.1.2.2.2.2.2.2.1), .r [] (.sl (.int .i64) pv.1.2.2.2.2.2.2.2.1), .r [] (.sl (.int .i64) pv.1.2.2.2.2.2.2.2.2)])], nid := 1, n := 121, gh := [] }
def y6a (nf : NF) : Option ((Int × Int × Int × Int × Int × Int × Int × List Int × List Int) × (Int)) := match nf with
  | ([.ptr 0 0 0, .r [] (.int .i64 w0)], [.box [.r [] (.int .i64 w1), .r [] (.int .i64 w2), .r [] (.int .i64 w3), .r [] (.int .i64 w4), .r [] (.int .i64 w5), .r [] (.int .i64 w6), .r [] (.int .i64 w7), .r [] (.sl (.int .i64) w8), .r [] (.sl (.int .i64) w9)]], []) => some ((w1, w2, w3, w4, w5, w6, w7, w8, w9), w0)
  | _ => none
theorem y6b (nf : NF) (v : (Int × Int × Int × Int × Int × Int × Int × List Int × List Int) × (Int)) (h : y6a nf = some v) : denorm y65 121 nf = y69 v := by
  unfold y6a at h
  split at h
  · cases h; rfl
  · cases h
def y6c (p : Int × Int × Int × Int × Int × Int × Int × List Int × List Int) (x : Unit) : St := { slots := [], heap := [], nid := 0, n := 121, gh := [] }
def y6d (p : Int × Int × Int × Int × Int × Int × Int × List Int × List Int) (x : Bool) : St := { slots := [(6, .r [] (.bool x))], heap := [], nid := 0, n := 121, gh := [] }
def y6e (ρ : Type) (k : Nat) : Nat → Ev ρ → Ev ρ := fun id f => cond (Nat.beq id 2) (loopOrc y65 y66 (fun n nf => cond (Nat.beq n 121) (y6a nf) none) fun pv K => iter (fun v next => S_l03Plain_g1 k pv.1 v next (fun x => K (.exit 2) (y6c pv.1 x)) (fun x => K .ret (y6d pv.1 x))) k pv.2) ((fun id f => cond (Nat.beq id 0) (loopOrc y5w y5x (fun n nf => cond (Nat.beq n 121) (y61 nf) none) fun pv K => iter (fun v next => S_l03Plain_g0 k pv.1 v next (fun x => K (.exit 0) (y63 pv.1 x)) (fun x => K .ret (y64 pv.1 x))) k pv.2) ((fun _ _ _ _ => none) id f)) id f)
theorem y6f {ρ : Type} (k : Nat) (p : Int × Int × Int × Int × Int × Int × Int × List Int × List Int) (v : Int) (K K1 : Ex → St → Option ρ) : ev (y5r k) (y6e ρ k) 0 y5u (y60 (p, v)) (fun e st' => match e with
    | .normal => (normC y5w y5x st').bind fun nf => K1 .normal (denorm y5w st'.n nf)
    | e => (normC (y5y e) (y5z e) st').bind fun nf => K e (denorm (y5y e) st'.n nf)) = S_l03Plain_g0 k p v (fun v' => K1 .normal (y60 (p, v'))) (fun x => K (.exit 0) (y63 p x)) (fun x => K .ret (y64 p x)) := by kernel_rfl
theorem y6g {ρ : Type} (k : Nat) : Sound Try.prog (.loop y5u) (y6e ρ k 0 fun st K => ev (y5r k) (y6e ρ k) 0 y5u st K) :=
  loop_ok (ev_sound (y5s k) y5u 0 (lpgood_none (by kernel_rfl))) y5y y5z k (g := fun p v next K => S_l03Plain_g0 k p v next (fun x => K (.exit 0) (y63 p x)) (fun x => K .ret (y64 p x))) (dec_at y62) (fun p v K K1 => y6f k p v K K1)
theorem y6h {ρ : Type} (k : Nat) (p : Int × Int × Int × Int × Int × Int × Int × List Int × List Int) (v : Int) (K K1 : Ex → St → Option ρ) : ev (y5r k) (y6e ρ k) 2 y5v (y69 (p, v)) (fun e st' => match e with
    | .normal => (normC y65 y66 st').bind fun nf => K1 .normal (denorm y65 st'.n nf)
    | e => (normC (y67 e) (y68 e) st').bind fun nf => K e (denorm (y67 e) st'.n nf)) = S_l03Plain_g1 k p v (fun v' => K1 .normal (y69 (p, v'))) (fun x => K (.exit 2) (y6c p x)) (fun x => K .ret (y6d p x)) := by kernel_rfl
theorem y6i {ρ : Type} (k : Nat) : Sound Try.prog (.loop y5v) (y6e ρ k 2 fun st K => ev (y5r k) (y6e ρ k) 2 y5v st K) :=
  loop_ok (ev_sound (y5s k) y5v 2 (lpgood_none (by kernel_rfl))) y67 y68 k (g := fun p v next K => S_l03Plain_g1 k p v next (fun x => K (.exit 2) (y6c p x)) (fun x => K .ret (y6d p x))) (dec_at y6b) (fun p v K K1 => y6h k p v K K1)
def y6j (a : Layer × Bool × Bool) : List Arg := [.agg [.int .i64 a.1.kind, .int .i64 a.1.out, .int .i64 a.1.size, .int .i64 a.1.step, .int .i64 a.1.mult, .int .i64 a.1.shift, .int .i64 a.1.zero, .sl (.int .i64) a.1.weights, .sl (.int .i64) a.1.bias], .one (.bool a.2.1), .one (.bool a.2.2)]
def y6k (l : List Arg) : Option (Layer × Bool × Bool) := match l with
  | [.agg [.int .i64 b0_0, .int .i64 b0_1, .int .i64 b0_2, .int .i64 b0_3, .int .i64 b0_4, .int .i64 b0_5, .int .i64 b0_6, .sl (.int .i64) b0_7, .sl (.int .i64) b0_8], .one (.bool b1), .one (.bool b2)] => some ((⟨b0_0, b0_1, b0_2, b0_3, b0_4, b0_5, b0_6, b0_7, b0_8⟩ : Layer), b1, b2)
  | _ => none
def y6l (r : Bool) : Out := (.r [] (.bool r), [])
def y6m (o : Out) : Option (Bool) := match o with
  | (.r [] (.bool z1), []) => some z1
  | _ => none
def y6n (k : Nat) : PG := fun _ l K => (y6k l).bind fun a => (S_l03Plain k a.1 a.2.1 a.2.2).bind fun r => K (y6l r)
theorem y6o (k : Nat) (a : Layer × Bool × Bool) : ev (y5r k) (y6e (Bool) k) 0 y5t (st0 Try.f230 (y6j a)) (fin Try.prog Try.f230 (.sc) y6m) = S_l03Plain k a.1 a.2.1 a.2.2 := by kernel_rfl
theorem y6p (k : Nat) : PureOk Try.prog 230 (y6n k) :=
  pureOk_of_ev (y5s k) Try.func230 (by kernel_rfl) (by kernel_rfl) y6j y6k
    (fun l a h => by unfold y6k at h; split at h <;> first | (cases h; rfl) | cases h) (fun a => rfl) (lpgood_of (l := [(0, y5u), (2, y5v)]) (by kernel_rfl) ⟨y6g k, ⟨y6i k, trivial⟩⟩)
    (fun o r h => by unfold y6m at h; split at h <;> first | (cases h; rfl) | cases h) (y6o k)
def y6q (k : Nat) : Orc := pureOrc [.agg [(.int .i64), (.int .i64), (.int .i64), (.int .i64), (.int .i64), (.int .i64), (.int .i64), (.sl (.int .i64)), (.sl (.int .i64))], .one .bool, .one .bool] (y6n k)
theorem y6r (k : Nat) : OrcOk Try.prog 230 (y6q k) := pureOrc_ok (y6p k)
noncomputable def y6s (k : Nat) : Env := { P := Try.prog, tt := tt, orc := fun g => cond (Nat.beq g 202) (y5c k) (noOrc) }
theorem y6t (k : Nat) : EnvOk (y6s k) := fun g => (orc_cond (y5d k) (noOrc_ok _ _))
noncomputable def y6u : Code := (Try.f208.body).getD .skip
def y6v (ρ : Type) (k : Nat) : Nat → Ev ρ → Ev ρ := fun _ _ _ _ => none
def y6w (a : Shape) : List Arg := [.agg [.int .i64 a.h, .int .i64 a.w, .int .i64 a.c]]
def y6x (l : List Arg) : Option (Shape) := match l with
  | [.agg [.int .i64 b0_0, .int .i64 b0_1, .int .i64 b0_2]] => some (⟨b0_0, b0_1, b0_2⟩ : Shape)
  | _ => none
def y6y (r : Int) : Out := (.r [] (.int .i64 r), [])
def y6z (o : Out) : Option (Int) := match o with
  | (.r [] (.int .i64 z1), []) => some z1
  | _ => none
def y70 (k : Nat) : PG := fun _ l K => (y6x l).bind fun a => (S_SizeOf k a).bind fun r => K (y6y r)
theorem y71 (k : Nat) (a : Shape) : ev (y6s k) (y6v (Int) k) 0 y6u (st0 Try.f208 (y6w a)) (fin Try.prog Try.f208 (.sc) y6z) = S_SizeOf k a := by kernel_rfl
theorem y72 (k : Nat) : PureOk Try.prog 208 (y70 k) :=
  pureOk_of_ev (y6t k) Try.func208 (by kernel_rfl) (by kernel_rfl) y6w y6x
    (fun l a h => by unfold y6x at h; split at h <;> first | (cases h; rfl) | cases h) (fun a => rfl) (lpgood_none (by kernel_rfl))
    (fun o r h => by unfold y6z at h; split at h <;> first | (cases h; rfl) | cases h) (y71 k)
def y73 (k : Nat) : Orc := pureOrc [.agg [(.int .i64), (.int .i64), (.int .i64)]] (y70 k)
theorem y74 (k : Nat) : OrcOk Try.prog 208 (y73 k) := pureOrc_ok (y72 k)
noncomputable def y75 (k : Nat) : Env := { P := Try.prog, tt := tt, orc := fun g => cond (Nat.beq g 136) (y4z k) (cond (Nat.beq g 202) (y5c k) (cond (Nat.beq g 208) (y73 k) (cond (Nat.beq g 230) (y6q k) (noOrc)))) }
theorem y76 (k : Nat) : EnvOk (y75 k) := fun g => (orc_cond (y50 k) (orc_cond (y5d k) (orc_cond (y74 k) (orc_cond (y6r k) (noOrc_ok _ _)))))
noncomputable def y77 : Code := (Try.f203.body).getD .skip
def y78 (ρ : Type) (k : Nat) : Nat → Ev ρ → Ev ρ := fun _ _ _ _ => none
def y79 (a : Shape × Layer) : List Arg := [.agg [.int .i64 a.1.h, .int .i64 a.1.w, .int .i64 a.1.c], .agg [.int .i64 a.2.kind, .int .i64 a.2.out, .int .i64 a.2.size, .int .i64 a.2.step, .int .i64 a.2.mult, .int .i64 a.2.shift, .int .i64 a.2.zero, .sl (.int .i64) a.2.weights, .sl (.int .i64) a.2.bias]]
def y7a (l : List Arg) : Option (Shape × Layer) := match l with
  | [.agg [.int .i64 b0_0, .int .i64 b0_1, .int .i64 b0_2], .agg [.int .i64 b1_0, .int .i64 b1_1, .int .i64 b1_2, .int .i64 b1_3, .int .i64 b1_4, .int .i64 b1_5, .int .i64 b1_6, .sl (.int .i64) b1_7, .sl (.int .i64) b1_8]] => some ((⟨b0_0, b0_1, b0_2⟩ : Shape), (⟨b1_0, b1_1, b1_2, b1_3, b1_4, b1_5, b1_6, b1_7, b1_8⟩ : Layer))
  | _ => none
def y7b (r : Shape × Bool) : Out := (.tup [.agg [.r [] (.int .i64 r.1.h), .r [] (.int .i64 r.1.w), .r [] (.int .i64 r.1.c)], .r [] (.bool r.2)], [])
def y7c (o : Out) : Option (Shape × Bool) := match o with
  | (.tup [.agg [.r [] (.int .i64 z1), .r [] (.int .i64 z2), .r [] (.int .i64 z3)], .r [] (.bool z4)], []) => some ((⟨z1, z2, z3⟩ : Shape), z4)
  | _ => none
def y7d (k : Nat) : PG := fun _ l K => (y7a l).bind fun a => (S_OutShape k a.1 a.2).bind fun r => K (y7b r)
theorem y7e (k : Nat) (a : Shape × Layer) : ev (y75 k) (y78 (Shape × Bool) k) 0 y77 (st0 Try.f203 (y79 a)) (fin Try.prog Try.f203 (.tup [.agg [.sc, .sc, .sc], .sc]) y7c) = S_OutShape k a.1 a.2 := by kernel_rfl
theorem y7f (k : Nat) : PureOk Try.prog 203 (y7d k) :=
  pureOk_of_ev (y76 k) Try.func203 (by kernel_rfl) (by kernel_rfl) y79 y7a
    (fun l a h => by unfold y7a at h; split at h <;> first | (cases h; rfl) | cases h) (fun a => rfl) (lpgood_none (by kernel_rfl))
    (fun o r h => by unfold y7c at h; split at h <;> first | (cases h; rfl) | cases h) (y7e k)
def y7g (k : Nat) : Orc := pureOrc [.agg [(.int .i64), (.int .i64), (.int .i64)], .agg [(.int .i64), (.int .i64), (.int .i64), (.int .i64), (.int .i64), (.int .i64), (.int .i64), (.sl (.int .i64)), (.sl (.int .i64))]] (y7d k)
theorem y7h (k : Nat) : OrcOk Try.prog 203 (y7g k) := pureOrc_ok (y7f k)
noncomputable def y7i (k : Nat) : Env := { P := Try.prog, tt := tt, orc := fun g => cond (Nat.beq g 136) (y4z k) (cond (Nat.beq g 202) (y5c k) (cond (Nat.beq g 203) (y7g k) (noOrc))) }
theorem y7j (k : Nat) : EnvOk (y7i k) := fun g => (orc_cond (y50 k) (orc_cond (y5d k) (orc_cond (y7h k) (noOrc_ok _ _))))
noncomputable def y7k : Code := (Try.f144.body).getD .skip
noncomputable def y7l : Code := ((loopsIn 0 y7k).getD 0 (0, .skip)).2
def y7m : List Nat := [1, 4, 5]
def y7n : List (Where × Co) := []
def y7o : Ex → List Nat
  | .exit j => cond (Nat.beq j 0) [4] []
  | .ret => [2, 3]
  | .normal => []
def y7p : Ex → List (Where × Co)
  | .exit j => cond (Nat.beq j 0) [] []
  | .ret => []
  | .normal => []
def y7q (pv : (Int × Int × Int × List Layer) × (Int × List Shape)) : St := { slots := [(1, .ptr 0 0 0), (4, .own 1), (5, .r [] (.int .i64 pv.2.1))], heap := [(0, .box [.r [] (.int .i64 pv.1.1), .r [] (.int .i64 pv.1.2.1), .r [] (.int .i64 pv.1.2.2.1), .r [] (.sl (.st .layer) pv.1.2.2.2)]), (1, .arr none (.st .shape) pv.2.2)], nid := 2, n := 49, gh := [] }
def y7r (nf : NF) : Option ((Int × Int × Int × List Layer) × (Int × List Shape)) := match nf with
  | ([.ptr 0 0 0, .own 1, .r [] (.int .i64 w0)], [.box [.r [] (.int .i64 w1), .r [] (.int .i64 w2), .r [] (.int .i64 w3), .r [] (.sl (.st .layer) w4)], .arr none (.st .shape) w5], []) => some ((w1, w2, w3, w4), (w0, w5))
  | _ => none
theorem y7s (nf : NF) (v : (Int × Int × Int × List Layer) × (Int × List Shape)) (h : y7r nf = some v) : denorm y7m 49 nf = y7q v := by
  unfold y7r at h
  split at h
  · cases h; rfl
  · cases h
def y7t (p : Int × Int × Int × List Layer) (x : List Shape) : St := { slots := [(4, .own 0)], heap := [(0, .arr none (.st .shape) x)], nid := 1, n := 49, gh := [] }
def y7u (p : Int × Int × Int × List Layer) (x : Bool) : St := { slots := [(2, .nilS), (3, .r [] (.bool x))], heap := [], nid := 0, n := 49, gh := [] }
def y7v (ρ : Type) (k : Nat) : Nat → Ev ρ → Ev ρ := fun id f => cond (Nat.beq id 0) (loopOrc y7m y7n (fun n nf => cond (Nat.beq n 49) (y7r nf) none) fun pv K => iter (fun v next => S_l04Shapes_g0 k pv.1 v next (fun x => K (.exit 0) (y7t pv.1 x)) (fun x => K .ret (y7u pv.1 x))) k pv.2) ((fun _ _ _ _ => none) id f)
theorem y7w {ρ : Type} (k : Nat) (p : Int × Int × Int × List Layer) (v : Int × List Shape) (K K1 : Ex → St → Option ρ) : ev (y7i k) (y7v ρ k) 0 y7l (y7q (p, v)) (fun e st' => match e with
    | .normal => (normC y7m y7n st').bind fun nf => K1 .normal (denorm y7m st'.n nf)
    | e => (normC (y7o e) (y7p e) st').bind fun nf => K e (denorm (y7o e) st'.n nf)) = S_l04Shapes_g0 k p v (fun v' => K1 .normal (y7q (p, v'))) (fun x => K (.exit 0) (y7t p x)) (fun x => K .ret (y7u p x)) := by kernel_rfl
theorem y7x {ρ : Type} (k : Nat) : Sound Try.prog (.loop y7l) (y7v ρ k 0 fun st K => ev (y7i k) (y7v ρ k) 0 y7l st K) :=
  loop_ok (ev_sound (y7j k) y7l 0 (lpgood_none (by kernel_rfl))) y7o y7p k (g := fun p v next K => S_l04Shapes_g0 k p v next (fun x => K (.exit 0) (y7t p x)) (fun x => K .ret (y7u p x))) (dec_at y7s) (fun p v K K1 => y7w k p v K K1)
def y7y (a : Model) : List Arg := [.agg [.int .i64 a.inp.h, .int .i64 a.inp.w, .int .i64 a.inp.c, .sl (.st .layer) a.layers]]
def y7z (l : List Arg) : Option (Model) := match l with
  | [.agg [.int .i64 b0_0, .int .i64 b0_1, .int .i64 b0_2, .sl (.st .layer) b0_3]] => some (⟨(⟨b0_0, b0_1, b0_2⟩ : Shape), b0_3⟩ : Model)
  | _ => none
def y80 (r : List Shape × Bool) : Out := (.tup [.own 0, .r [] (.bool r.2)], [.arr none (.st .shape) r.1])
def y81 (o : Out) : Option (List Shape × Bool) := match o with
  | (.tup [.own 0, .r [] (.bool z2)], [.arr none (.st .shape) z1]) => some (z1, z2)
  | _ => none
def y82 (k : Nat) : PG := fun _ l K => (y7z l).bind fun a => (S_l04Shapes k a).bind fun r => K (y80 r)
theorem y83 (k : Nat) (a : Model) : ev (y7i k) (y7v (List Shape × Bool) k) 0 y7k (st0 Try.f144 (y7y a)) (fin Try.prog Try.f144 (.tup [.own (.st .shape), .sc]) y81) = S_l04Shapes k a := by kernel_rfl
theorem y84 (k : Nat) : PureOk Try.prog 144 (y82 k) :=
  pureOk_of_ev (y7j k) Try.func144 (by kernel_rfl) (by kernel_rfl) y7y y7z
    (fun l a h => by unfold y7z at h; split at h <;> first | (cases h; rfl) | cases h) (fun a => rfl) (lpgood_of (l := [(0, y7l)]) (by kernel_rfl) ⟨y7x k, trivial⟩)
    (fun o r h => by unfold y81 at h; split at h <;> first | (cases h; rfl) | cases h) (y83 k)
def y85 (k : Nat) : Orc := pureOrc [.agg [(.int .i64), (.int .i64), (.int .i64), (.sl (.st .layer))]] (y82 k)
theorem y86 (k : Nat) : OrcOk Try.prog 144 (y85 k) := pureOrc_ok (y84 k)
noncomputable def y87 (k : Nat) : Env := { P := Try.prog, tt := tt, orc := fun g => cond (Nat.beq g 144) (y85 k) (noOrc) }
theorem y88 (k : Nat) : EnvOk (y87 k) := fun g => (orc_cond (y86 k) (noOrc_ok _ _))
noncomputable def y89 : Code := (Try.f89.body).getD .skip
def y8a (ρ : Type) (k : Nat) : Nat → Ev ρ → Ev ρ := fun _ _ _ _ => none
def y8b (a : Model) : List Arg := [.agg [.int .i64 a.inp.h, .int .i64 a.inp.w, .int .i64 a.inp.c, .sl (.st .layer) a.layers]]
def y8c (l : List Arg) : Option (Model) := match l with
  | [.agg [.int .i64 b0_0, .int .i64 b0_1, .int .i64 b0_2, .sl (.st .layer) b0_3]] => some (⟨(⟨b0_0, b0_1, b0_2⟩ : Shape), b0_3⟩ : Model)
  | _ => none
def y8d (r : Bool) : Out := (.r [] (.bool r), [])
def y8e (o : Out) : Option (Bool) := match o with
  | (.r [] (.bool z1), []) => some z1
  | _ => none
def y8f (k : Nat) : PG := fun _ l K => (y8c l).bind fun a => (S_ModelOk k a).bind fun r => K (y8d r)
theorem y8g (k : Nat) (a : Model) : ev (y87 k) (y8a (Bool) k) 0 y89 (st0 Try.f89 (y8b a)) (fin Try.prog Try.f89 (.sc) y8e) = S_ModelOk k a := by kernel_rfl
theorem y8h (k : Nat) : PureOk Try.prog 89 (y8f k) :=
  pureOk_of_ev (y88 k) Try.func89 (by kernel_rfl) (by kernel_rfl) y8b y8c
    (fun l a h => by unfold y8c at h; split at h <;> first | (cases h; rfl) | cases h) (fun a => rfl) (lpgood_none (by kernel_rfl))
    (fun o r h => by unfold y8e at h; split at h <;> first | (cases h; rfl) | cases h) (y8g k)
def y8i (k : Nat) : Orc := pureOrc [.agg [(.int .i64), (.int .i64), (.int .i64), (.sl (.st .layer))]] (y8f k)
theorem y8j (k : Nat) : OrcOk Try.prog 89 (y8i k) := pureOrc_ok (y8h k)
noncomputable def y8k (k : Nat) : Env := { P := Try.prog, tt := tt, orc := fun g => noOrc }
theorem y8l (k : Nat) : EnvOk (y8k k) := fun g => (noOrc_ok _ _)
noncomputable def y8m : Code := (Try.f113.body).getD .skip
noncomputable def y8n : Code := ((loopsIn 0 y8m).getD 0 (0, .skip)).2
def y8o : List Nat := [0, 3, 4]
def y8p : List (Where × Co) := []
def y8q : Ex → List Nat
  | .exit j => cond (Nat.beq j 0) [3] []
  | .ret => []
  | .normal => []
def y8r : Ex → List (Where × Co)
  | .exit j => cond (Nat.beq j 0) [] []
  | .ret => []
  | .normal => []
def y8s (pv : (List Int) × (Int × List Int)) : St := { slots := [(0, .r [] (.sl (.int .i64) pv.1)), (3, .own 0), (4, .r [] (.int .i64 pv.2.1))], heap := [(0, .arr none (.int .i64) pv.2.2)], nid := 1, n := 20, gh := [] }
def y8t (nf : NF) : Option ((List Int) × (Int × List Int)) := match nf with
  | ([.r [] (.sl (.int .i64) w0), .own 0, .r [] (.int .i64 w1)], [.arr none (.int .i64) w2], []) => some (w0, (w1, w2))
  | _ => none
theorem y8u (nf : NF) (v : (List Int) × (Int × List Int)) (h : y8t nf = some v) : denorm y8o 20 nf = y8s v := by
  unfold y8t at h
  split at h
  · cases h; rfl
  · cases h
def y8v (p : List Int) (x : List Int) : St := { slots := [(3, .own 0)], heap := [(0, .arr none (.int .i64) x)], nid := 1, n := 20, gh := [] }
def y8w (ρ : Type) (k : Nat) : Nat → Ev ρ → Ev ρ := fun id f => cond (Nat.beq id 0) (loopOrc y8o y8p (fun n nf => cond (Nat.beq n 20) (y8t nf) none) fun pv K => iter (fun v next => S_l01Copy_g0 k pv.1 v next (fun x => K (.exit 0) (y8v pv.1 x))) k pv.2) ((fun _ _ _ _ => none) id f)
theorem y8x {ρ : Type} (k : Nat) (p : List Int) (v : Int × List Int) (K K1 : Ex → St → Option ρ) : ev (y8k k) (y8w ρ k) 0 y8n (y8s (p, v)) (fun e st' => match e with
    | .normal => (normC y8o y8p st').bind fun nf => K1 .normal (denorm y8o st'.n nf)
    | e => (normC (y8q e) (y8r e) st').bind fun nf => K e (denorm (y8q e) st'.n nf)) = S_l01Copy_g0 k p v (fun v' => K1 .normal (y8s (p, v'))) (fun x => K (.exit 0) (y8v p x)) := by kernel_rfl
theorem y8y {ρ : Type} (k : Nat) : Sound Try.prog (.loop y8n) (y8w ρ k 0 fun st K => ev (y8k k) (y8w ρ k) 0 y8n st K) :=
  loop_ok (ev_sound (y8l k) y8n 0 (lpgood_none (by kernel_rfl))) y8q y8r k (g := fun p v next K => S_l01Copy_g0 k p v next (fun x => K (.exit 0) (y8v p x))) (dec_at y8u) (fun p v K K1 => y8x k p v K K1)
def y8z (a : List Int) : List Arg := [.one (.sl (.int .i64) a)]
def y90 (l : List Arg) : Option (List Int) := match l with
  | [.one (.sl (.int .i64) b0)] => some b0
  | _ => none
def y91 (r : List Int) : Out := (.own 0, [.arr none (.int .i64) r])
def y92 (o : Out) : Option (List Int) := match o with
  | (.own 0, [.arr none (.int .i64) z1]) => some z1
  | _ => none
def y93 (k : Nat) : PG := fun _ l K => (y90 l).bind fun a => (S_l01Copy k a).bind fun r => K (y91 r)
theorem y94 (k : Nat) (a : List Int) : ev (y8k k) (y8w (List Int) k) 0 y8m (st0 Try.f113 (y8z a)) (fin Try.prog Try.f113 (.own (.int .i64)) y92) = S_l01Copy k a := by kernel_rfl
theorem y95 (k : Nat) : PureOk Try.prog 113 (y93 k) :=
  pureOk_of_ev (y8l k) Try.func113 (by kernel_rfl) (by kernel_rfl) y8z y90
    (fun l a h => by unfold y90 at h; split at h <;> first | (cases h; rfl) | cases h) (fun a => rfl) (lpgood_of (l := [(0, y8n)]) (by kernel_rfl) ⟨y8y k, trivial⟩)
    (fun o r h => by unfold y92 at h; split at h <;> first | (cases h; rfl) | cases h) (y94 k)
def y96 (k : Nat) : Orc := pureOrc [.one (.sl (.int .i64))] (y93 k)
theorem y97 (k : Nat) : OrcOk Try.prog 113 (y96 k) := pureOrc_ok (y95 k)
noncomputable def y98 (k : Nat) : Env := { P := Try.prog, tt := tt, orc := fun g => cond (Nat.beq g 113) (y96 k) (noOrc) }
theorem y99 (k : Nat) : EnvOk (y98 k) := fun g => (orc_cond (y97 k) (noOrc_ok _ _))
noncomputable def y9a : Code := (Try.f146.body).getD .skip
def y9b (ρ : Type) (k : Nat) : Nat → Ev ρ → Ev ρ := fun _ _ _ _ => none
def y9c (a : Layer) : List Arg := [.agg [.int .i64 a.kind, .int .i64 a.out, .int .i64 a.size, .int .i64 a.step, .int .i64 a.mult, .int .i64 a.shift, .int .i64 a.zero, .sl (.int .i64) a.weights, .sl (.int .i64) a.bias]]
def y9d (l : List Arg) : Option (Layer) := match l with
  | [.agg [.int .i64 b0_0, .int .i64 b0_1, .int .i64 b0_2, .int .i64 b0_3, .int .i64 b0_4, .int .i64 b0_5, .int .i64 b0_6, .sl (.int .i64) b0_7, .sl (.int .i64) b0_8]] => some (⟨b0_0, b0_1, b0_2, b0_3, b0_4, b0_5, b0_6, b0_7, b0_8⟩ : Layer)
  | _ => none
def y9e (r : Layer) : Out := (.agg [.r [] (.int .i64 r.kind), .r [] (.int .i64 r.out), .r [] (.int .i64 r.size), .r [] (.int .i64 r.step), .r [] (.int .i64 r.mult), .r [] (.int .i64 r.shift), .r [] (.int .i64 r.zero), .own 0, .own 1], [.arr none (.int .i64) r.weights, .arr none (.int .i64) r.bias])
def y9f (o : Out) : Option (Layer) := match o with
  | (.agg [.r [] (.int .i64 z1), .r [] (.int .i64 z2), .r [] (.int .i64 z3), .r [] (.int .i64 z4), .r [] (.int .i64 z5), .r [] (.int .i64 z6), .r [] (.int .i64 z7), .own 0, .own 1], [.arr none (.int .i64) z8, .arr none (.int .i64) z9]) => some (⟨z1, z2, z3, z4, z5, z6, z7, z8, z9⟩ : Layer)
  | _ => none
def y9g (k : Nat) : PG := fun _ l K => (y9d l).bind fun a => (S_l03Copy k a).bind fun r => K (y9e r)
theorem y9h (k : Nat) (a : Layer) : ev (y98 k) (y9b (Layer) k) 0 y9a (st0 Try.f146 (y9c a)) (fin Try.prog Try.f146 (.agg [.sc, .sc, .sc, .sc, .sc, .sc, .sc, .own (.int .i64), .own (.int .i64)]) y9f) = S_l03Copy k a := by kernel_rfl
theorem y9i (k : Nat) : PureOk Try.prog 146 (y9g k) :=
  pureOk_of_ev (y99 k) Try.func146 (by kernel_rfl) (by kernel_rfl) y9c y9d
    (fun l a h => by unfold y9d at h; split at h <;> first | (cases h; rfl) | cases h) (fun a => rfl) (lpgood_none (by kernel_rfl))
    (fun o r h => by unfold y9f at h; split at h <;> first | (cases h; rfl) | cases h) (y9h k)
def y9j (k : Nat) : Orc := pureOrc [.agg [(.int .i64), (.int .i64), (.int .i64), (.int .i64), (.int .i64), (.int .i64), (.int .i64), (.sl (.int .i64)), (.sl (.int .i64))]] (y9g k)
theorem y9k (k : Nat) : OrcOk Try.prog 146 (y9j k) := pureOrc_ok (y9i k)
noncomputable def y9l (k : Nat) : Env := { P := Try.prog, tt := tt, orc := fun g => cond (Nat.beq g 146) (y9j k) (noOrc) }
theorem y9m (k : Nat) : EnvOk (y9l k) := fun g => (orc_cond (y9k k) (noOrc_ok _ _))
noncomputable def y9n : Code := (Try.f145.body).getD .skip
noncomputable def y9o : Code := ((loopsIn 0 y9n).getD 0 (0, .skip)).2
def y9p : List Nat := [1, 2, 3, 4]
def y9q : List (Where × Co) := [((.pbox 3 3), (.nilOwn false (.st .layer)))]
def y9r : Ex → List Nat
  | .exit j => cond (Nat.beq j 0) [2, 3] []
  | .ret => []
  | .normal => []
def y9s : Ex → List (Where × Co)
  | .exit j => cond (Nat.beq j 0) [] []
  | .ret => []
  | .normal => []
def y9t (pv : (Int × Int × Int × List Layer × Int × Int × Int × Int × Int × Int) × (Int × List Layer)) : St := { slots := [(1, .ptr 0 0 0), (2, .ptr 1 0 0), (3, .ptr 2 0 0), (4, .r [] (.int .i64 pv.2.1))], heap := [(0, .box [.r [] (.int .i64 pv.1.1), .r [] (.int .i64 pv.1.2.1), .r [] (.int .i64 pv.1.2.2.1), .r [] (.sl (.st .layer) pv.1.2.2.2.1)]), (1, .box [.r [] (.int .i64 pv.1.2.2.2.2.1), .r [] (.int .i64 pv.1.2.2.2.2.2.1), .r [] (.int .i64 pv.1.2.2.2.2.2.2.1), .nilS]), (2, .box [.r [] (.int .i64 pv.1.2.2.2.2.2.2.2.1), .r [] (.int .i64 pv.1.2.2.2.2.2.2.2.2.1), .r [] (.int .i64 pv.1.2.2.2.2.2.2.2.2.2), .own 3]), (3, .arr none (.st .layer) pv.2.2)], nid := 4, n := 27, gh := [] }
def y9u (nf : NF) : Option ((Int × Int × Int × List Layer × Int × Int × Int × Int × Int × Int) × (Int × List Layer)) := match nf with
  | ([.ptr 0 0 0, .ptr 1 0 0, .ptr 2 0 0, .r [] (.int .i64 w0)], [.box [.r [] (.int .i64 w1), .r [] (.int .i64 w2), .r [] (.int .i64 w3), .r [] (.sl (.st .layer) w4)], .box [.r [] (.int .i64 w5), .r [] (.int .i64 w6), .r [] (.int .i64 w7), .nilS], .box [.r [] (.int .i64 w8), .r [] (.int .i64 w9), .r [] (.int .i64 w10), .own 3], .arr none (.st .layer) w11], []) => some ((w1, w2, w3, w4, w5, w6, w7, w8, w9, w10), (w0, w11))
  | _ => none
theorem y9v (nf : NF) (v : (Int × Int × Int × List Layer × Int × Int × Int × Int × Int × Int) × (Int × List Layer)) (h : y9u nf = some v) : denorm y9p 27 nf = y9t v := by
  unfold y9u at h
  split at h
  · cases h; rfl
  · cases h
def y9w (p : Int × Int × Int × List Layer × Int × Int × Int × Int × Int × Int) (x : List Layer) : St := { slots := [(2, .ptr 0 0 0), (3, .ptr 1 0 0)], heap := [(0, .box [.r [] (.int .i64 p.2.2.2.2.1), .r [] (.int .i64 p.2.2.2.2.2.1), .r [] (.int .i64 p.2.2.2.2.2.2.1), .nilS]), (1, .box [.r [] (.int .i64 p.2.2.2.2.2.2.2.1), .r [] (.int .i64 p.2.2.2.2.2.2.2.2.1), .r [] (.int .i64 p.2.2.2.2.2.2.2.2.2), .own 2]), (2, .arr none (.st .layer) x)], nid := 3, n := 27, gh := [] }
def y9x (ρ : Type) (k : Nat) : Nat → Ev ρ → Ev ρ := fun id f => cond (Nat.beq id 0) (loopOrc y9p y9q (fun n nf => cond (Nat.beq n 27) (y9u nf) none) fun pv K => iter (fun v next => S_l04Copy_g0 k pv.1 v next (fun x => K (.exit 0) (y9w pv.1 x))) k pv.2) ((fun _ _ _ _ => none) id f)
theorem y9y {ρ : Type} (k : Nat) (p : Int × Int × Int × List Layer × Int × Int × Int × Int × Int × Int) (v : Int × List Layer) (K K1 : Ex → St → Option ρ) : ev (y9l k) (y9x ρ k) 0 y9o (y9t (p, v)) (fun e st' => match e with
    | .normal => (normC y9p y9q st').bind fun nf => K1 .normal (denorm y9p st'.n nf)
    | e => (normC (y9r e) (y9s e) st').bind fun nf => K e (denorm (y9r e) st'.n nf)) = S_l04Copy_g0 k p v (fun v' => K1 .normal (y9t (p, v'))) (fun x => K (.exit 0) (y9w p x)) := by kernel_rfl
theorem y9z {ρ : Type} (k : Nat) : Sound Try.prog (.loop y9o) (y9x ρ k 0 fun st K => ev (y9l k) (y9x ρ k) 0 y9o st K) :=
  loop_ok (ev_sound (y9m k) y9o 0 (lpgood_none (by kernel_rfl))) y9r y9s k (g := fun p v next K => S_l04Copy_g0 k p v next (fun x => K (.exit 0) (y9w p x))) (dec_at y9v) (fun p v K K1 => y9y k p v K K1)
def ya0 (a : Model) : List Arg := [.agg [.int .i64 a.inp.h, .int .i64 a.inp.w, .int .i64 a.inp.c, .sl (.st .layer) a.layers]]
def ya1 (l : List Arg) : Option (Model) := match l with
  | [.agg [.int .i64 b0_0, .int .i64 b0_1, .int .i64 b0_2, .sl (.st .layer) b0_3]] => some (⟨(⟨b0_0, b0_1, b0_2⟩ : Shape), b0_3⟩ : Model)
  | _ => none
def ya2 (r : Model) : Out := (.agg [.r [] (.int .i64 r.inp.h), .r [] (.int .i64 r.inp.w), .r [] (.int .i64 r.inp.c), .own 0], [.arr none (.st .layer) r.layers])
def ya3 (o : Out) : Option (Model) := match o with
  | (.agg [.r [] (.int .i64 z1), .r [] (.int .i64 z2), .r [] (.int .i64 z3), .own 0], [.arr none (.st .layer) z4]) => some (⟨(⟨z1, z2, z3⟩ : Shape), z4⟩ : Model)
  | _ => none
def ya4 (k : Nat) : PG := fun _ l K => (ya1 l).bind fun a => (S_l04Copy k a).bind fun r => K (ya2 r)
theorem ya5 (k : Nat) (a : Model) : ev (y9l k) (y9x (Model) k) 0 y9n (st0 Try.f145 (ya0 a)) (fin Try.prog Try.f145 (.agg [.sc, .sc, .sc, .own (.st .layer)]) ya3) = S_l04Copy k a := by kernel_rfl
theorem ya6 (k : Nat) : PureOk Try.prog 145 (ya4 k) :=
  pureOk_of_ev (y9m k) Try.func145 (by kernel_rfl) (by kernel_rfl) ya0 ya1
    (fun l a h => by unfold ya1 at h; split at h <;> first | (cases h; rfl) | cases h) (fun a => rfl) (lpgood_of (l := [(0, y9o)]) (by kernel_rfl) ⟨y9z k, trivial⟩)
    (fun o r h => by unfold ya3 at h; split at h <;> first | (cases h; rfl) | cases h) (ya5 k)
def ya7 (k : Nat) : Orc := pureOrc [.agg [(.int .i64), (.int .i64), (.int .i64), (.sl (.st .layer))]] (ya4 k)
theorem ya8 (k : Nat) : OrcOk Try.prog 145 (ya7 k) := pureOrc_ok (ya6 k)
noncomputable def ya9 (k : Nat) : Env := { P := Try.prog, tt := tt, orc := fun g => cond (Nat.beq g 89) (y8i k) (cond (Nat.beq g 144) (y85 k) (cond (Nat.beq g 145) (ya7 k) (cond (Nat.beq g 146) (y9j k) (noOrc)))) }
theorem yaa (k : Nat) : EnvOk (ya9 k) := fun g => (orc_cond (y8j k) (orc_cond (y86 k) (orc_cond (ya8 k) (orc_cond (y9k k) (noOrc_ok _ _)))))
noncomputable def yab : Code := (Try.f48.body).getD .skip
noncomputable def yac : Code := ((loopsIn 0 yab).getD 0 (0, .skip)).2
def yad : List Nat := [3, 4, 8, 9]
def yae : List (Where × Co) := []
def yaf : Ex → List Nat
  | .exit j => cond (Nat.beq j 0) [4, 8] []
  | .ret => []
  | .normal => []
def yag : Ex → List (Where × Co)
  | .exit j => cond (Nat.beq j 0) [] []
  | .ret => []
  | .normal => []
def yah (pv : (Int × Int × Int × List Layer × Int × Int × Int × Int × Int × Int) × (Int × List Layer)) : St := { slots := [(3, .ptr 0 0 0), (4, .ptr 1 0 0), (8, .ptr 2 0 0), (9, .r [] (.int .i64 pv.2.1))], heap := [(0, .box [.r [] (.int .i64 pv.1.1), .r [] (.int .i64 pv.1.2.1), .r [] (.int .i64 pv.1.2.2.1), .r [] (.sl (.st .layer) pv.1.2.2.2.1)]), (1, .box [.r [] (.int .i64 pv.1.2.2.2.2.1), .r [] (.int .i64 pv.1.2.2.2.2.2.1), .r [] (.int .i64 pv.1.2.2.2.2.2.2.1), .nilS]), (2, .box [.r [] (.int .i64 pv.1.2.2.2.2.2.2.2.1), .r [] (.int .i64 pv.1.2.2.2.2.2.2.2.2.1), .r [] (.int .i64 pv.1.2.2.2.2.2.2.2.2.2), .own 3]), (3, .arr none (.st .layer) pv.2.2)], nid := 4, n := 59, gh := [] }
def yai (nf : NF) : Option ((Int × Int × Int × List Layer × Int × Int × Int × Int × Int × Int) × (Int × List Layer)) := match nf with
  | ([.ptr 0 0 0, .ptr 1 0 0, .ptr 2 0 0, .r [] (.int .i64 w0)], [.box [.r [] (.int .i64 w1), .r [] (.int .i64 w2), .r [] (.int .i64 w3), .r [] (.sl (.st .layer) w4)], .box [.r [] (.int .i64 w5), .r [] (.int .i64 w6), .r [] (.int .i64 w7), .nilS], .box [.r [] (.int .i64 w8), .r [] (.int .i64 w9), .r [] (.int .i64 w10), .own 3], .arr none (.st .layer) w11], []) => some ((w1, w2, w3, w4, w5, w6, w7, w8, w9, w10), (w0, w11))
  | _ => none
theorem yaj (nf : NF) (v : (Int × Int × Int × List Layer × Int × Int × Int × Int × Int × Int) × (Int × List Layer)) (h : yai nf = some v) : denorm yad 59 nf = yah v := by
  unfold yai at h
  split at h
  · cases h; rfl
  · cases h
def yak (p : Int × Int × Int × List Layer × Int × Int × Int × Int × Int × Int) (x : List Layer) : St := { slots := [(4, .ptr 0 0 0), (8, .ptr 1 0 0)], heap := [(0, .box [.r [] (.int .i64 p.2.2.2.2.1), .r [] (.int .i64 p.2.2.2.2.2.1), .r [] (.int .i64 p.2.2.2.2.2.2.1), .nilS]), (1, .box [.r [] (.int .i64 p.2.2.2.2.2.2.2.1), .r [] (.int .i64 p.2.2.2.2.2.2.2.2.1), .r [] (.int .i64 p.2.2.2.2.2.2.2.2.2), .own 2]), (2, .arr none (.st .layer) x)], nid := 3, n := 59, gh := [] }
def yal (ρ : Type) (k : Nat) : Nat → Ev ρ → Ev ρ := fun id f => cond (Nat.beq id 0) (loopOrc yad yae (fun n nf => cond (Nat.beq n 59) (yai nf) none) fun pv K => iter (fun v next => S_JoinModels_g0 k pv.1 v next (fun x => K (.exit 0) (yak pv.1 x))) k pv.2) ((fun _ _ _ _ => none) id f)
theorem yam {ρ : Type} (k : Nat) (p : Int × Int × Int × List Layer × Int × Int × Int × Int × Int × Int) (v : Int × List Layer) (K K1 : Ex → St → Option ρ) : ev (ya9 k) (yal ρ k) 0 yac (yah (p, v)) (fun e st' => match e with
    | .normal => (normC yad yae st').bind fun nf => K1 .normal (denorm yad st'.n nf)
    | e => (normC (yaf e) (yag e) st').bind fun nf => K e (denorm (yaf e) st'.n nf)) = S_JoinModels_g0 k p v (fun v' => K1 .normal (yah (p, v'))) (fun x => K (.exit 0) (yak p x)) := by kernel_rfl
theorem yan {ρ : Type} (k : Nat) : Sound Try.prog (.loop yac) (yal ρ k 0 fun st K => ev (ya9 k) (yal ρ k) 0 yac st K) :=
  loop_ok (ev_sound (yaa k) yac 0 (lpgood_none (by kernel_rfl))) yaf yag k (g := fun p v next K => S_JoinModels_g0 k p v next (fun x => K (.exit 0) (yak p x))) (dec_at yaj) (fun p v K K1 => yam k p v K K1)
def yao (a : Model × Model) : List Arg := [.agg [.int .i64 a.1.inp.h, .int .i64 a.1.inp.w, .int .i64 a.1.inp.c, .sl (.st .layer) a.1.layers], .agg [.int .i64 a.2.inp.h, .int .i64 a.2.inp.w, .int .i64 a.2.inp.c, .sl (.st .layer) a.2.layers]]
def yap (l : List Arg) : Option (Model × Model) := match l with
  | [.agg [.int .i64 b0_0, .int .i64 b0_1, .int .i64 b0_2, .sl (.st .layer) b0_3], .agg [.int .i64 b1_0, .int .i64 b1_1, .int .i64 b1_2, .sl (.st .layer) b1_3]] => some ((⟨(⟨b0_0, b0_1, b0_2⟩ : Shape), b0_3⟩ : Model), (⟨(⟨b1_0, b1_1, b1_2⟩ : Shape), b1_3⟩ : Model))
  | _ => none
def yaq (r : Model × Bool) : Out := (.tup [.agg [.r [] (.int .i64 r.1.inp.h), .r [] (.int .i64 r.1.inp.w), .r [] (.int .i64 r.1.inp.c), .own 0], .r [] (.bool r.2)], [.arr none (.st .layer) r.1.layers])
def yar (o : Out) : Option (Model × Bool) := match o with
  | (.tup [.agg [.r [] (.int .i64 z1), .r [] (.int .i64 z2), .r [] (.int .i64 z3), .own 0], .r [] (.bool z5)], [.arr none (.st .layer) z4]) => some ((⟨(⟨z1, z2, z3⟩ : Shape), z4⟩ : Model), z5)
  | _ => none
def yas (k : Nat) : PG := fun _ l K => (yap l).bind fun a => (S_JoinModels k a.1 a.2).bind fun r => K (yaq r)
theorem yat (k : Nat) (a : Model × Model) : ev (ya9 k) (yal (Model × Bool) k) 0 yab (st0 Try.f48 (yao a)) (fin Try.prog Try.f48 (.tup [.agg [.sc, .sc, .sc, .own (.st .layer)], .sc]) yar) = S_JoinModels k a.1 a.2 := by kernel_rfl
theorem yau (k : Nat) : PureOk Try.prog 48 (yas k) :=
  pureOk_of_ev (yaa k) Try.func48 (by kernel_rfl) (by kernel_rfl) yao yap
    (fun l a h => by unfold yap at h; split at h <;> first | (cases h; rfl) | cases h) (fun a => rfl) (lpgood_of (l := [(0, yac)]) (by kernel_rfl) ⟨yan k, trivial⟩)
    (fun o r h => by unfold yar at h; split at h <;> first | (cases h; rfl) | cases h) (yat k)
def yav (k : Nat) : Orc := pureOrc [.agg [(.int .i64), (.int .i64), (.int .i64), (.sl (.st .layer))], .agg [(.int .i64), (.int .i64), (.int .i64), (.sl (.st .layer))]] (yas k)
theorem yaw (k : Nat) : OrcOk Try.prog 48 (yav k) := pureOrc_ok (yau k)
noncomputable def E_I_in (k : Nat) : Env := { P := Try.prog, tt := tt, orc := fun g => noOrc }
theorem yax (k : Nat) : EnvOk (E_I_in k) := fun g => (noOrc_ok _ _)
noncomputable def c_I_in : Code := (Try.f132.body).getD .skip
def yay (ρ : Type) (k : Nat) : Nat → Ev ρ → Ev ρ := fun _ _ _ _ => none
def yaz (a : Int × Int × Int) : List Arg := [.one (.int .i64 a.1), .one (.int .i64 a.2.1), .one (.int .i64 a.2.2)]
def yb0 (l : List Arg) : Option (Int × Int × Int) := match l with
  | [.one (.int .i64 b0), .one (.int .i64 b1), .one (.int .i64 b2)] => some (b0, b1, b2)
  | _ => none
def yb1 (r : Bool) : Out := (.r [] (.bool r), [])
def yb2 (o : Out) : Option (Bool) := match o with
  | (.r [] (.bool z1), []) => some z1
  | _ => none
def I_in_G (k : Nat) : PG := fun _ l K => (yb0 l).bind fun a => (I_in k a.1 a.2.1 a.2.2).bind fun r => K (yb1 r)
theorem yb3 (k : Nat) (a : Int × Int × Int) : ev (E_I_in k) (yay (Bool) k) 0 c_I_in (st0 Try.f132 (yaz a)) (fin Try.prog Try.f132 (.sc) yb2) = I_in k a.1 a.2.1 a.2.2 := by kernel_rfl
theorem yb4 (k : Nat) : PureOk Try.prog 132 (I_in_G k) :=
  pureOk_of_ev (yax k) Try.func132 (by kernel_rfl) (by kernel_rfl) yaz yb0
    (fun l a h => by unfold yb0 at h; split at h <;> first | (cases h; rfl) | cases h) (fun a => rfl) (lpgood_none (by kernel_rfl))
    (fun o r h => by unfold yb2 at h; split at h <;> first | (cases h; rfl) | cases h) (yb3 k)
def o_I_in (k : Nat) : Orc := pureOrc [.one (.int .i64), .one (.int .i64), .one (.int .i64)] (I_in_G k)
theorem yb5 (k : Nat) : OrcOk Try.prog 132 (o_I_in k) := pureOrc_ok (yb4 k)
noncomputable def yb6 (k : Nat) : Env := { P := Try.prog, tt := tt, orc := fun g => cond (Nat.beq g 132) (o_I_in k) (noOrc) }
theorem yb7 (k : Nat) : EnvOk (yb6 k) := fun g => (orc_cond (yb5 k) (noOrc_ok _ _))
noncomputable def yb8 : Code := (Try.f183.body).getD .skip
def yb9 (ρ : Type) (k : Nat) : Nat → Ev ρ → Ev ρ := fun _ _ _ _ => none
def yba (a : Shape) : List Arg := [.agg [.int .i64 a.h, .int .i64 a.w, .int .i64 a.c]]
def ybb (l : List Arg) : Option (Shape) := match l with
  | [.agg [.int .i64 b0_0, .int .i64 b0_1, .int .i64 b0_2]] => some (⟨b0_0, b0_1, b0_2⟩ : Shape)
  | _ => none
def ybc (r : Bool) : Out := (.r [] (.bool r), [])
def ybd (o : Out) : Option (Bool) := match o with
  | (.r [] (.bool z1), []) => some z1
  | _ => none
def ybe (k : Nat) : PG := fun _ l K => (ybb l).bind fun a => (I_ShapeOk k a).bind fun r => K (ybc r)
theorem ybf (k : Nat) (a : Shape) : ev (yb6 k) (yb9 (Bool) k) 0 yb8 (st0 Try.f183 (yba a)) (fin Try.prog Try.f183 (.sc) ybd) = I_ShapeOk k a := by kernel_rfl
theorem ybg (k : Nat) : PureOk Try.prog 183 (ybe k) :=
  pureOk_of_ev (yb7 k) Try.func183 (by kernel_rfl) (by kernel_rfl) yba ybb
    (fun l a h => by unfold ybb at h; split at h <;> first | (cases h; rfl) | cases h) (fun a => rfl) (lpgood_none (by kernel_rfl))
    (fun o r h => by unfold ybd at h; split at h <;> first | (cases h; rfl) | cases h) (ybf k)
def ybh (k : Nat) : Orc := pureOrc [.agg [(.int .i64), (.int .i64), (.int .i64)]] (ybe k)
theorem ybi (k : Nat) : OrcOk Try.prog 183 (ybh k) := pureOrc_ok (ybg k)
noncomputable def ybj (k : Nat) : Env := { P := Try.prog, tt := tt, orc := fun g => cond (Nat.beq g 183) (ybh k) (noOrc) }
theorem ybk (k : Nat) : EnvOk (ybj k) := fun g => (orc_cond (ybi k) (noOrc_ok _ _))
noncomputable def ybl : Code := (Try.f93.body).getD .skip
def ybm (ρ : Type) (k : Nat) : Nat → Ev ρ → Ev ρ := fun _ _ _ _ => none
def ybn (a : Shape) : List Arg := [.agg [.int .i64 a.h, .int .i64 a.w, .int .i64 a.c]]
def ybo (l : List Arg) : Option (Shape) := match l with
  | [.agg [.int .i64 b0_0, .int .i64 b0_1, .int .i64 b0_2]] => some (⟨b0_0, b0_1, b0_2⟩ : Shape)
  | _ => none
def ybp (r : Int) : Out := (.r [] (.int .i64 r), [])
def ybq (o : Out) : Option (Int) := match o with
  | (.r [] (.int .i64 z1), []) => some z1
  | _ => none
def ybr (k : Nat) : PG := fun _ l K => (ybo l).bind fun a => (I_SizeOf k a).bind fun r => K (ybp r)
theorem ybs (k : Nat) (a : Shape) : ev (ybj k) (ybm (Int) k) 0 ybl (st0 Try.f93 (ybn a)) (fin Try.prog Try.f93 (.sc) ybq) = I_SizeOf k a := by kernel_rfl
theorem ybt (k : Nat) : PureOk Try.prog 93 (ybr k) :=
  pureOk_of_ev (ybk k) Try.func93 (by kernel_rfl) (by kernel_rfl) ybn ybo
    (fun l a h => by unfold ybo at h; split at h <;> first | (cases h; rfl) | cases h) (fun a => rfl) (lpgood_none (by kernel_rfl))
    (fun o r h => by unfold ybq at h; split at h <;> first | (cases h; rfl) | cases h) (ybs k)
def ybu (k : Nat) : Orc := pureOrc [.agg [(.int .i64), (.int .i64), (.int .i64)]] (ybr k)
theorem ybv (k : Nat) : OrcOk Try.prog 93 (ybu k) := pureOrc_ok (ybt k)
noncomputable def ybw (k : Nat) : Env := { P := Try.prog, tt := tt, orc := fun g => noOrc }
theorem ybx (k : Nat) : EnvOk (ybw k) := fun g => (noOrc_ok _ _)
noncomputable def yby : Code := (Try.f241.body).getD .skip
def ybz (ρ : Type) (k : Nat) : Nat → Ev ρ → Ev ρ := fun _ _ _ _ => none
def yc0 (a : Layer) : List Arg := [.agg [.int .i64 a.kind, .int .i64 a.out, .int .i64 a.size, .int .i64 a.step, .int .i64 a.mult, .int .i64 a.shift, .int .i64 a.zero, .sl (.int .i64) a.weights, .sl (.int .i64) a.bias]]
def yc1 (l : List Arg) : Option (Layer) := match l with
  | [.agg [.int .i64 b0_0, .int .i64 b0_1, .int .i64 b0_2, .int .i64 b0_3, .int .i64 b0_4, .int .i64 b0_5, .int .i64 b0_6, .sl (.int .i64) b0_7, .sl (.int .i64) b0_8]] => some (⟨b0_0, b0_1, b0_2, b0_3, b0_4, b0_5, b0_6, b0_7, b0_8⟩ : Layer)
  | _ => none
def yc2 (r : Bool) : Out := (.r [] (.bool r), [])
def yc3 (o : Out) : Option (Bool) := match o with
  | (.r [] (.bool z1), []) => some z1
  | _ => none
def yc4 (k : Nat) : PG := fun _ l K => (yc1 l).bind fun a => (I_Layer_hasNone k a).bind fun r => K (yc2 r)
theorem yc5 (k : Nat) (a : Layer) : ev (ybw k) (ybz (Bool) k) 0 yby (st0 Try.f241 (yc0 a)) (fin Try.prog Try.f241 (.sc) yc3) = I_Layer_hasNone k a := by kernel_rfl
theorem yc6 (k : Nat) : PureOk Try.prog 241 (yc4 k) :=
  pureOk_of_ev (ybx k) Try.func241 (by kernel_rfl) (by kernel_rfl) yc0 yc1
    (fun l a h => by unfold yc1 at h; split at h <;> first | (cases h; rfl) | cases h) (fun a => rfl) (lpgood_none (by kernel_rfl))
    (fun o r h => by unfold yc3 at h; split at h <;> first | (cases h; rfl) | cases h) (yc5 k)
def yc7 (k : Nat) : Orc := pureOrc [.agg [(.int .i64), (.int .i64), (.int .i64), (.int .i64), (.int .i64), (.int .i64), (.int .i64), (.sl (.int .i64)), (.sl (.int .i64))]] (yc4 k)
theorem yc8 (k : Nat) : OrcOk Try.prog 241 (yc7 k) := pureOrc_ok (yc6 k)
noncomputable def yc9 (k : Nat) : Env := { P := Try.prog, tt := tt, orc := fun g => cond (Nat.beq g 132) (o_I_in k) (noOrc) }
theorem yca (k : Nat) : EnvOk (yc9 k) := fun g => (orc_cond (yb5 k) (noOrc_ok _ _))
noncomputable def ycb : Code := (Try.f231.body).getD .skip
def ycc (ρ : Type) (k : Nat) : Nat → Ev ρ → Ev ρ := fun _ _ _ _ => none
def ycd (a : Int) : List Arg := [.one (.int .i64 a)]
def yce (l : List Arg) : Option (Int) := match l with
  | [.one (.int .i64 b0)] => some b0
  | _ => none
def ycf (r : Bool) : Out := (.r [] (.bool r), [])
def ycg (o : Out) : Option (Bool) := match o with
  | (.r [] (.bool z1), []) => some z1
  | _ => none
def ych (k : Nat) : PG := fun _ l K => (yce l).bind fun a => (I_areItems_c1 k a).bind fun r => K (ycf r)
theorem yci (k : Nat) (a : Int) : ev (yc9 k) (ycc (Bool) k) 0 ycb (st0 Try.f231 (ycd a)) (fin Try.prog Try.f231 (.sc) ycg) = I_areItems_c1 k a := by kernel_rfl
theorem ycj (k : Nat) : PureOk Try.prog 231 (ych k) :=
  pureOk_of_ev (yca k) Try.func231 (by kernel_rfl) (by kernel_rfl) ycd yce
    (fun l a h => by unfold yce at h; split at h <;> first | (cases h; rfl) | cases h) (fun a => rfl) (lpgood_none (by kernel_rfl))
    (fun o r h => by unfold ycg at h; split at h <;> first | (cases h; rfl) | cases h) (yci k)
def yck (k : Nat) : Orc := pureOrc [.one (.int .i64)] (ych k)
theorem ycl (k : Nat) : OrcOk Try.prog 231 (yck k) := pureOrc_ok (ycj k)
noncomputable def ycm (k : Nat) : Env := { P := Try.prog, tt := tt, orc := fun g => cond (Nat.beq g 231) (yck k) (noOrc) }
theorem ycn (k : Nat) : EnvOk (ycm k) := fun g => (orc_cond (ycl k) (noOrc_ok _ _))
noncomputable def yco : Code := (Try.f188.body).getD .skip
noncomputable def ycp : Code := ((loopsIn 0 yco).getD 0 (0, .skip)).2
def ycq : List Nat := [0, 1, 7, 8]
def ycr : List (Where × Co) := []
def ycs : Ex → List Nat
  | .exit j => cond (Nat.beq j 0) [] []
  | .ret => [4]
  | .normal => []
def yct : Ex → List (Where × Co)
  | .exit j => cond (Nat.beq j 0) [] []
  | .ret => []
  | .normal => []
def ycu (pv : (List Int × Int) × (Int)) : St := { slots := [(0, .r [] (.sl (.int .i64) pv.1.1)), (1, .fn (.func 231) [] []), (7, .r [] (.int .i64 pv.1.2)), (8, .r [] (.int .i64 pv.2))], heap := [], nid := 0, n := 19, gh := [] }
def ycv (nf : NF) : Option ((List Int × Int) × (Int)) := match nf with
  | ([.r [] (.sl (.int .i64) w0), .fn (.func 231) [] [], .r [] (.int .i64 w1), .r [] (.int .i64 w2)], [], []) => some ((w0, w1), w2)
  | _ => none
theorem ycw (nf : NF) (v : (List Int × Int) × (Int)) (h : ycv nf = some v) : denorm ycq 19 nf = ycu v := by
  unfold ycv at h
  split at h
  · cases h; rfl
  · cases h
def ycx (p : List Int × Int) (x : Unit) : St := { slots := [], heap := [], nid := 0, n := 19, gh := [] }
def ycy (p : List Int × Int) (x : Int) : St := { slots := [(4, .r [] (.int .i64 x))], heap := [], nid := 0, n := 19, gh := [] }
def ycz (ρ : Type) (k : Nat) : Nat → Ev ρ → Ev ρ := fun id f => cond (Nat.beq id 0) (loopOrc ycq ycr (fun n nf => cond (Nat.beq n 19) (ycv nf) none) fun pv K => iter (fun v next => slices_IndexFunc_lint_int__I_areItems_c1_g0 k pv.1 v next (fun x => K (.exit 0) (ycx pv.1 x)) (fun x => K .ret (ycy pv.1 x))) k pv.2) ((fun _ _ _ _ => none) id f)
theorem yd0 {ρ : Type} (k : Nat) (p : List Int × Int) (v : Int) (K K1 : Ex → St → Option ρ) : ev (ycm k) (ycz ρ k) 0 ycp (ycu (p, v)) (fun e st' => match e with
    | .normal => (normC ycq ycr st').bind fun nf => K1 .normal (denorm ycq st'.n nf)
    | e => (normC (ycs e) (yct e) st').bind fun nf => K e (denorm (ycs e) st'.n nf)) = slices_IndexFunc_lint_int__I_areItems_c1_g0 k p v (fun v' => K1 .normal (ycu (p, v'))) (fun x => K (.exit 0) (ycx p x)) (fun x => K .ret (ycy p x)) := by kernel_rfl
theorem yd1 {ρ : Type} (k : Nat) : Sound Try.prog (.loop ycp) (ycz ρ k 0 fun st K => ev (ycm k) (ycz ρ k) 0 ycp st K) :=
  loop_ok (ev_sound (ycn k) ycp 0 (lpgood_none (by kernel_rfl))) ycs yct k (g := fun p v next K => slices_IndexFunc_lint_int__I_areItems_c1_g0 k p v next (fun x => K (.exit 0) (ycx p x)) (fun x => K .ret (ycy p x))) (dec_at ycw) (fun p v K K1 => yd0 k p v K K1)
def yd2 (a : List Int) : List Arg := [.one (.sl (.int .i64) a), .fn (.func 231) [] []]
def yd3 (l : List Arg) : Option (List Int) := match l with
  | [.one (.sl (.int .i64) b0), .fn (.func 231) [] []] => some b0
  | _ => none
def yd4 (r : Int) : Out := (.r [] (.int .i64 r), [])
def yd5 (o : Out) : Option (Int) := match o with
  | (.r [] (.int .i64 z1), []) => some z1
  | _ => none
def yd6 (k : Nat) : PG := fun _ l K => (yd3 l).bind fun a => (slices_IndexFunc_lint_int__I_areItems_c1 k a).bind fun r => K (yd4 r)
theorem yd7 (k : Nat) (a : List Int) : ev (ycm k) (ycz (Int) k) 0 yco (st0 Try.f188 (yd2 a)) (fin Try.prog Try.f188 (.sc) yd5) = slices_IndexFunc_lint_int__I_areItems_c1 k a := by kernel_rfl
theorem yd8 (k : Nat) : PureOk Try.prog 188 (yd6 k) :=
  pureOk_of_ev (ycn k) Try.func188 (by kernel_rfl) (by kernel_rfl) yd2 yd3
    (fun l a h => by unfold yd3 at h; split at h <;> first | (cases h; rfl) | cases h) (fun a => rfl) (lpgood_of (l := [(0, ycp)]) (by kernel_rfl) ⟨yd1 k, trivial⟩)
    (fun o r h => by unfold yd5 at h; split at h <;> first | (cases h; rfl) | cases h) (yd7 k)
def yd9 (k : Nat) : Orc := pureOrc [.one (.sl (.int .i64)), .fn] (yd6 k)
theorem yda (k : Nat) : OrcOk Try.prog 188 (yd9 k) := pureOrc_ok (yd8 k)
noncomputable def ydb (k : Nat) : Env := { P := Try.prog, tt := tt, orc := fun g => cond (Nat.beq g 188) (yd9 k) (noOrc) }
theorem ydc (k : Nat) : EnvOk (ydb k) := fun g => (orc_cond (yda k) (noOrc_ok _ _))
noncomputable def ydd : Code := (Try.f104.body).getD .skip
def yde (ρ : Type) (k : Nat) : Nat → Ev ρ → Ev ρ := fun _ _ _ _ => none
def ydf (a : List Int) : List Arg := [.one (.sl (.int .i64) a), .fn (.func 231) [] []]
def ydg (l : List Arg) : Option (List Int) := match l with
  | [.one (.sl (.int .i64) b0), .fn (.func 231) [] []] => some b0
  | _ => none
def ydh (r : Bool) : Out := (.r [] (.bool r), [])
def ydi (o : Out) : Option (Bool) := match o with
  | (.r [] (.bool z1), []) => some z1
  | _ => none
def ydj (k : Nat) : PG := fun _ l K => (ydg l).bind fun a => (slices_ContainsFunc_lint_int__I_areItems_c1 k a).bind fun r => K (ydh r)
theorem ydk (k : Nat) (a : List Int) : ev (ydb k) (yde (Bool) k) 0 ydd (st0 Try.f104 (ydf a)) (fin Try.prog Try.f104 (.sc) ydi) = slices_ContainsFunc_lint_int__I_areItems_c1 k a := by kernel_rfl
theorem ydl (k : Nat) : PureOk Try.prog 104 (ydj k) :=
  pureOk_of_ev (ydc k) Try.func104 (by kernel_rfl) (by kernel_rfl) ydf ydg
    (fun l a h => by unfold ydg at h; split at h <;> first | (cases h; rfl) | cases h) (fun a => rfl) (lpgood_none (by kernel_rfl))
    (fun o r h => by unfold ydi at h; split at h <;> first | (cases h; rfl) | cases h) (ydk k)
def ydm (k : Nat) : Orc := pureOrc [.one (.sl (.int .i64)), .fn] (ydj k)
theorem ydn (k : Nat) : OrcOk Try.prog 104 (ydm k) := pureOrc_ok (ydl k)
noncomputable def ydo (k : Nat) : Env := { P := Try.prog, tt := tt, orc := fun g => cond (Nat.beq g 104) (ydm k) (noOrc) }
theorem ydp (k : Nat) : EnvOk (ydo k) := fun g => (orc_cond (ydn k) (noOrc_ok _ _))
noncomputable def ydq : Code := (Try.f210.body).getD .skip
def ydr (ρ : Type) (k : Nat) : Nat → Ev ρ → Ev ρ := fun _ _ _ _ => none
def yds (a : List Int) : List Arg := [.one (.sl (.int .i64) a)]
def ydt (l : List Arg) : Option (List Int) := match l with
  | [.one (.sl (.int .i64) b0)] => some b0
  | _ => none
def ydu (r : Bool) : Out := (.r [] (.bool r), [])
def ydv (o : Out) : Option (Bool) := match o with
  | (.r [] (.bool z1), []) => some z1
  | _ => none
def ydw (k : Nat) : PG := fun _ l K => (ydt l).bind fun a => (I_areItems k a).bind fun r => K (ydu r)
theorem ydx (k : Nat) (a : List Int) : ev (ydo k) (ydr (Bool) k) 0 ydq (st0 Try.f210 (yds a)) (fin Try.prog Try.f210 (.sc) ydv) = I_areItems k a := by kernel_rfl
theorem ydy (k : Nat) : PureOk Try.prog 210 (ydw k) :=
  pureOk_of_ev (ydp k) Try.func210 (by kernel_rfl) (by kernel_rfl) yds ydt
    (fun l a h => by unfold ydt at h; split at h <;> first | (cases h; rfl) | cases h) (fun a => rfl) (lpgood_none (by kernel_rfl))
    (fun o r h => by unfold ydv at h; split at h <;> first | (cases h; rfl) | cases h) (ydx k)
def ydz (k : Nat) : Orc := pureOrc [.one (.sl (.int .i64))] (ydw k)
theorem ye0 (k : Nat) : OrcOk Try.prog 210 (ydz k) := pureOrc_ok (ydy k)
noncomputable def ye1 (k : Nat) : Env := { P := Try.prog, tt := tt, orc := fun g => cond (Nat.beq g 132) (o_I_in k) (noOrc) }
theorem ye2 (k : Nat) : EnvOk (ye1 k) := fun g => (orc_cond (yb5 k) (noOrc_ok _ _))
noncomputable def ye3 : Code := (Try.f264.body).getD .skip
def ye4 (ρ : Type) (k : Nat) : Nat → Ev ρ → Ev ρ := fun _ _ _ _ => none
def ye5 (a : Int) : List Arg := [.one (.int .i64 a)]
def ye6 (l : List Arg) : Option (Int) := match l with
  | [.one (.int .i64 b0)] => some b0
  | _ => none
def ye7 (r : Bool) : Out := (.r [] (.bool r), [])
def ye8 (o : Out) : Option (Bool) := match o with
  | (.r [] (.bool z1), []) => some z1
  | _ => none
def ye9 (k : Nat) : PG := fun _ l K => (ye6 l).bind fun a => (I_Layer_isScaled_c1 k a).bind fun r => K (ye7 r)
theorem yea (k : Nat) (a : Int) : ev (ye1 k) (ye4 (Bool) k) 0 ye3 (st0 Try.f264 (ye5 a)) (fin Try.prog Try.f264 (.sc) ye8) = I_Layer_isScaled_c1 k a := by kernel_rfl
theorem yeb (k : Nat) : PureOk Try.prog 264 (ye9 k) :=
  pureOk_of_ev (ye2 k) Try.func264 (by kernel_rfl) (by kernel_rfl) ye5 ye6
    (fun l a h => by unfold ye6 at h; split at h <;> first | (cases h; rfl) | cases h) (fun a => rfl) (lpgood_none (by kernel_rfl))
    (fun o r h => by unfold ye8 at h; split at h <;> first | (cases h; rfl) | cases h) (yea k)
def yec (k : Nat) : Orc := pureOrc [.one (.int .i64)] (ye9 k)
theorem yed (k : Nat) : OrcOk Try.prog 264 (yec k) := pureOrc_ok (yeb k)
noncomputable def yee (k : Nat) : Env := { P := Try.prog, tt := tt, orc := fun g => cond (Nat.beq g 264) (yec k) (noOrc) }
theorem yef (k : Nat) : EnvOk (yee k) := fun g => (orc_cond (yed k) (noOrc_ok _ _))
noncomputable def yeg : Code := (Try.f188.body).getD .skip
noncomputable def yeh : Code := ((loopsIn 0 yeg).getD 0 (0, .skip)).2
def yei : List Nat := [0, 1, 7, 8]
def yej : List (Where × Co) := []
def yek : Ex → List Nat
  | .exit j => cond (Nat.beq j 0) [] []
  | .ret => [4]
  | .normal => []
def yel : Ex → List (Where × Co)
  | .exit j => cond (Nat.beq j 0) [] []
  | .ret => []
  | .normal => []
def yem (pv : (List Int × Int) × (Int)) : St := { slots := [(0, .r [] (.sl (.int .i64) pv.1.1)), (1, .fn (.func 264) [] []), (7, .r [] (.int .i64 pv.1.2)), (8, .r [] (.int .i64 pv.2))], heap := [], nid := 0, n := 19, gh := [] }
def yen (nf : NF) : Option ((List Int × Int) × (Int)) := match nf with
  | ([.r [] (.sl (.int .i64) w0), .fn (.func 264) [] [], .r [] (.int .i64 w1), .r [] (.int .i64 w2)], [], []) => some ((w0, w1), w2)
  | _ => none
theorem yeo (nf : NF) (v : (List Int × Int) × (Int)) (h : yen nf = some v) : denorm yei 19 nf = yem v := by
  unfold yen at h
  split at h
  · cases h; rfl
  · cases h
def yep (p : List Int × Int) (x : Unit) : St := { slots := [], heap := [], nid := 0, n := 19, gh := [] }
def yeq (p : List Int × Int) (x : Int) : St := { slots := [(4, .r [] (.int .i64 x))], heap := [], nid := 0, n := 19, gh := [] }
def yer (ρ : Type) (k : Nat) : Nat → Ev ρ → Ev ρ := fun id f => cond (Nat.beq id 0) (loopOrc yei yej (fun n nf => cond (Nat.beq n 19) (yen nf) none) fun pv K => iter (fun v next => slices_IndexFunc_lint_int__I_Layer_isScaled_c1_g0 k pv.1 v next (fun x => K (.exit 0) (yep pv.1 x)) (fun x => K .ret (yeq pv.1 x))) k pv.2) ((fun _ _ _ _ => none) id f)
theorem yet {ρ : Type} (k : Nat) (p : List Int × Int) (v : Int) (K K1 : Ex → St → Option ρ) : ev (yee k) (yer ρ k) 0 yeh (yem (p, v)) (fun e st' => match e with
    | .normal => (normC yei yej st').bind fun nf => K1 .normal (denorm yei st'.n nf)
    | e => (normC (yek e) (yel e) st').bind fun nf => K e (denorm (yek e) st'.n nf)) = slices_IndexFunc_lint_int__I_Layer_isScaled_c1_g0 k p v (fun v' => K1 .normal (yem (p, v'))) (fun x => K (.exit 0) (yep p x)) (fun x => K .ret (yeq p x)) := by kernel_rfl
theorem yeu {ρ : Type} (k : Nat) : Sound Try.prog (.loop yeh) (yer ρ k 0 fun st K => ev (yee k) (yer ρ k) 0 yeh st K) :=
  loop_ok (ev_sound (yef k) yeh 0 (lpgood_none (by kernel_rfl))) yek yel k (g := fun p v next K => slices_IndexFunc_lint_int__I_Layer_isScaled_c1_g0 k p v next (fun x => K (.exit 0) (yep p x)) (fun x => K .ret (yeq p x))) (dec_at yeo) (fun p v K K1 => yet k p v K K1)
def yev (a : List Int) : List Arg := [.one (.sl (.int .i64) a), .fn (.func 264) [] []]
def yew (l : List Arg) : Option (List Int) := match l with
  | [.one (.sl (.int .i64) b0), .fn (.func 264) [] []] => some b0
  | _ => none
def yex (r : Int) : Out := (.r [] (.int .i64 r), [])
def yey (o : Out) : Option (Int) := match o with
  | (.r [] (.int .i64 z1), []) => some z1
  | _ => none
def yez (k : Nat) : PG := fun _ l K => (yew l).bind fun a => (slices_IndexFunc_lint_int__I_Layer_isScaled_c1 k a).bind fun r => K (yex r)
theorem yf0 (k : Nat) (a : List Int) : ev (yee k) (yer (Int) k) 0 yeg (st0 Try.f188 (yev a)) (fin Try.prog Try.f188 (.sc) yey) = slices_IndexFunc_lint_int__I_Layer_isScaled_c1 k a := by kernel_rfl
theorem yf1 (k : Nat) : PureOk Try.prog 188 (yez k) :=
  pureOk_of_ev (yef k) Try.func188 (by kernel_rfl) (by kernel_rfl) yev yew
    (fun l a h => by unfold yew at h; split at h <;> first | (cases h; rfl) | cases h) (fun a => rfl) (lpgood_of (l := [(0, yeh)]) (by kernel_rfl) ⟨yeu k, trivial⟩)
    (fun o r h => by unfold yey at h; split at h <;> first | (cases h; rfl) | cases h) (yf0 k)
def yf2 (k : Nat) : Orc := pureOrc [.one (.sl (.int .i64)), .fn] (yez k)
theorem yf3 (k : Nat) : OrcOk Try.prog 188 (yf2 k) := pureOrc_ok (yf1 k)
noncomputable def yf4 (k : Nat) : Env := { P := Try.prog, tt := tt, orc := fun g => cond (Nat.beq g 188) (yf2 k) (noOrc) }
theorem yf5 (k : Nat) : EnvOk (yf4 k) := fun g => (orc_cond (yf3 k) (noOrc_ok _ _))
noncomputable def yf6 : Code := (Try.f104.body).getD .skip
def yf7 (ρ : Type) (k : Nat) : Nat → Ev ρ → Ev ρ := fun _ _ _ _ => none
def yf8 (a : List Int) : List Arg := [.one (.sl (.int .i64) a), .fn (.func 264) [] []]
def yf9 (l : List Arg) : Option (List Int) := match l with
  | [.one (.sl (.int .i64) b0), .fn (.func 264) [] []] => some b0
  | _ => none
def yfa (r : Bool) : Out := (.r [] (.bool r), [])
def yfb (o : Out) : Option (Bool) := match o with
  | (.r [] (.bool z1), []) => some z1
  | _ => none
def yfc (k : Nat) : PG := fun _ l K => (yf9 l).bind fun a => (slices_ContainsFunc_lint_int__I_Layer_isScaled_c1 k a).bind fun r => K (yfa r)
theorem yfd (k : Nat) (a : List Int) : ev (yf4 k) (yf7 (Bool) k) 0 yf6 (st0 Try.f104 (yf8 a)) (fin Try.prog Try.f104 (.sc) yfb) = slices_ContainsFunc_lint_int__I_Layer_isScaled_c1 k a := by kernel_rfl
theorem yfe (k : Nat) : PureOk Try.prog 104 (yfc k) :=
  pureOk_of_ev (yf5 k) Try.func104 (by kernel_rfl) (by kernel_rfl) yf8 yf9
    (fun l a h => by unfold yf9 at h; split at h <;> first | (cases h; rfl) | cases h) (fun a => rfl) (lpgood_none (by kernel_rfl))
    (fun o r h => by unfold yfb at h; split at h <;> first | (cases h; rfl) | cases h) (yfd k)
def yff (k : Nat) : Orc := pureOrc [.one (.sl (.int .i64)), .fn] (yfc k)
theorem yfg (k : Nat) : OrcOk Try.prog 104 (yff k) := pureOrc_ok (yfe k)
noncomputable def yfh (k : Nat) : Env := { P := Try.prog, tt := tt, orc := fun g => cond (Nat.beq g 104) (yff k) (cond (Nat.beq g 132) (o_I_in k) (cond (Nat.beq g 210) (ydz k) (noOrc))) }
theorem yfi (k : Nat) : EnvOk (yfh k) := fun g => (orc_cond (yfg k) (orc_cond (yb5 k) (orc_cond (ye0 k) (noOrc_ok _ _))))
noncomputable def yfj : Code := (Try.f242.body).getD .skip
def yfk (ρ : Type) (k : Nat) : Nat → Ev ρ → Ev ρ := fun _ _ _ _ => none
def yfl (a : Layer × Int) : List Arg := [.agg [.int .i64 a.1.kind, .int .i64 a.1.out, .int .i64 a.1.size, .int .i64 a.1.step, .int .i64 a.1.mult, .int .i64 a.1.shift, .int .i64 a.1.zero, .sl (.int .i64) a.1.weights, .sl (.int .i64) a.1.bias], .one (.int .i64 a.2)]
def yfm (l : List Arg) : Option (Layer × Int) := match l with
  | [.agg [.int .i64 b0_0, .int .i64 b0_1, .int .i64 b0_2, .int .i64 b0_3, .int .i64 b0_4, .int .i64 b0_5, .int .i64 b0_6, .sl (.int .i64) b0_7, .sl (.int .i64) b0_8], .one (.int .i64 b1)] => some ((⟨b0_0, b0_1, b0_2, b0_3, b0_4, b0_5, b0_6, b0_7, b0_8⟩ : Layer), b1)
  | _ => none
def yfn (r : Bool) : Out := (.r [] (.bool r), [])
def yfo (o : Out) : Option (Bool) := match o with
  | (.r [] (.bool z1), []) => some z1
  | _ => none
def yfp (k : Nat) : PG := fun _ l K => (yfm l).bind fun a => (I_Layer_isScaled k a.1 a.2).bind fun r => K (yfn r)
theorem yfq (k : Nat) (a : Layer × Int) : ev (yfh k) (yfk (Bool) k) 0 yfj (st0 Try.f242 (yfl a)) (fin Try.prog Try.f242 (.sc) yfo) = I_Layer_isScaled k a.1 a.2 := by kernel_rfl
theorem yfr (k : Nat) : PureOk Try.prog 242 (yfp k) :=
  pureOk_of_ev (yfi k) Try.func242 (by kernel_rfl) (by kernel_rfl) yfl yfm
    (fun l a h => by unfold yfm at h; split at h <;> first | (cases h; rfl) | cases h) (fun a => rfl) (lpgood_none (by kernel_rfl))
    (fun o r h => by unfold yfo at h; split at h <;> first | (cases h; rfl) | cases h) (yfq k)
def yfs (k : Nat) : Orc := pureOrc [.agg [(.int .i64), (.int .i64), (.int .i64), (.int .i64), (.int .i64), (.int .i64), (.int .i64), (.sl (.int .i64)), (.sl (.int .i64))], .one (.int .i64)] (yfp k)
theorem yft (k : Nat) : OrcOk Try.prog 242 (yfs k) := pureOrc_ok (yfr k)
noncomputable def yfu (k : Nat) : Env := { P := Try.prog, tt := tt, orc := fun g => cond (Nat.beq g 132) (o_I_in k) (noOrc) }
theorem yfv (k : Nat) : EnvOk (yfu k) := fun g => (orc_cond (yb5 k) (noOrc_ok _ _))
noncomputable def yfw : Code := (Try.f243.body).getD .skip
def yfx (ρ : Type) (k : Nat) : Nat → Ev ρ → Ev ρ := fun _ _ _ _ => none
def yfy (a : Layer × Shape) : List Arg := [.agg [.int .i64 a.1.kind, .int .i64 a.1.out, .int .i64 a.1.size, .int .i64 a.1.step, .int .i64 a.1.mult, .int .i64 a.1.shift, .int .i64 a.1.zero, .sl (.int .i64) a.1.weights, .sl (.int .i64) a.1.bias], .agg [.int .i64 a.2.h, .int .i64 a.2.w, .int .i64 a.2.c]]
def yfz (l : List Arg) : Option (Layer × Shape) := match l with
  | [.agg [.int .i64 b0_0, .int .i64 b0_1, .int .i64 b0_2, .int .i64 b0_3, .int .i64 b0_4, .int .i64 b0_5, .int .i64 b0_6, .sl (.int .i64) b0_7, .sl (.int .i64) b0_8], .agg [.int .i64 b1_0, .int .i64 b1_1, .int .i64 b1_2]] => some ((⟨b0_0, b0_1, b0_2, b0_3, b0_4, b0_5, b0_6, b0_7, b0_8⟩ : Layer), (⟨b1_0, b1_1, b1_2⟩ : Shape))
  | _ => none
def yg0 (r : Bool) : Out := (.r [] (.bool r), [])
def yg1 (o : Out) : Option (Bool) := match o with
  | (.r [] (.bool z1), []) => some z1
  | _ => none
def yg2 (k : Nat) : PG := fun _ l K => (yfz l).bind fun a => (I_Layer_isWindow k a.1 a.2).bind fun r => K (yg0 r)
theorem yg3 (k : Nat) (a : Layer × Shape) : ev (yfu k) (yfx (Bool) k) 0 yfw (st0 Try.f243 (yfy a)) (fin Try.prog Try.f243 (.sc) yg1) = I_Layer_isWindow k a.1 a.2 := by kernel_rfl
theorem yg4 (k : Nat) : PureOk Try.prog 243 (yg2 k) :=
  pureOk_of_ev (yfv k) Try.func243 (by kernel_rfl) (by kernel_rfl) yfy yfz
    (fun l a h => by unfold yfz at h; split at h <;> first | (cases h; rfl) | cases h) (fun a => rfl) (lpgood_none (by kernel_rfl))
    (fun o r h => by unfold yg1 at h; split at h <;> first | (cases h; rfl) | cases h) (yg3 k)
def yg5 (k : Nat) : Orc := pureOrc [.agg [(.int .i64), (.int .i64), (.int .i64), (.int .i64), (.int .i64), (.int .i64), (.int .i64), (.sl (.int .i64)), (.sl (.int .i64))], .agg [(.int .i64), (.int .i64), (.int .i64)]] (yg2 k)
theorem yg6 (k : Nat) : OrcOk Try.prog 243 (yg5 k) := pureOrc_ok (yg4 k)
noncomputable def yg7 (k : Nat) : Env := { P := Try.prog, tt := tt, orc := fun g => noOrc }
theorem yg8 (k : Nat) : EnvOk (yg7 k) := fun g => (noOrc_ok _ _)
noncomputable def yg9 : Code := (Try.f244.body).getD .skip
def yga (ρ : Type) (k : Nat) : Nat → Ev ρ → Ev ρ := fun _ _ _ _ => none
def ygb (a : Layer × Shape × Int) : List Arg := [.agg [.int .i64 a.1.kind, .int .i64 a.1.out, .int .i64 a.1.size, .int .i64 a.1.step, .int .i64 a.1.mult, .int .i64 a.1.shift, .int .i64 a.1.zero, .sl (.int .i64) a.1.weights, .sl (.int .i64) a.1.bias], .agg [.int .i64 a.2.1.h, .int .i64 a.2.1.w, .int .i64 a.2.1.c], .one (.int .i64 a.2.2)]
def ygc (l : List Arg) : Option (Layer × Shape × Int) := match l with
  | [.agg [.int .i64 b0_0, .int .i64 b0_1, .int .i64 b0_2, .int .i64 b0_3, .int .i64 b0_4, .int .i64 b0_5, .int .i64 b0_6, .sl (.int .i64) b0_7, .sl (.int .i64) b0_8], .agg [.int .i64 b1_0, .int .i64 b1_1, .int .i64 b1_2], .one (.int .i64 b2)] => some ((⟨b0_0, b0_1, b0_2, b0_3, b0_4, b0_5, b0_6, b0_7, b0_8⟩ : Layer), (⟨b1_0, b1_1, b1_2⟩ : Shape), b2)
  | _ => none
def ygd (r : Shape) : Out := (.agg [.r [] (.int .i64 r.h), .r [] (.int .i64 r.w), .r [] (.int .i64 r.c)], [])
def yge (o : Out) : Option (Shape) := match o with
  | (.agg [.r [] (.int .i64 z1), .r [] (.int .i64 z2), .r [] (.int .i64 z3)], []) => some (⟨z1, z2, z3⟩ : Shape)
  | _ => none
def ygf (k : Nat) : PG := fun _ l K => (ygc l).bind fun a => (I_Layer_windows k a.1 a.2.1 a.2.2).bind fun r => K (ygd r)
theorem ygg (k : Nat) (a : Layer × Shape × Int) : ev (yg7 k) (yga (Shape) k) 0 yg9 (st0 Try.f244 (ygb a)) (fin Try.prog Try.f244 (.agg [.sc, .sc, .sc]) yge) = I_Layer_windows k a.1 a.2.1 a.2.2 := by kernel_rfl
theorem ygh (k : Nat) : PureOk Try.prog 244 (ygf k) :=
  pureOk_of_ev (yg8 k) Try.func244 (by kernel_rfl) (by kernel_rfl) ygb ygc
    (fun l a h => by unfold ygc at h; split at h <;> first | (cases h; rfl) | cases h) (fun a => rfl) (lpgood_none (by kernel_rfl))
    (fun o r h => by unfold yge at h; split at h <;> first | (cases h; rfl) | cases h) (ygg k)
def ygi (k : Nat) : Orc := pureOrc [.agg [(.int .i64), (.int .i64), (.int .i64), (.int .i64), (.int .i64), (.int .i64), (.int .i64), (.sl (.int .i64)), (.sl (.int .i64))], .agg [(.int .i64), (.int .i64), (.int .i64)], .one (.int .i64)] (ygf k)
theorem ygj (k : Nat) : OrcOk Try.prog 244 (ygi k) := pureOrc_ok (ygh k)
noncomputable def ygk (k : Nat) : Env := { P := Try.prog, tt := tt, orc := fun g => noOrc }
theorem ygl (k : Nat) : EnvOk (ygk k) := fun g => (noOrc_ok _ _)
noncomputable def ygm : Code := (Try.f245.body).getD .skip
def ygn (ρ : Type) (k : Nat) : Nat → Ev ρ → Ev ρ := fun _ _ _ _ => none
def ygo (a : Layer) : List Arg := [.agg [.int .i64 a.kind, .int .i64 a.out, .int .i64 a.size, .int .i64 a.step, .int .i64 a.mult, .int .i64 a.shift, .int .i64 a.zero, .sl (.int .i64) a.weights, .sl (.int .i64) a.bias]]
def ygp (l : List Arg) : Option (Layer) := match l with
  | [.agg [.int .i64 b0_0, .int .i64 b0_1, .int .i64 b0_2, .int .i64 b0_3, .int .i64 b0_4, .int .i64 b0_5, .int .i64 b0_6, .sl (.int .i64) b0_7, .sl (.int .i64) b0_8]] => some (⟨b0_0, b0_1, b0_2, b0_3, b0_4, b0_5, b0_6, b0_7, b0_8⟩ : Layer)
  | _ => none
def ygq (r : Bool) : Out := (.r [] (.bool r), [])
def ygr (o : Out) : Option (Bool) := match o with
  | (.r [] (.bool z1), []) => some z1
  | _ => none
def ygs (k : Nat) : PG := fun _ l K => (ygp l).bind fun a => (I_Layer_isBare k a).bind fun r => K (ygq r)
theorem ygt (k : Nat) (a : Layer) : ev (ygk k) (ygn (Bool) k) 0 ygm (st0 Try.f245 (ygo a)) (fin Try.prog Try.f245 (.sc) ygr) = I_Layer_isBare k a := by kernel_rfl
theorem ygu (k : Nat) : PureOk Try.prog 245 (ygs k) :=
  pureOk_of_ev (ygl k) Try.func245 (by kernel_rfl) (by kernel_rfl) ygo ygp
    (fun l a h => by unfold ygp at h; split at h <;> first | (cases h; rfl) | cases h) (fun a => rfl) (lpgood_none (by kernel_rfl))
    (fun o r h => by unfold ygr at h; split at h <;> first | (cases h; rfl) | cases h) (ygt k)
def ygv (k : Nat) : Orc := pureOrc [.agg [(.int .i64), (.int .i64), (.int .i64), (.int .i64), (.int .i64), (.int .i64), (.int .i64), (.sl (.int .i64)), (.sl (.int .i64))]] (ygs k)
theorem ygw (k : Nat) : OrcOk Try.prog 245 (ygv k) := pureOrc_ok (ygu k)
noncomputable def ygx (k : Nat) : Env := { P := Try.prog, tt := tt, orc := fun g => cond (Nat.beq g 93) (ybu k) (cond (Nat.beq g 132) (o_I_in k) (cond (Nat.beq g 183) (ybh k) (cond (Nat.beq g 241) (yc7 k) (cond (Nat.beq g 242) (yfs k) (cond (Nat.beq g 243) (yg5 k) (cond (Nat.beq g 244) (ygi k) (cond (Nat.beq g 245) (ygv k) (noOrc)))))))) }
theorem ygy (k : Nat) : EnvOk (ygx k) := fun g => (orc_cond (ybv k) (orc_cond (yb5 k) (orc_cond (ybi k) (orc_cond (yc8 k) (orc_cond (yft k) (orc_cond (yg6 k) (orc_cond (ygj k) (orc_cond (ygw k) (noOrc_ok _ _)))))))))
noncomputable def ygz : Code := (Try.f222.body).getD .skip
def yh0 (ρ : Type) (k : Nat) : Nat → Ev ρ → Ev ρ := fun _ _ _ _ => none
def yh1 (a : Shape × Layer) : List Arg := [.agg [.int .i64 a.1.h, .int .i64 a.1.w, .int .i64 a.1.c], .agg [.int .i64 a.2.kind, .int .i64 a.2.out, .int .i64 a.2.size, .int .i64 a.2.step, .int .i64 a.2.mult, .int .i64 a.2.shift, .int .i64 a.2.zero, .sl (.int .i64) a.2.weights, .sl (.int .i64) a.2.bias]]
def yh2 (l : List Arg) : Option (Shape × Layer) := match l with
  | [.agg [.int .i64 b0_0, .int .i64 b0_1, .int .i64 b0_2], .agg [.int .i64 b1_0, .int .i64 b1_1, .int .i64 b1_2, .int .i64 b1_3, .int .i64 b1_4, .int .i64 b1_5, .int .i64 b1_6, .sl (.int .i64) b1_7, .sl (.int .i64) b1_8]] => some ((⟨b0_0, b0_1, b0_2⟩ : Shape), (⟨b1_0, b1_1, b1_2, b1_3, b1_4, b1_5, b1_6, b1_7, b1_8⟩ : Layer))
  | _ => none
def yh3 (r : Shape × Bool) : Out := (.tup [.agg [.r [] (.int .i64 r.1.h), .r [] (.int .i64 r.1.w), .r [] (.int .i64 r.1.c)], .r [] (.bool r.2)], [])
def yh4 (o : Out) : Option (Shape × Bool) := match o with
  | (.tup [.agg [.r [] (.int .i64 z1), .r [] (.int .i64 z2), .r [] (.int .i64 z3)], .r [] (.bool z4)], []) => some ((⟨z1, z2, z3⟩ : Shape), z4)
  | _ => none
def yh5 (k : Nat) : PG := fun _ l K => (yh2 l).bind fun a => (I_OutShape k a.1 a.2).bind fun r => K (yh3 r)
theorem yh6 (k : Nat) (a : Shape × Layer) : ev (ygx k) (yh0 (Shape × Bool) k) 0 ygz (st0 Try.f222 (yh1 a)) (fin Try.prog Try.f222 (.tup [.agg [.sc, .sc, .sc], .sc]) yh4) = I_OutShape k a.1 a.2 := by kernel_rfl
theorem yh7 (k : Nat) : PureOk Try.prog 222 (yh5 k) :=
  pureOk_of_ev (ygy k) Try.func222 (by kernel_rfl) (by kernel_rfl) yh1 yh2
    (fun l a h => by unfold yh2 at h; split at h <;> first | (cases h; rfl) | cases h) (fun a => rfl) (lpgood_none (by kernel_rfl))
    (fun o r h => by unfold yh4 at h; split at h <;> first | (cases h; rfl) | cases h) (yh6 k)
def yh8 (k : Nat) : Orc := pureOrc [.agg [(.int .i64), (.int .i64), (.int .i64)], .agg [(.int .i64), (.int .i64), (.int .i64), (.int .i64), (.int .i64), (.int .i64), (.int .i64), (.sl (.int .i64)), (.sl (.int .i64))]] (yh5 k)
theorem yh9 (k : Nat) : OrcOk Try.prog 222 (yh8 k) := pureOrc_ok (yh7 k)
noncomputable def yha (k : Nat) : Env := { P := Try.prog, tt := tt, orc := fun g => cond (Nat.beq g 222) (yh8 k) (noOrc) }
theorem yhb (k : Nat) : EnvOk (yha k) := fun g => (orc_cond (yh9 k) (noOrc_ok _ _))
noncomputable def yhc : Code := (Try.f179.body).getD .skip
noncomputable def yhd : Code := ((loopsIn 0 yhc).getD 0 (0, .skip)).2
def yhe : List Nat := [4, 5, 16, 17, 18]
def yhf : List (Where × Co) := []
def yhg : Ex → List Nat
  | .exit j => cond (Nat.beq j 0) [4] []
  | .ret => [2, 3]
  | .normal => []
def yhh : Ex → List (Where × Co)
  | .exit j => cond (Nat.beq j 0) [] []
  | .ret => []
  | .normal => []
def yhi (pv : (List Layer × Int) × (Int × List Shape × Int × Int × Int)) : St := { slots := [(4, .own 0), (5, .ptr 1 0 0), (16, .r [] (.sl (.st .layer) pv.1.1)), (17, .r [] (.int .i64 pv.1.2)), (18, .r [] (.int .i64 pv.2.1))], heap := [(0, .arr none (.st .shape) pv.2.2.1), (1, .box [.r [] (.int .i64 pv.2.2.2.1), .r [] (.int .i64 pv.2.2.2.2.1), .r [] (.int .i64 pv.2.2.2.2.2)])], nid := 2, n := 37, gh := [] }
def yhj (nf : NF) : Option ((List Layer × Int) × (Int × List Shape × Int × Int × Int)) := match nf with
  | ([.own 0, .ptr 1 0 0, .r [] (.sl (.st .layer) w0), .r [] (.int .i64 w1), .r [] (.int .i64 w2)], [.arr none (.st .shape) w3, .box [.r [] (.int .i64 w4), .r [] (.int .i64 w5), .r [] (.int .i64 w6)]], []) => some ((w0, w1), (w2, w3, w4, w5, w6))
  | _ => none
theorem yhk (nf : NF) (v : (List Layer × Int) × (Int × List Shape × Int × Int × Int)) (h : yhj nf = some v) : denorm yhe 37 nf = yhi v := by
  unfold yhj at h
  split at h
  · cases h; rfl
  · cases h
def yhl (p : List Layer × Int) (x : List Shape) : St := { slots := [(4, .own 0)], heap := [(0, .arr none (.st .shape) x)], nid := 1, n := 37, gh := [] }
def yhm (p : List Layer × Int) (x : Bool) : St := { slots := [(2, .nilS), (3, .r [] (.bool x))], heap := [], nid := 0, n := 37, gh := [] }
def yhn (ρ : Type) (k : Nat) : Nat → Ev ρ → Ev ρ := fun id f => cond (Nat.beq id 0) (loopOrc yhe yhf (fun n nf => cond (Nat.beq n 37) (yhj nf) none) fun pv K => iter (fun v next => I_Model_shapes_g0 k pv.1 v next (fun x => K (.exit 0) (yhl pv.1 x)) (fun x => K .ret (yhm pv.1 x))) k pv.2) ((fun _ _ _ _ => none) id f)
theorem yho {ρ : Type} (k : Nat) (p : List Layer × Int) (v : Int × List Shape × Int × Int × Int) (K K1 : Ex → St → Option ρ) : ev (yha k) (yhn ρ k) 0 yhd (yhi (p, v)) (fun e st' => match e with
    | .normal => (normC yhe yhf st').bind fun nf => K1 .normal (denorm yhe st'.n nf)
    | e => (normC (yhg e) (yhh e) st').bind fun nf => K e (denorm (yhg e) st'.n nf)) = I_Model_shapes_g0 k p v (fun v' => K1 .normal (yhi (p, v'))) (fun x => K (.exit 0) (yhl p x)) (fun x => K .ret (yhm p x)) := by kernel_rfl
theorem yhp {ρ : Type} (k : Nat) : Sound Try.prog (.loop yhd) (yhn ρ k 0 fun st K => ev (yha k) (yhn ρ k) 0 yhd st K) :=
  loop_ok (ev_sound (yhb k) yhd 0 (lpgood_none (by kernel_rfl))) yhg yhh k (g := fun p v next K => I_Model_shapes_g0 k p v next (fun x => K (.exit 0) (yhl p x)) (fun x => K .ret (yhm p x))) (dec_at yhk) (fun p v K K1 => yho k p v K K1)
def yhq (a : Model) : List Arg := [.agg [.int .i64 a.inp.h, .int .i64 a.inp.w, .int .i64 a.inp.c, .sl (.st .layer) a.layers]]
def yhr (l : List Arg) : Option (Model) := match l with
  | [.agg [.int .i64 b0_0, .int .i64 b0_1, .int .i64 b0_2, .sl (.st .layer) b0_3]] => some (⟨(⟨b0_0, b0_1, b0_2⟩ : Shape), b0_3⟩ : Model)
  | _ => none
def yhs (r : List Shape × Bool) : Out := (.tup [.own 0, .r [] (.bool r.2)], [.arr none (.st .shape) r.1])
def yht (o : Out) : Option (List Shape × Bool) := match o with
  | (.tup [.own 0, .r [] (.bool z2)], [.arr none (.st .shape) z1]) => some (z1, z2)
  | _ => none
def yhu (k : Nat) : PG := fun _ l K => (yhr l).bind fun a => (I_Model_shapes k a).bind fun r => K (yhs r)
theorem yhv (k : Nat) (a : Model) : ev (yha k) (yhn (List Shape × Bool) k) 0 yhc (st0 Try.f179 (yhq a)) (fin Try.prog Try.f179 (.tup [.own (.st .shape), .sc]) yht) = I_Model_shapes k a := by kernel_rfl
theorem yhw (k : Nat) : PureOk Try.prog 179 (yhu k) :=
  pureOk_of_ev (yhb k) Try.func179 (by kernel_rfl) (by kernel_rfl) yhq yhr
    (fun l a h => by unfold yhr at h; split at h <;> first | (cases h; rfl) | cases h) (fun a => rfl) (lpgood_of (l := [(0, yhd)]) (by kernel_rfl) ⟨yhp k, trivial⟩)
    (fun o r h => by unfold yht at h; split at h <;> first | (cases h; rfl) | cases h) (yhv k)
def yhx (k : Nat) : Orc := pureOrc [.agg [(.int .i64), (.int .i64), (.int .i64), (.sl (.st .layer))]] (yhu k)
theorem yhy (k : Nat) : OrcOk Try.prog 179 (yhx k) := pureOrc_ok (yhw k)
noncomputable def yhz (k : Nat) : Env := { P := Try.prog, tt := tt, orc := fun g => cond (Nat.beq g 132) (o_I_in k) (cond (Nat.beq g 179) (yhx k) (noOrc)) }
theorem yi0 (k : Nat) : EnvOk (yhz k) := fun g => (orc_cond (yb5 k) (orc_cond (yhy k) (noOrc_ok _ _)))
noncomputable def yi1 : Code := (Try.f88.body).getD .skip
def yi2 (ρ : Type) (k : Nat) : Nat → Ev ρ → Ev ρ := fun _ _ _ _ => none
def yi3 (a : Model) : List Arg := [.agg [.int .i64 a.inp.h, .int .i64 a.inp.w, .int .i64 a.inp.c, .sl (.st .layer) a.layers]]
def yi4 (l : List Arg) : Option (Model) := match l with
  | [.agg [.int .i64 b0_0, .int .i64 b0_1, .int .i64 b0_2, .sl (.st .layer) b0_3]] => some (⟨(⟨b0_0, b0_1, b0_2⟩ : Shape), b0_3⟩ : Model)
  | _ => none
def yi5 (r : Bool) : Out := (.r [] (.bool r), [])
def yi6 (o : Out) : Option (Bool) := match o with
  | (.r [] (.bool z1), []) => some z1
  | _ => none
def yi7 (k : Nat) : PG := fun _ l K => (yi4 l).bind fun a => (I_ModelOk k a).bind fun r => K (yi5 r)
theorem yi8 (k : Nat) (a : Model) : ev (yhz k) (yi2 (Bool) k) 0 yi1 (st0 Try.f88 (yi3 a)) (fin Try.prog Try.f88 (.sc) yi6) = I_ModelOk k a := by kernel_rfl
theorem yi9 (k : Nat) : PureOk Try.prog 88 (yi7 k) :=
  pureOk_of_ev (yi0 k) Try.func88 (by kernel_rfl) (by kernel_rfl) yi3 yi4
    (fun l a h => by unfold yi4 at h; split at h <;> first | (cases h; rfl) | cases h) (fun a => rfl) (lpgood_none (by kernel_rfl))
    (fun o r h => by unfold yi6 at h; split at h <;> first | (cases h; rfl) | cases h) (yi8 k)
def yia (k : Nat) : Orc := pureOrc [.agg [(.int .i64), (.int .i64), (.int .i64), (.sl (.st .layer))]] (yi7 k)
theorem yib (k : Nat) : OrcOk Try.prog 88 (yia k) := pureOrc_ok (yi9 k)
noncomputable def yic (k : Nat) : Env := { P := Try.prog, tt := tt, orc := fun g => cond (Nat.beq g 88) (yia k) (cond (Nat.beq g 179) (yhx k) (noOrc)) }
theorem yid (k : Nat) : EnvOk (yic k) := fun g => (orc_cond (yib k) (orc_cond (yhy k) (noOrc_ok _ _)))
noncomputable def yie : Code := (Try.f92.body).getD .skip
def yif (ρ : Type) (k : Nat) : Nat → Ev ρ → Ev ρ := fun _ _ _ _ => none
def yig (a : Model) : List Arg := [.agg [.int .i64 a.inp.h, .int .i64 a.inp.w, .int .i64 a.inp.c, .sl (.st .layer) a.layers]]
def yih (l : List Arg) : Option (Model) := match l with
  | [.agg [.int .i64 b0_0, .int .i64 b0_1, .int .i64 b0_2, .sl (.st .layer) b0_3]] => some (⟨(⟨b0_0, b0_1, b0_2⟩ : Shape), b0_3⟩ : Model)
  | _ => none
def yii (r : List Shape) : Out := (.own 0, [.arr none (.st .shape) r])
def yij (o : Out) : Option (List Shape) := match o with
  | (.own 0, [.arr none (.st .shape) z1]) => some z1
  | _ => none
def yik (k : Nat) : PG := fun _ l K => (yih l).bind fun a => (I_ShapesOf k a).bind fun r => K (yii r)
theorem yil (k : Nat) (a : Model) : ev (yic k) (yif (List Shape) k) 0 yie (st0 Try.f92 (yig a)) (fin Try.prog Try.f92 (.own (.st .shape)) yij) = I_ShapesOf k a := by kernel_rfl
theorem yim (k : Nat) : PureOk Try.prog 92 (yik k) :=
  pureOk_of_ev (yid k) Try.func92 (by kernel_rfl) (by kernel_rfl) yig yih
    (fun l a h => by unfold yih at h; split at h <;> first | (cases h; rfl) | cases h) (fun a => rfl) (lpgood_none (by kernel_rfl))
    (fun o r h => by unfold yij at h; split at h <;> first | (cases h; rfl) | cases h) (yil k)
def yin (k : Nat) : Orc := pureOrc [.agg [(.int .i64), (.int .i64), (.int .i64), (.sl (.st .layer))]] (yik k)
theorem yio (k : Nat) : OrcOk Try.prog 92 (yin k) := pureOrc_ok (yim k)
noncomputable def yip (k : Nat) : Env := { P := Try.prog, tt := tt, orc := fun g => noOrc }
theorem yiq (k : Nat) : EnvOk (yip k) := fun g => (noOrc_ok _ _)
noncomputable def yir : Code := (Try.f206.body).getD .skip
def yis (ρ : Type) (k : Nat) : Nat → Ev ρ → Ev ρ := fun _ _ _ _ => none
def yit (a : Int) : List SV := [.nilS, .r [] (.int .i64 a)]
def yiu (a : Int) : List Blk := []
def yiv (l : List SV) (b : List Blk) : Option (Int) := match l, b with
  | [.nilS, .r [] (.int .i64 w0)], [] => some w0
  | _, _ => none
def yiw (a : Int) (r : List Layer) : MOut := ⟨.own 0, [], [.arr none (.st .layer) r]⟩
def yix (a : Int) (o : MOut) : Option (List Layer) := match o with
  | ⟨.own 0, [], [.arr none (.st .layer) z1]⟩ => some z1
  | _ => none
def yiy (k : Nat) : MG := fun _ l b K => (yiv l b).bind fun a => (slices_Grow_lI_Layer_I_Layer_m2 k a).bind fun r => K (yiw a r)
theorem yiz (k : Nat) (a : Int) : ev (yip k) (yis (List Layer) k) 0 yir (st0M Try.f206 (yit a) (yiu a)) (finM Try.prog Try.f206 (.own (.st .layer)) [] (yix a)) = slices_Grow_lI_Layer_I_Layer_m2 k a := by kernel_rfl
theorem yj0 (k : Nat) : MutOk Try.prog 206 (yiy k) :=
  mutOk_of_ev (yiq k) Try.func206 (by kernel_rfl) (by kernel_rfl) yit yiu yiv
    (fun l b a h => by unfold yiv at h; split at h <;> first | (cases h; exact ⟨rfl, rfl⟩) | cases h) (fun a => rfl) (lpgood_none (by kernel_rfl)) (fun a r => rfl)
    (fun a o r h => by unfold yix at h; split at h <;> first | (skip; cases h; rfl) | cases h) (yiz k)
def yj1 (k : Nat) : Orc := mutOrc [.keep, .keep] (yiy k)
theorem yj2 (k : Nat) : OrcOk Try.prog 206 (yj1 k) := mutOrc_ok (yj0 k)
noncomputable def yj3 (k : Nat) : Env := { P := Try.prog, tt := tt, orc := fun g => cond (Nat.beq g 206) (yj1 k) (noOrc), wr := fun g => mem g [206], wt := true }
theorem yj4 (k : Nat) : EnvOk (yj3 k) := fun g => (orc_cond (yj2 k) (noOrc_ok _ _))
noncomputable def yj5 : Code := (Try.f150.body).getD .skip
noncomputable def yj6 : Code := ((loopsIn 0 yj5).getD 0 (0, .skip)).2
noncomputable def yj7 : Code := ((loopsIn 0 yj5).getD 1 (0, .skip)).2
def yj8 (ρ : Type) (k : Nat) : Nat → Ev ρ → Ev ρ := fun id f => cond (Nat.beq id 2) (loopN f 15) ((fun id f => cond (Nat.beq id 0) (loopN f 15) ((fun _ _ _ _ => none) id f)) id f)
theorem yj9 {ρ : Type} (k : Nat) : Sound Try.prog (.loop yj6) (yj8 ρ k 0 fun st K => ev (yj3 k) (yj8 ρ k) 0 yj6 st K) :=
  loop_sound (ev_sound (yj4 k) yj6 0 (lpgood_none (by kernel_rfl))) 15
theorem yja {ρ : Type} (k : Nat) : Sound Try.prog (.loop yj7) (yj8 ρ k 2 fun st K => ev (yj3 k) (yj8 ρ k) 2 yj7 st K) :=
  loop_sound (ev_sound (yj4 k) yj7 2 (lpgood_none (by kernel_rfl))) 15
def yjb (a : List Layer × List Layer) : List SV := [.bsl 0 2]
def yjc (a : List Layer × List Layer) : List Blk := [.box [.r [] (.sl (.st .layer) a.1), .r [] (.sl (.st .layer) a.2)]]
def yjd (l : List SV) (b : List Blk) : Option (List Layer × List Layer) := match l, b with
  | [.bsl 0 2], [.box [.r [] (.sl (.st .layer) w0), .r [] (.sl (.st .layer) w1)]] => some (w0, w1)
  | _, _ => none
def yje (a : List Layer × List Layer) (r : List Layer) : MOut := ⟨.own 1, [some (.box [.r [] (.sl (.st .layer) a.1), .r [] (.sl (.st .layer) a.2)])], [.arr (some []) (.st .layer) r]⟩
def yjf (a : List Layer × List Layer) (o : MOut) : Option (List Layer) := match o with
  | ⟨.own 1, [some (.box [.r [] (.sl (.st .layer) z1), .r [] (.sl (.st .layer) z2)])], [.arr (some []) (.st .layer) z3]⟩ => cond (@sameL (List Layer) _ z1 a.1) (cond (@sameL (List Layer) _ z2 a.2) (some z3) none) none
  | _ => none
def yjg (k : Nat) : MG := fun _ l b K => (yjd l b).bind fun a => (slices_Concat_lI_Layer_I_Layer_m k a.1 a.2).bind fun r => K (yje a r)
theorem yjh (k : Nat) (a : List Layer × List Layer) : ev (yj3 k) (yj8 (List Layer) k) 0 yj5 (st0M Try.f150 (yjb a) (yjc a)) (finM Try.prog Try.f150 (.shl (.st .layer)) [.box [.ro (.st .layer), .ro (.st .layer)]] (yjf a)) = slices_Concat_lI_Layer_I_Layer_m k a.1 a.2 := by kernel_rfl
theorem yji (k : Nat) : MutOk Try.prog 150 (yjg k) :=
  mutOk_of_ev (yj4 k) Try.func150 (by kernel_rfl) (by kernel_rfl) yjb yjc yjd
    (fun l b a h => by unfold yjd at h; split at h <;> first | (cases h; exact ⟨rfl, rfl⟩) | cases h) (fun a => rfl) (lpgood_of (l := [(0, yj6), (2, yj7)]) (by kernel_rfl) ⟨yj9 k, ⟨yja k, trivial⟩⟩) (fun a r => rfl)
    (fun a o r h => by unfold yjf at h; split at h <;> first | (obtain ⟨e0, e1, hq⟩ := dec_chk2 h; clear h; subst e0; subst e1; have h := hq; clear hq; cases h; rfl) | cases h) (yjh k)
def yjj (k : Nat) : Orc := mutOrc [.keep] (yjg k)
theorem yjk (k : Nat) : OrcOk Try.prog 150 (yjj k) := mutOrc_ok (yji k)
noncomputable def yjl (k : Nat) : Env := { P := Try.prog, tt := tt, orc := fun g => noOrc }
theorem yjm (k : Nat) : EnvOk (yjl k) := fun g => (noOrc_ok _ _)
noncomputable def yjn : Code := (Try.f115.body).getD .skip
def yjo (ρ : Type) (k : Nat) : Nat → Ev ρ → Ev ρ := fun _ _ _ _ => none
def yjp (a : List Int) : List Arg := [.one (.sl (.int .i64) a)]
def yjq (l : List Arg) : Option (List Int) := match l with
  | [.one (.sl (.int .i64) b0)] => some b0
  | _ => none
def yjr (r : List Int) : Out := (.own 0, [.arr none (.int .i64) r])
def yjs (o : Out) : Option (List Int) := match o with
  | (.own 0, [.arr none (.int .i64) z1]) => some z1
  | _ => none
def yjt (k : Nat) : PG := fun _ l K => (yjq l).bind fun a => (slices_Clone_lint_int k a).bind fun r => K (yjr r)
theorem yju (k : Nat) (a : List Int) : ev (yjl k) (yjo (List Int) k) 0 yjn (st0 Try.f115 (yjp a)) (fin Try.prog Try.f115 (.own (.int .i64)) yjs) = slices_Clone_lint_int k a := by kernel_rfl
theorem yjv (k : Nat) : PureOk Try.prog 115 (yjt k) :=
  pureOk_of_ev (yjm k) Try.func115 (by kernel_rfl) (by kernel_rfl) yjp yjq
    (fun l a h => by unfold yjq at h; split at h <;> first | (cases h; rfl) | cases h) (fun a => rfl) (lpgood_none (by kernel_rfl))
    (fun o r h => by unfold yjs at h; split at h <;> first | (cases h; rfl) | cases h) (yju k)
def yjw (k : Nat) : Orc := pureOrc [.one (.sl (.int .i64))] (yjt k)
theorem yjx (k : Nat) : OrcOk Try.prog 115 (yjw k) := pureOrc_ok (yjv k)
noncomputable def yjy (k : Nat) : Env := { P := Try.prog, tt := tt, orc := fun g => cond (Nat.beq g 115) (yjw k) (noOrc) }
theorem yjz (k : Nat) : EnvOk (yjy k) := fun g => (orc_cond (yjx k) (noOrc_ok _ _))
noncomputable def yk0 : Code := (Try.f205.body).getD .skip
def yk1 (ρ : Type) (k : Nat) : Nat → Ev ρ → Ev ρ := fun _ _ _ _ => none
def yk2 (a : Layer) : List Arg := [.agg [.int .i64 a.kind, .int .i64 a.out, .int .i64 a.size, .int .i64 a.step, .int .i64 a.mult, .int .i64 a.shift, .int .i64 a.zero, .sl (.int .i64) a.weights, .sl (.int .i64) a.bias]]
def yk3 (l : List Arg) : Option (Layer) := match l with
  | [.agg [.int .i64 b0_0, .int .i64 b0_1, .int .i64 b0_2, .int .i64 b0_3, .int .i64 b0_4, .int .i64 b0_5, .int .i64 b0_6, .sl (.int .i64) b0_7, .sl (.int .i64) b0_8]] => some (⟨b0_0, b0_1, b0_2, b0_3, b0_4, b0_5, b0_6, b0_7, b0_8⟩ : Layer)
  | _ => none
def yk4 (r : Layer) : Out := (.agg [.r [] (.int .i64 r.kind), .r [] (.int .i64 r.out), .r [] (.int .i64 r.size), .r [] (.int .i64 r.step), .r [] (.int .i64 r.mult), .r [] (.int .i64 r.shift), .r [] (.int .i64 r.zero), .own 0, .own 1], [.arr none (.int .i64) r.weights, .arr none (.int .i64) r.bias])
def yk5 (o : Out) : Option (Layer) := match o with
  | (.agg [.r [] (.int .i64 z1), .r [] (.int .i64 z2), .r [] (.int .i64 z3), .r [] (.int .i64 z4), .r [] (.int .i64 z5), .r [] (.int .i64 z6), .r [] (.int .i64 z7), .own 0, .own 1], [.arr none (.int .i64) z8, .arr none (.int .i64) z9]) => some (⟨z1, z2, z3, z4, z5, z6, z7, z8, z9⟩ : Layer)
  | _ => none
def yk6 (k : Nat) : PG := fun _ l K => (yk3 l).bind fun a => (I_Layer_copied k a).bind fun r => K (yk4 r)
theorem yk7 (k : Nat) (a : Layer) : ev (yjy k) (yk1 (Layer) k) 0 yk0 (st0 Try.f205 (yk2 a)) (fin Try.prog Try.f205 (.agg [.sc, .sc, .sc, .sc, .sc, .sc, .sc, .own (.int .i64), .own (.int .i64)]) yk5) = I_Layer_copied k a := by kernel_rfl
theorem yk8 (k : Nat) : PureOk Try.prog 205 (yk6 k) :=
  pureOk_of_ev (yjz k) Try.func205 (by kernel_rfl) (by kernel_rfl) yk2 yk3
    (fun l a h => by unfold yk3 at h; split at h <;> first | (cases h; rfl) | cases h) (fun a => rfl) (lpgood_none (by kernel_rfl))
    (fun o r h => by unfold yk5 at h; split at h <;> first | (cases h; rfl) | cases h) (yk7 k)
def yk9 (k : Nat) : Orc := pureOrc [.agg [(.int .i64), (.int .i64), (.int .i64), (.int .i64), (.int .i64), (.int .i64), (.int .i64), (.sl (.int .i64)), (.sl (.int .i64))]] (yk6 k)
theorem yka (k : Nat) : OrcOk Try.prog 205 (yk9 k) := pureOrc_ok (yk8 k)
noncomputable def ykb (k : Nat) : Env := { P := Try.prog, tt := tt, orc := fun g => cond (Nat.beq g 205) (yk9 k) (noOrc) }
theorem ykc (k : Nat) : EnvOk (ykb k) := fun g => (orc_cond (yka k) (noOrc_ok _ _))
noncomputable def ykd : Code := (Try.f149.body).getD .skip
noncomputable def yke : Code := ((loopsIn 0 ykd).getD 0 (0, .skip)).2
def ykf : List Nat := [3, 7, 8, 9]
def ykg : List (Where × Co) := []
def ykh : Ex → List Nat
  | .exit j => cond (Nat.beq j 0) [3] []
  | .ret => []
  | .normal => []
def yki : Ex → List (Where × Co)
  | .exit j => cond (Nat.beq j 0) [] []
  | .ret => []
  | .normal => []
def ykj (pv : (List Layer × Int) × (Int × List Layer)) : St := { slots := [(3, .own 0), (7, .r [] (.sl (.st .layer) pv.1.1)), (8, .r [] (.int .i64 pv.1.2)), (9, .r [] (.int .i64 pv.2.1))], heap := [(0, .arr none (.st .layer) pv.2.2)], nid := 1, n := 20, gh := [] }
def ykk (nf : NF) : Option ((List Layer × Int) × (Int × List Layer)) := match nf with
  | ([.own 0, .r [] (.sl (.st .layer) w0), .r [] (.int .i64 w1), .r [] (.int .i64 w2)], [.arr none (.st .layer) w3], []) => some ((w0, w1), (w2, w3))
  | _ => none
theorem ykl (nf : NF) (v : (List Layer × Int) × (Int × List Layer)) (h : ykk nf = some v) : denorm ykf 20 nf = ykj v := by
  unfold ykk at h
  split at h
  · cases h; rfl
  · cases h
def ykm (p : List Layer × Int) (x : List Layer) : St := { slots := [(3, .own 0)], heap := [(0, .arr none (.st .layer) x)], nid := 1, n := 20, gh := [] }
def ykn (ρ : Type) (k : Nat) : Nat → Ev ρ → Ev ρ := fun id f => cond (Nat.beq id 0) (loopOrc ykf ykg (fun n nf => cond (Nat.beq n 20) (ykk nf) none) fun pv K => iter (fun v next => I_copiedLayers_g0 k pv.1 v next (fun x => K (.exit 0) (ykm pv.1 x))) k pv.2) ((fun _ _ _ _ => none) id f)
theorem yko {ρ : Type} (k : Nat) (p : List Layer × Int) (v : Int × List Layer) (K K1 : Ex → St → Option ρ) : ev (ykb k) (ykn ρ k) 0 yke (ykj (p, v)) (fun e st' => match e with
    | .normal => (normC ykf ykg st').bind fun nf => K1 .normal (denorm ykf st'.n nf)
    | e => (normC (ykh e) (yki e) st').bind fun nf => K e (denorm (ykh e) st'.n nf)) = I_copiedLayers_g0 k p v (fun v' => K1 .normal (ykj (p, v'))) (fun x => K (.exit 0) (ykm p x)) := by kernel_rfl
theorem ykp {ρ : Type} (k : Nat) : Sound Try.prog (.loop yke) (ykn ρ k 0 fun st K => ev (ykb k) (ykn ρ k) 0 yke st K) :=
  loop_ok (ev_sound (ykc k) yke 0 (lpgood_none (by kernel_rfl))) ykh yki k (g := fun p v next K => I_copiedLayers_g0 k p v next (fun x => K (.exit 0) (ykm p x))) (dec_at ykl) (fun p v K K1 => yko k p v K K1)
def ykq (a : List Layer) : List Arg := [.one (.sl (.st .layer) a)]
def ykr (l : List Arg) : Option (List Layer) := match l with
  | [.one (.sl (.st .layer) b0)] => some b0
  | _ => none
def yks (r : List Layer) : Out := (.own 0, [.arr none (.st .layer) r])
def ykt (o : Out) : Option (List Layer) := match o with
  | (.own 0, [.arr none (.st .layer) z1]) => some z1
  | _ => none
def yku (k : Nat) : PG := fun _ l K => (ykr l).bind fun a => (I_copiedLayers k a).bind fun r => K (yks r)
theorem ykv (k : Nat) (a : List Layer) : ev (ykb k) (ykn (List Layer) k) 0 ykd (st0 Try.f149 (ykq a)) (fin Try.prog Try.f149 (.own (.st .layer)) ykt) = I_copiedLayers k a := by kernel_rfl
theorem ykw (k : Nat) : PureOk Try.prog 149 (yku k) :=
  pureOk_of_ev (ykc k) Try.func149 (by kernel_rfl) (by kernel_rfl) ykq ykr
    (fun l a h => by unfold ykr at h; split at h <;> first | (cases h; rfl) | cases h) (fun a => rfl) (lpgood_of (l := [(0, yke)]) (by kernel_rfl) ⟨ykp k, trivial⟩)
    (fun o r h => by unfold ykt at h; split at h <;> first | (cases h; rfl) | cases h) (ykv k)
def ykx (k : Nat) : Orc := pureOrc [.one (.sl (.st .layer))] (yku k)
theorem yky (k : Nat) : OrcOk Try.prog 149 (ykx k) := pureOrc_ok (ykw k)
noncomputable def ykz (k : Nat) : Env := { P := Try.prog, tt := tt, orc := fun g => cond (Nat.beq g 88) (yia k) (cond (Nat.beq g 92) (yin k) (cond (Nat.beq g 149) (ykx k) (cond (Nat.beq g 150) (yjj k) (noOrc)))), wr := fun g => mem g [150], wt := true }
theorem yl0 (k : Nat) : EnvOk (ykz k) := fun g => (orc_cond (yib k) (orc_cond (yio k) (orc_cond (yky k) (orc_cond (yjk k) (noOrc_ok _ _)))))
noncomputable def yl1 : Code := (Try.f50.body).getD .skip
def yl2 (ρ : Type) (k : Nat) : Nat → Ev ρ → Ev ρ := fun _ _ _ _ => none
def yl3 (a : Model × Model) : List Arg := [.agg [.int .i64 a.1.inp.h, .int .i64 a.1.inp.w, .int .i64 a.1.inp.c, .sl (.st .layer) a.1.layers], .agg [.int .i64 a.2.inp.h, .int .i64 a.2.inp.w, .int .i64 a.2.inp.c, .sl (.st .layer) a.2.layers]]
def yl4 (l : List Arg) : Option (Model × Model) := match l with
  | [.agg [.int .i64 b0_0, .int .i64 b0_1, .int .i64 b0_2, .sl (.st .layer) b0_3], .agg [.int .i64 b1_0, .int .i64 b1_1, .int .i64 b1_2, .sl (.st .layer) b1_3]] => some ((⟨(⟨b0_0, b0_1, b0_2⟩ : Shape), b0_3⟩ : Model), (⟨(⟨b1_0, b1_1, b1_2⟩ : Shape), b1_3⟩ : Model))
  | _ => none
def yl5 (r : Model × Bool) : Out := (.tup [.agg [.r [] (.int .i64 r.1.inp.h), .r [] (.int .i64 r.1.inp.w), .r [] (.int .i64 r.1.inp.c), .own 0], .r [] (.bool r.2)], [.arr none (.st .layer) r.1.layers])
def yl6 (o : Out) : Option (Model × Bool) := match o with
  | (.tup [.agg [.r [] (.int .i64 z1), .r [] (.int .i64 z2), .r [] (.int .i64 z3), .own 0], .r [] (.bool z5)], [.arr none (.st .layer) z4]) => some ((⟨(⟨z1, z2, z3⟩ : Shape), z4⟩ : Model), z5)
  | _ => none
def yl7 (k : Nat) : PG := fun _ l K => (yl4 l).bind fun a => (I_JoinModels k a.1 a.2).bind fun r => K (yl5 r)
theorem yl8 (k : Nat) (a : Model × Model) : ev (ykz k) (yl2 (Model × Bool) k) 0 yl1 (st0 Try.f50 (yl3 a)) (fin Try.prog Try.f50 (.tup [.agg [.sc, .sc, .sc, .own (.st .layer)], .sc]) yl6) = I_JoinModels k a.1 a.2 := by kernel_rfl
theorem yl9 (k : Nat) : PureOk Try.prog 50 (yl7 k) :=
  pureOk_of_ev (yl0 k) Try.func50 (by kernel_rfl) (by kernel_rfl) yl3 yl4
    (fun l a h => by unfold yl4 at h; split at h <;> first | (cases h; rfl) | cases h) (fun a => rfl) (lpgood_none (by kernel_rfl))
    (fun o r h => by unfold yl6 at h; split at h <;> first | (cases h; rfl) | cases h) (yl8 k)
def yla (k : Nat) : Orc := pureOrc [.agg [(.int .i64), (.int .i64), (.int .i64), (.sl (.st .layer))], .agg [(.int .i64), (.int .i64), (.int .i64), (.sl (.st .layer))]] (yl7 k)
theorem ylb (k : Nat) : OrcOk Try.prog 50 (yla k) := pureOrc_ok (yl9 k)
noncomputable def ylc (k : Nat) : Env := { P := Try.prog, tt := tt, orc := fun g => noOrc }
theorem yld (k : Nat) : EnvOk (ylc k) := fun g => (noOrc_ok _ _)
noncomputable def yle : Code := (Try.f151.body).getD .skip
def ylf (ρ : Type) (k : Nat) : Nat → Ev ρ → Ev ρ := fun _ _ _ _ => none
def ylg (a : Shape × Shape) : List Arg := [.agg [.int .i64 a.1.h, .int .i64 a.1.w, .int .i64 a.1.c], .agg [.int .i64 a.2.h, .int .i64 a.2.w, .int .i64 a.2.c]]
def ylh (l : List Arg) : Option (Shape × Shape) := match l with
  | [.agg [.int .i64 b0_0, .int .i64 b0_1, .int .i64 b0_2], .agg [.int .i64 b1_0, .int .i64 b1_1, .int .i64 b1_2]] => some ((⟨b0_0, b0_1, b0_2⟩ : Shape), (⟨b1_0, b1_1, b1_2⟩ : Shape))
  | _ => none
def yli (r : Bool) : Out := (.r [] (.bool r), [])
def ylj (o : Out) : Option (Bool) := match o with
  | (.r [] (.bool z1), []) => some z1
  | _ => none
def ylk (k : Nat) : PG := fun _ l K => (ylh l).bind fun a => (L_eqShape k a.1 a.2).bind fun r => K (yli r)
theorem yll (k : Nat) (a : Shape × Shape) : ev (ylc k) (ylf (Bool) k) 0 yle (st0 Try.f151 (ylg a)) (fin Try.prog Try.f151 (.sc) ylj) = L_eqShape k a.1 a.2 := by kernel_rfl
theorem ylm (k : Nat) : PureOk Try.prog 151 (ylk k) :=
  pureOk_of_ev (yld k) Try.func151 (by kernel_rfl) (by kernel_rfl) ylg ylh
    (fun l a h => by unfold ylh at h; split at h <;> first | (cases h; rfl) | cases h) (fun a => rfl) (lpgood_none (by kernel_rfl))
    (fun o r h => by unfold ylj at h; split at h <;> first | (cases h; rfl) | cases h) (yll k)
def yln (k : Nat) : Orc := pureOrc [.agg [(.int .i64), (.int .i64), (.int .i64)], .agg [(.int .i64), (.int .i64), (.int .i64)]] (ylk k)
theorem ylo (k : Nat) : OrcOk Try.prog 151 (yln k) := pureOrc_ok (ylm k)
noncomputable def ylp (k : Nat) : Env := { P := Try.prog, tt := tt, orc := fun g => noOrc }
theorem ylq (k : Nat) : EnvOk (ylp k) := fun g => (noOrc_ok _ _)
noncomputable def ylr : Code := (Try.f66.body).getD .skip
noncomputable def yls : Code := ((loopsIn 0 ylr).getD 0 (0, .skip)).2
def ylt : List Nat := [0, 1, 5]
def ylu : List (Where × Co) := []
def ylv : Ex → List Nat
  | .exit j => cond (Nat.beq j 0) [] []
  | .ret => [4]
  | .normal => []
def ylw : Ex → List (Where × Co)
  | .exit j => cond (Nat.beq j 0) [] []
  | .ret => []
  | .normal => []
def ylx (pv : (List Int × List Int) × (Int)) : St := { slots := [(0, .r [] (.sl (.int .i64) pv.1.1)), (1, .r [] (.sl (.int .i64) pv.1.2)), (5, .r [] (.int .i64 pv.2))], heap := [], nid := 0, n := 26, gh := [] }
def yly (nf : NF) : Option ((List Int × List Int) × (Int)) := match nf with
  | ([.r [] (.sl (.int .i64) w0), .r [] (.sl (.int .i64) w1), .r [] (.int .i64 w2)], [], []) => some ((w0, w1), w2)
  | _ => none
theorem ylz (nf : NF) (v : (List Int × List Int) × (Int)) (h : yly nf = some v) : denorm ylt 26 nf = ylx v := by
  unfold yly at h
  split at h
  · cases h; rfl
  · cases h
def ym0 (p : List Int × List Int) (x : Unit) : St := { slots := [], heap := [], nid := 0, n := 26, gh := [] }
def ym1 (p : List Int × List Int) (x : Bool) : St := { slots := [(4, .r [] (.bool x))], heap := [], nid := 0, n := 26, gh := [] }
def ym2 (ρ : Type) (k : Nat) : Nat → Ev ρ → Ev ρ := fun id f => cond (Nat.beq id 0) (loopOrc ylt ylu (fun n nf => cond (Nat.beq n 26) (yly nf) none) fun pv K => iter (fun v next => L_eqIntS_g0 k pv.1 v next (fun x => K (.exit 0) (ym0 pv.1 x)) (fun x => K .ret (ym1 pv.1 x))) k pv.2) ((fun _ _ _ _ => none) id f)
theorem ym3 {ρ : Type} (k : Nat) (p : List Int × List Int) (v : Int) (K K1 : Ex → St → Option ρ) : ev (ylp k) (ym2 ρ k) 0 yls (ylx (p, v)) (fun e st' => match e with
    | .normal => (normC ylt ylu st').bind fun nf => K1 .normal (denorm ylt st'.n nf)
    | e => (normC (ylv e) (ylw e) st').bind fun nf => K e (denorm (ylv e) st'.n nf)) = L_eqIntS_g0 k p v (fun v' => K1 .normal (ylx (p, v'))) (fun x => K (.exit 0) (ym0 p x)) (fun x => K .ret (ym1 p x)) := by kernel_rfl
theorem ym4 {ρ : Type} (k : Nat) : Sound Try.prog (.loop yls) (ym2 ρ k 0 fun st K => ev (ylp k) (ym2 ρ k) 0 yls st K) :=
  loop_ok (ev_sound (ylq k) yls 0 (lpgood_none (by kernel_rfl))) ylv ylw k (g := fun p v next K => L_eqIntS_g0 k p v next (fun x => K (.exit 0) (ym0 p x)) (fun x => K .ret (ym1 p x))) (dec_at ylz) (fun p v K K1 => ym3 k p v K K1)
def ym5 (a : List Int × List Int) : List Arg := [.one (.sl (.int .i64) a.1), .one (.sl (.int .i64) a.2)]
def ym6 (l : List Arg) : Option (List Int × List Int) := match l with
  | [.one (.sl (.int .i64) b0), .one (.sl (.int .i64) b1)] => some (b0, b1)
  | _ => none
def ym7 (r : Bool) : Out := (.r [] (.bool r), [])
def ym8 (o : Out) : Option (Bool) := match o with
  | (.r [] (.bool z1), []) => some z1
  | _ => none
def ym9 (k : Nat) : PG := fun _ l K => (ym6 l).bind fun a => (L_eqIntS k a.1 a.2).bind fun r => K (ym7 r)
theorem yma (k : Nat) (a : List Int × List Int) : ev (ylp k) (ym2 (Bool) k) 0 ylr (st0 Try.f66 (ym5 a)) (fin Try.prog Try.f66 (.sc) ym8) = L_eqIntS k a.1 a.2 := by kernel_rfl
theorem ymb (k : Nat) : PureOk Try.prog 66 (ym9 k) :=
  pureOk_of_ev (ylq k) Try.func66 (by kernel_rfl) (by kernel_rfl) ym5 ym6
    (fun l a h => by unfold ym6 at h; split at h <;> first | (cases h; rfl) | cases h) (fun a => rfl) (lpgood_of (l := [(0, yls)]) (by kernel_rfl) ⟨ym4 k, trivial⟩)
    (fun o r h => by unfold ym8 at h; split at h <;> first | (cases h; rfl) | cases h) (yma k)
def ymc (k : Nat) : Orc := pureOrc [.one (.sl (.int .i64)), .one (.sl (.int .i64))] (ym9 k)
theorem ymd (k : Nat) : OrcOk Try.prog 66 (ymc k) := pureOrc_ok (ymb k)
noncomputable def yme (k : Nat) : Env := { P := Try.prog, tt := tt, orc := fun g => cond (Nat.beq g 66) (ymc k) (noOrc) }
theorem ymf (k : Nat) : EnvOk (yme k) := fun g => (orc_cond (ymd k) (noOrc_ok _ _))
noncomputable def ymg : Code := (Try.f207.body).getD .skip
def ymh (ρ : Type) (k : Nat) : Nat → Ev ρ → Ev ρ := fun _ _ _ _ => none
def ymi (a : Layer × Layer) : List Arg := [.agg [.int .i64 a.1.kind, .int .i64 a.1.out, .int .i64 a.1.size, .int .i64 a.1.step, .int .i64 a.1.mult, .int .i64 a.1.shift, .int .i64 a.1.zero, .sl (.int .i64) a.1.weights, .sl (.int .i64) a.1.bias], .agg [.int .i64 a.2.kind, .int .i64 a.2.out, .int .i64 a.2.size, .int .i64 a.2.step, .int .i64 a.2.mult, .int .i64 a.2.shift, .int .i64 a.2.zero, .sl (.int .i64) a.2.weights, .sl (.int .i64) a.2.bias]]
def ymj (l : List Arg) : Option (Layer × Layer) := match l with
  | [.agg [.int .i64 b0_0, .int .i64 b0_1, .int .i64 b0_2, .int .i64 b0_3, .int .i64 b0_4, .int .i64 b0_5, .int .i64 b0_6, .sl (.int .i64) b0_7, .sl (.int .i64) b0_8], .agg [.int .i64 b1_0, .int .i64 b1_1, .int .i64 b1_2, .int .i64 b1_3, .int .i64 b1_4, .int .i64 b1_5, .int .i64 b1_6, .sl (.int .i64) b1_7, .sl (.int .i64) b1_8]] => some ((⟨b0_0, b0_1, b0_2, b0_3, b0_4, b0_5, b0_6, b0_7, b0_8⟩ : Layer), (⟨b1_0, b1_1, b1_2, b1_3, b1_4, b1_5, b1_6, b1_7, b1_8⟩ : Layer))
  | _ => none
def ymk (r : Bool) : Out := (.r [] (.bool r), [])
def yml (o : Out) : Option (Bool) := match o with
  | (.r [] (.bool z1), []) => some z1
  | _ => none
def ymm (k : Nat) : PG := fun _ l K => (ymj l).bind fun a => (L_eqLayer k a.1 a.2).bind fun r => K (ymk r)
theorem ymn (k : Nat) (a : Layer × Layer) : ev (yme k) (ymh (Bool) k) 0 ymg (st0 Try.f207 (ymi a)) (fin Try.prog Try.f207 (.sc) yml) = L_eqLayer k a.1 a.2 := by kernel_rfl
theorem ymo (k : Nat) : PureOk Try.prog 207 (ymm k) :=
  pureOk_of_ev (ymf k) Try.func207 (by kernel_rfl) (by kernel_rfl) ymi ymj
    (fun l a h => by unfold ymj at h; split at h <;> first | (cases h; rfl) | cases h) (fun a => rfl) (lpgood_none (by kernel_rfl))
    (fun o r h => by unfold yml at h; split at h <;> first | (cases h; rfl) | cases h) (ymn k)
def ymp (k : Nat) : Orc := pureOrc [.agg [(.int .i64), (.int .i64), (.int .i64), (.int .i64), (.int .i64), (.int .i64), (.int .i64), (.sl (.int .i64)), (.sl (.int .i64))], .agg [(.int .i64), (.int .i64), (.int .i64), (.int .i64), (.int .i64), (.int .i64), (.int .i64), (.sl (.int .i64)), (.sl (.int .i64))]] (ymm k)
theorem ymq (k : Nat) : OrcOk Try.prog 207 (ymp k) := pureOrc_ok (ymo k)
noncomputable def ymr (k : Nat) : Env := { P := Try.prog, tt := tt, orc := fun g => cond (Nat.beq g 207) (ymp k) (noOrc) }
theorem yms (k : Nat) : EnvOk (ymr k) := fun g => (orc_cond (ymq k) (noOrc_ok _ _))
noncomputable def ymt : Code := (Try.f152.body).getD .skip
noncomputable def ymu : Code := ((loopsIn 0 ymt).getD 0 (0, .skip)).2
def ymv : List Nat := [0, 1, 5]
def ymw : List (Where × Co) := []
def ymx : Ex → List Nat
  | .exit j => cond (Nat.beq j 0) [] []
  | .ret => [4]
  | .normal => []
def ymy : Ex → List (Where × Co)
  | .exit j => cond (Nat.beq j 0) [] []
  | .ret => []
  | .normal => []
def ymz (pv : (List Layer × List Layer) × (Int)) : St := { slots := [(0, .r [] (.sl (.st .layer) pv.1.1)), (1, .r [] (.sl (.st .layer) pv.1.2)), (5, .r [] (.int .i64 pv.2))], heap := [], nid := 0, n := 27, gh := [] }
def yn0 (nf : NF) : Option ((List Layer × List Layer) × (Int)) := match nf with
  | ([.r [] (.sl (.st .layer) w0), .r [] (.sl (.st .layer) w1), .r [] (.int .i64 w2)], [], []) => some ((w0, w1), w2)
  | _ => none
theorem yn1 (nf : NF) (v : (List Layer × List Layer) × (Int)) (h : yn0 nf = some v) : denorm ymv 27 nf = ymz v := by
  unfold yn0 at h
  split at h
  · cases h; rfl
  · cases h
def yn2 (p : List Layer × List Layer) (x : Unit) : St := { slots := [], heap := [], nid := 0, n := 27, gh := [] }
def yn3 (p : List Layer × List Layer) (x : Bool) : St := { slots := [(4, .r [] (.bool x))], heap := [], nid := 0, n := 27, gh := [] }
def yn4 (ρ : Type) (k : Nat) : Nat → Ev ρ → Ev ρ := fun id f => cond (Nat.beq id 0) (loopOrc ymv ymw (fun n nf => cond (Nat.beq n 27) (yn0 nf) none) fun pv K => iter (fun v next => L_eqLayerS_g0 k pv.1 v next (fun x => K (.exit 0) (yn2 pv.1 x)) (fun x => K .ret (yn3 pv.1 x))) k pv.2) ((fun _ _ _ _ => none) id f)
theorem yn5 {ρ : Type} (k : Nat) (p : List Layer × List Layer) (v : Int) (K K1 : Ex → St → Option ρ) : ev (ymr k) (yn4 ρ k) 0 ymu (ymz (p, v)) (fun e st' => match e with
    | .normal => (normC ymv ymw st').bind fun nf => K1 .normal (denorm ymv st'.n nf)
    | e => (normC (ymx e) (ymy e) st').bind fun nf => K e (denorm (ymx e) st'.n nf)) = L_eqLayerS_g0 k p v (fun v' => K1 .normal (ymz (p, v'))) (fun x => K (.exit 0) (yn2 p x)) (fun x => K .ret (yn3 p x)) := by kernel_rfl
theorem yn6 {ρ : Type} (k : Nat) : Sound Try.prog (.loop ymu) (yn4 ρ k 0 fun st K => ev (ymr k) (yn4 ρ k) 0 ymu st K) :=
  loop_ok (ev_sound (yms k) ymu 0 (lpgood_none (by kernel_rfl))) ymx ymy k (g := fun p v next K => L_eqLayerS_g0 k p v next (fun x => K (.exit 0) (yn2 p x)) (fun x => K .ret (yn3 p x))) (dec_at yn1) (fun p v K K1 => yn5 k p v K K1)
def yn7 (a : List Layer × List Layer) : List Arg := [.one (.sl (.st .layer) a.1), .one (.sl (.st .layer) a.2)]
def yn8 (l : List Arg) : Option (List Layer × List Layer) := match l with
  | [.one (.sl (.st .layer) b0), .one (.sl (.st .layer) b1)] => some (b0, b1)
  | _ => none
def yn9 (r : Bool) : Out := (.r [] (.bool r), [])
def yna (o : Out) : Option (Bool) := match o with
  | (.r [] (.bool z1), []) => some z1
  | _ => none
def ynb (k : Nat) : PG := fun _ l K => (yn8 l).bind fun a => (L_eqLayerS k a.1 a.2).bind fun r => K (yn9 r)
theorem ync (k : Nat) (a : List Layer × List Layer) : ev (ymr k) (yn4 (Bool) k) 0 ymt (st0 Try.f152 (yn7 a)) (fin Try.prog Try.f152 (.sc) yna) = L_eqLayerS k a.1 a.2 := by kernel_rfl
theorem ynd (k : Nat) : PureOk Try.prog 152 (ynb k) :=
  pureOk_of_ev (yms k) Try.func152 (by kernel_rfl) (by kernel_rfl) yn7 yn8
    (fun l a h => by unfold yn8 at h; split at h <;> first | (cases h; rfl) | cases h) (fun a => rfl) (lpgood_of (l := [(0, ymu)]) (by kernel_rfl) ⟨yn6 k, trivial⟩)
    (fun o r h => by unfold yna at h; split at h <;> first | (cases h; rfl) | cases h) (ync k)
def yne (k : Nat) : Orc := pureOrc [.one (.sl (.st .layer)), .one (.sl (.st .layer))] (ynb k)
theorem ynf (k : Nat) : OrcOk Try.prog 152 (yne k) := pureOrc_ok (ynd k)
noncomputable def yng (k : Nat) : Env := { P := Try.prog, tt := tt, orc := fun g => cond (Nat.beq g 151) (yln k) (cond (Nat.beq g 152) (yne k) (noOrc)) }
theorem ynh (k : Nat) : EnvOk (yng k) := fun g => (orc_cond (ylo k) (orc_cond (ynf k) (noOrc_ok _ _)))
noncomputable def yni : Code := (Try.f51.body).getD .skip
def ynj (ρ : Type) (k : Nat) : Nat → Ev ρ → Ev ρ := fun _ _ _ _ => none
def ynk (a : Model × Model) : List Arg := [.agg [.int .i64 a.1.inp.h, .int .i64 a.1.inp.w, .int .i64 a.1.inp.c, .sl (.st .layer) a.1.layers], .agg [.int .i64 a.2.inp.h, .int .i64 a.2.inp.w, .int .i64 a.2.inp.c, .sl (.st .layer) a.2.layers]]
def ynl (l : List Arg) : Option (Model × Model) := match l with
  | [.agg [.int .i64 b0_0, .int .i64 b0_1, .int .i64 b0_2, .sl (.st .layer) b0_3], .agg [.int .i64 b1_0, .int .i64 b1_1, .int .i64 b1_2, .sl (.st .layer) b1_3]] => some ((⟨(⟨b0_0, b0_1, b0_2⟩ : Shape), b0_3⟩ : Model), (⟨(⟨b1_0, b1_1, b1_2⟩ : Shape), b1_3⟩ : Model))
  | _ => none
def ynm (r : Bool) : Out := (.r [] (.bool r), [])
def ynn (o : Out) : Option (Bool) := match o with
  | (.r [] (.bool z1), []) => some z1
  | _ => none
def yno (k : Nat) : PG := fun _ l K => (ynl l).bind fun a => (L_eqModel k a.1 a.2).bind fun r => K (ynm r)
theorem ynp (k : Nat) (a : Model × Model) : ev (yng k) (ynj (Bool) k) 0 yni (st0 Try.f51 (ynk a)) (fin Try.prog Try.f51 (.sc) ynn) = L_eqModel k a.1 a.2 := by kernel_rfl
theorem ynq (k : Nat) : PureOk Try.prog 51 (yno k) :=
  pureOk_of_ev (ynh k) Try.func51 (by kernel_rfl) (by kernel_rfl) ynk ynl
    (fun l a h => by unfold ynl at h; split at h <;> first | (cases h; rfl) | cases h) (fun a => rfl) (lpgood_none (by kernel_rfl))
    (fun o r h => by unfold ynn at h; split at h <;> first | (cases h; rfl) | cases h) (ynp k)
def ynr (k : Nat) : Orc := pureOrc [.agg [(.int .i64), (.int .i64), (.int .i64), (.sl (.st .layer))], .agg [(.int .i64), (.int .i64), (.int .i64), (.sl (.st .layer))]] (yno k)
theorem yns (k : Nat) : OrcOk Try.prog 51 (ynr k) := pureOrc_ok (ynq k)
noncomputable def ynt (k : Nat) : Env := { P := Try.prog, tt := tt, orc := fun g => noOrc }
theorem ynu (k : Nat) : EnvOk (ynt k) := fun g => (noOrc_ok _ _)
noncomputable def ynv : Code := (Try.f67.body).getD .skip
noncomputable def ynw : Code := ((loopsIn 0 ynv).getD 0 (0, .skip)).2
def ynx : List Nat := [0, 1, 5]
def yny : List (Where × Co) := []
def ynz : Ex → List Nat
  | .exit j => cond (Nat.beq j 0) [1] []
  | .ret => []
  | .normal => []
def yo0 : Ex → List (Where × Co)
  | .exit j => cond (Nat.beq j 0) [] []
  | .ret => []
  | .normal => []
def yo1 (pv : (Unit) × (Int × Int × List Int)) : St := { slots := [(0, .own 0), (1, .r [] (.int .i64 pv.2.1)), (5, .r [] (.int .i64 pv.2.2.1))], heap := [(0, .arr none (.int .i64) pv.2.2.2)], nid := 1, n := 19, gh := [some 0] }
def yo2 (nf : NF) : Option ((Unit) × (Int × Int × List Int)) := match nf with
  | ([.own 0, .r [] (.int .i64 w0), .r [] (.int .i64 w1)], [.arr none (.int .i64) w2], [some 0]) => some ((), (w0, w1, w2))
  | _ => none
theorem yo3 (nf : NF) (v : (Unit) × (Int × Int × List Int)) (h : yo2 nf = some v) : denorm ynx 19 nf = yo1 v := by
  unfold yo2 at h
  split at h
  · cases h; rfl
  · cases h
def yo4 (p : Unit) (x : Int × List Int) : St := { slots := [(1, .r [] (.int .i64 x.1))], heap := [(0, .arr none (.int .i64) x.2)], nid := 1, n := 19, gh := [some 0] }
def yo5 (ρ : Type) (k : Nat) : Nat → Ev ρ → Ev ρ := fun id f => cond (Nat.beq id 0) (loopOrc ynx yny (fun n nf => cond (Nat.beq n 19) (yo2 nf) none) fun pv K => iter (fun v next => L_markIntS_m3_g0 k pv.1 v next (fun x => K (.exit 0) (yo4 pv.1 x))) k pv.2) ((fun _ _ _ _ => none) id f)
theorem yo6 {ρ : Type} (k : Nat) (p : Unit) (v : Int × Int × List Int) (K K1 : Ex → St → Option ρ) : ev (ynt k) (yo5 ρ k) 0 ynw (yo1 (p, v)) (fun e st' => match e with
    | .normal => (normC ynx yny st').bind fun nf => K1 .normal (denorm ynx st'.n nf)
    | e => (normC (ynz e) (yo0 e) st').bind fun nf => K e (denorm (ynz e) st'.n nf)) = L_markIntS_m3_g0 k p v (fun v' => K1 .normal (yo1 (p, v'))) (fun x => K (.exit 0) (yo4 p x)) := by kernel_rfl
theorem yo7 {ρ : Type} (k : Nat) : Sound Try.prog (.loop ynw) (yo5 ρ k 0 fun st K => ev (ynt k) (yo5 ρ k) 0 ynw st K) :=
  loop_ok (ev_sound (ynu k) ynw 0 (lpgood_none (by kernel_rfl))) ynz yo0 k (g := fun p v next K => L_markIntS_m3_g0 k p v next (fun x => K (.exit 0) (yo4 p x))) (dec_at yo3) (fun p v K K1 => yo6 k p v K K1)
def yo8 (a : List Int × Int) : List SV := [.own 0, .r [] (.int .i64 a.2)]
def yo9 (a : List Int × Int) : List Blk := [.arr none (.int .i64) a.1]
def yoa (l : List SV) (b : List Blk) : Option (List Int × Int) := match l, b with
  | [.own 0, .r [] (.int .i64 w0)], [.arr none (.int .i64) w1] => some (w1, w0)
  | _, _ => none
def yob (a : List Int × Int) (r : Int × List Int) : MOut := ⟨.r [] (.int .i64 r.1), [some (.arr none (.int .i64) r.2)], []⟩
def yoc (a : List Int × Int) (o : MOut) : Option (Int × List Int) := match o with
  | ⟨.r [] (.int .i64 z1), [some (.arr none (.int .i64) z2)], []⟩ => some (z1, z2)
  | _ => none
def yod (k : Nat) : MG := fun _ l b K => (yoa l b).bind fun a => (L_markIntS_m3 k a.1 a.2).bind fun r => K (yob a r)
theorem yoe (k : Nat) (a : List Int × Int) : ev (ynt k) (yo5 (Int × List Int) k) 0 ynv (st0M Try.f67 (yo8 a) (yo9 a)) (finM Try.prog Try.f67 (.sc) [.arr] (yoc a)) = L_markIntS_m3 k a.1 a.2 := by kernel_rfl
theorem yof (k : Nat) : MutOk Try.prog 67 (yod k) :=
  mutOk_of_ev (ynu k) Try.func67 (by kernel_rfl) (by kernel_rfl) yo8 yo9 yoa
    (fun l b a h => by unfold yoa at h; split at h <;> first | (cases h; exact ⟨rfl, rfl⟩) | cases h) (fun a => rfl) (lpgood_of (l := [(0, ynw)]) (by kernel_rfl) ⟨yo7 k, trivial⟩) (fun a r => rfl)
    (fun a o r h => by unfold yoc at h; split at h <;> first | (skip; cases h; rfl) | cases h) (yoe k)
def yog (k : Nat) : Orc := mutOrc [.keep, .keep] (yod k)
theorem yoh (k : Nat) : OrcOk Try.prog 67 (yog k) := mutOrc_ok (yof k)
noncomputable def yoi (k : Nat) : Env := { P := Try.prog, tt := tt, orc := fun g => cond (Nat.beq g 67) (innOrc (yog k)) (noOrc), wr := fun g => mem g [67], wt := true, inn := true }
theorem yoj (k : Nat) : EnvOk (yoi k) := fun g => (orc_cond (innOrc_ok (yoh k)) (noOrc_ok _ _))
noncomputable def yok : Code := (Try.f153.body).getD .skip
noncomputable def yol : Code := ((loopsIn 0 yok).getD 0 (0, .skip)).2
def yom : List Nat := [0, 1, 5]
def yon : List (Where × Co) := []
def yoo : Ex → List Nat
  | .exit j => cond (Nat.beq j 0) [1] []
  | .ret => []
  | .normal => []
def yop : Ex → List (Where × Co)
  | .exit j => cond (Nat.beq j 0) [] []
  | .ret => []
  | .normal => []
def yoq (pv : (Unit) × (Int × Int × List Layer)) : St := { slots := [(0, .own 0), (1, .r [] (.int .i64 pv.2.1)), (5, .r [] (.int .i64 pv.2.2.1))], heap := [(0, .arr none (.st .layer) pv.2.2.2)], nid := 1, n := 76, gh := [some 0] }
def yor (nf : NF) : Option ((Unit) × (Int × Int × List Layer)) := match nf with
  | ([.own 0, .r [] (.int .i64 w0), .r [] (.int .i64 w1)], [.arr none (.st .layer) w2], [some 0]) => some ((), (w0, w1, w2))
  | _ => none
theorem yos (nf : NF) (v : (Unit) × (Int × Int × List Layer)) (h : yor nf = some v) : denorm yom 76 nf = yoq v := by
  unfold yor at h
  split at h
  · cases h; rfl
  · cases h
def yot (p : Unit) (x : Int × List Layer) : St := { slots := [(1, .r [] (.int .i64 x.1))], heap := [(0, .arr none (.st .layer) x.2)], nid := 1, n := 76, gh := [some 0] }
def you (ρ : Type) (k : Nat) : Nat → Ev ρ → Ev ρ := fun id f => cond (Nat.beq id 0) (loopOrc yom yon (fun n nf => cond (Nat.beq n 76) (yor nf) none) fun pv K => iter (fun v next => L_markLayerS_m3_g0 k pv.1 v next (fun x => K (.exit 0) (yot pv.1 x))) k pv.2) ((fun _ _ _ _ => none) id f)
theorem yov {ρ : Type} (k : Nat) (p : Unit) (v : Int × Int × List Layer) (K K1 : Ex → St → Option ρ) : ev (yoi k) (you ρ k) 0 yol (yoq (p, v)) (fun e st' => match e with
    | .normal => (normC yom yon st').bind fun nf => K1 .normal (denorm yom st'.n nf)
    | e => (normC (yoo e) (yop e) st').bind fun nf => K e (denorm (yoo e) st'.n nf)) = L_markLayerS_m3_g0 k p v (fun v' => K1 .normal (yoq (p, v'))) (fun x => K (.exit 0) (yot p x)) := by kernel_rfl
theorem yow {ρ : Type} (k : Nat) : Sound Try.prog (.loop yol) (you ρ k 0 fun st K => ev (yoi k) (you ρ k) 0 yol st K) :=
  loop_ok (ev_sound (yoj k) yol 0 (lpgood_none (by kernel_rfl))) yoo yop k (g := fun p v next K => L_markLayerS_m3_g0 k p v next (fun x => K (.exit 0) (yot p x))) (dec_at yos) (fun p v K K1 => yov k p v K K1)
def yox (a : List Layer × Int) : List SV := [.own 0, .r [] (.int .i64 a.2)]
def yoy (a : List Layer × Int) : List Blk := [.arr none (.st .layer) a.1]
def yoz (l : List SV) (b : List Blk) : Option (List Layer × Int) := match l, b with
  | [.own 0, .r [] (.int .i64 w0)], [.arr none (.st .layer) w1] => some (w1, w0)
  | _, _ => none
def yp0 (a : List Layer × Int) (r : Int × List Layer) : MOut := ⟨.r [] (.int .i64 r.1), [some (.arr none (.st .layer) r.2)], []⟩
def yp1 (a : List Layer × Int) (o : MOut) : Option (Int × List Layer) := match o with
  | ⟨.r [] (.int .i64 z1), [some (.arr none (.st .layer) z2)], []⟩ => some (z1, z2)
  | _ => none
def yp2 (k : Nat) : MG := fun _ l b K => (yoz l b).bind fun a => (L_markLayerS_m3 k a.1 a.2).bind fun r => K (yp0 a r)
theorem yp3 (k : Nat) (a : List Layer × Int) : ev (yoi k) (you (Int × List Layer) k) 0 yok (st0M Try.f153 (yox a) (yoy a)) (finM Try.prog Try.f153 (.sc) [.arr] (yp1 a)) = L_markLayerS_m3 k a.1 a.2 := by kernel_rfl
theorem yp4 (k : Nat) : MutOk Try.prog 153 (yp2 k) :=
  mutOk_of_ev (yoj k) Try.func153 (by kernel_rfl) (by kernel_rfl) yox yoy yoz
    (fun l b a h => by unfold yoz at h; split at h <;> first | (cases h; exact ⟨rfl, rfl⟩) | cases h) (fun a => rfl) (lpgood_of (l := [(0, yol)]) (by kernel_rfl) ⟨yow k, trivial⟩) (fun a r => rfl)
    (fun a o r h => by unfold yp1 at h; split at h <;> first | (skip; cases h; rfl) | cases h) (yp3 k)
def yp5 (k : Nat) : Orc := mutOrc [.keep, .keep] (yp2 k)
theorem yp6 (k : Nat) : OrcOk Try.prog 153 (yp5 k) := mutOrc_ok (yp4 k)
noncomputable def yp7 (k : Nat) : Env := { P := Try.prog, tt := tt, orc := fun g => cond (Nat.beq g 153) (yp5 k) (noOrc), wr := fun g => mem g [153], wt := true }
theorem yp8 (k : Nat) : EnvOk (yp7 k) := fun g => (orc_cond (yp6 k) (noOrc_ok _ _))
noncomputable def yp9 : Code := (Try.f52.body).getD .skip
def ypa (ρ : Type) (k : Nat) : Nat → Ev ρ → Ev ρ := fun _ _ _ _ => none
def ypb (a : Model × Int) : List SV := [.agg [.r [] (.int .i64 a.1.inp.h), .r [] (.int .i64 a.1.inp.w), .r [] (.int .i64 a.1.inp.c), .own 0], .r [] (.int .i64 a.2)]
def ypc (a : Model × Int) : List Blk := [.arr none (.st .layer) a.1.layers]
def ypd (l : List SV) (b : List Blk) : Option (Model × Int) := match l, b with
  | [.agg [.r [] (.int .i64 w0), .r [] (.int .i64 w1), .r [] (.int .i64 w2), .own 0], .r [] (.int .i64 w3)], [.arr none (.st .layer) w4] => some ((⟨(⟨w0, w1, w2⟩ : Shape), w4⟩ : Model), w3)
  | _, _ => none
def ype (a : Model × Int) (r : Int × List Layer) : MOut := ⟨.r [] (.int .i64 r.1), [some (.arr none (.st .layer) r.2)], []⟩
def ypf (a : Model × Int) (o : MOut) : Option (Int × List Layer) := match o with
  | ⟨.r [] (.int .i64 z1), [some (.arr none (.st .layer) z2)], []⟩ => some (z1, z2)
  | _ => none
def ypg (k : Nat) : MG := fun _ l b K => (ypd l b).bind fun a => (L_markModel_m2 k a.1 a.2).bind fun r => K (ype a r)
theorem yph (k : Nat) (a : Model × Int) : ev (yp7 k) (ypa (Int × List Layer) k) 0 yp9 (st0M Try.f52 (ypb a) (ypc a)) (finM Try.prog Try.f52 (.sc) [.arr] (ypf a)) = L_markModel_m2 k a.1 a.2 := by kernel_rfl
theorem ypi (k : Nat) : MutOk Try.prog 52 (ypg k) :=
  mutOk_of_ev (yp8 k) Try.func52 (by kernel_rfl) (by kernel_rfl) ypb ypc ypd
    (fun l b a h => by unfold ypd at h; split at h <;> first | (cases h; exact ⟨rfl, rfl⟩) | cases h) (fun a => rfl) (lpgood_none (by kernel_rfl)) (fun a r => rfl)
    (fun a o r h => by unfold ypf at h; split at h <;> first | (skip; cases h; rfl) | cases h) (yph k)
def ypj (k : Nat) : Orc := mutOrc [.keep, .keep] (ypg k)
theorem ypk (k : Nat) : OrcOk Try.prog 52 (ypj k) := mutOrc_ok (ypi k)
noncomputable def ypl (k : Nat) : Env := { P := Try.prog, tt := tt, orc := fun g => noOrc }
theorem ypm (k : Nat) : EnvOk (ypl k) := fun g => (noOrc_ok _ _)
noncomputable def ypn : Code := (Try.f68.body).getD .skip
noncomputable def ypo : Code := ((loopsIn 0 ypn).getD 0 (0, .skip)).2
def ypp : List Nat := [0, 1, 5]
def ypq : List (Where × Co) := []
def ypr : Ex → List Nat
  | .exit j => cond (Nat.beq j 0) [1] []
  | .ret => [4]
  | .normal => []
def yps : Ex → List (Where × Co)
  | .exit j => cond (Nat.beq j 0) [] []
  | .ret => []
  | .normal => []
def ypt (pv : (List Int) × (Int × Int)) : St := { slots := [(0, .r [] (.sl (.int .i64) pv.1)), (1, .r [] (.int .i64 pv.2.1)), (5, .r [] (.int .i64 pv.2.2))], heap := [], nid := 0, n := 21, gh := [] }
def ypu (nf : NF) : Option ((List Int) × (Int × Int)) := match nf with
  | ([.r [] (.sl (.int .i64) w0), .r [] (.int .i64 w1), .r [] (.int .i64 w2)], [], []) => some (w0, (w1, w2))
  | _ => none
theorem ypv (nf : NF) (v : (List Int) × (Int × Int)) (h : ypu nf = some v) : denorm ypp 21 nf = ypt v := by
  unfold ypu at h
  split at h
  · cases h; rfl
  · cases h
def ypw (p : List Int) (x : Int) : St := { slots := [(1, .r [] (.int .i64 x))], heap := [], nid := 0, n := 21, gh := [] }
def ypx (p : List Int) (x : Int) : St := { slots := [(4, .r [] (.int .i64 x))], heap := [], nid := 0, n := 21, gh := [] }
def ypy (ρ : Type) (k : Nat) : Nat → Ev ρ → Ev ρ := fun id f => cond (Nat.beq id 0) (loopOrc ypp ypq (fun n nf => cond (Nat.beq n 21) (ypu nf) none) fun pv K => iter (fun v next => L_heldIntS_g0 k pv.1 v next (fun x => K (.exit 0) (ypw pv.1 x)) (fun x => K .ret (ypx pv.1 x))) k pv.2) ((fun _ _ _ _ => none) id f)
theorem ypz {ρ : Type} (k : Nat) (p : List Int) (v : Int × Int) (K K1 : Ex → St → Option ρ) : ev (ypl k) (ypy ρ k) 0 ypo (ypt (p, v)) (fun e st' => match e with
    | .normal => (normC ypp ypq st').bind fun nf => K1 .normal (denorm ypp st'.n nf)
    | e => (normC (ypr e) (yps e) st').bind fun nf => K e (denorm (ypr e) st'.n nf)) = L_heldIntS_g0 k p v (fun v' => K1 .normal (ypt (p, v'))) (fun x => K (.exit 0) (ypw p x)) (fun x => K .ret (ypx p x)) := by kernel_rfl
theorem yq0 {ρ : Type} (k : Nat) : Sound Try.prog (.loop ypo) (ypy ρ k 0 fun st K => ev (ypl k) (ypy ρ k) 0 ypo st K) :=
  loop_ok (ev_sound (ypm k) ypo 0 (lpgood_none (by kernel_rfl))) ypr yps k (g := fun p v next K => L_heldIntS_g0 k p v next (fun x => K (.exit 0) (ypw p x)) (fun x => K .ret (ypx p x))) (dec_at ypv) (fun p v K K1 => ypz k p v K K1)
def yq1 (a : List Int × Int) : List Arg := [.one (.sl (.int .i64) a.1), .one (.int .i64 a.2)]
def yq2 (l : List Arg) : Option (List Int × Int) := match l with
  | [.one (.sl (.int .i64) b0), .one (.int .i64 b1)] => some (b0, b1)
  | _ => none
def yq3 (r : Int) : Out := (.r [] (.int .i64 r), [])
def yq4 (o : Out) : Option (Int) := match o with
  | (.r [] (.int .i64 z1), []) => some z1
  | _ => none
def yq5 (k : Nat) : PG := fun _ l K => (yq2 l).bind fun a => (L_heldIntS k a.1 a.2).bind fun r => K (yq3 r)
theorem yq6 (k : Nat) (a : List Int × Int) : ev (ypl k) (ypy (Int) k) 0 ypn (st0 Try.f68 (yq1 a)) (fin Try.prog Try.f68 (.sc) yq4) = L_heldIntS k a.1 a.2 := by kernel_rfl
theorem yq7 (k : Nat) : PureOk Try.prog 68 (yq5 k) :=
  pureOk_of_ev (ypm k) Try.func68 (by kernel_rfl) (by kernel_rfl) yq1 yq2
    (fun l a h => by unfold yq2 at h; split at h <;> first | (cases h; rfl) | cases h) (fun a => rfl) (lpgood_of (l := [(0, ypo)]) (by kernel_rfl) ⟨yq0 k, trivial⟩)
    (fun o r h => by unfold yq4 at h; split at h <;> first | (cases h; rfl) | cases h) (yq6 k)
def yq8 (k : Nat) : Orc := pureOrc [.one (.sl (.int .i64)), .one (.int .i64)] (yq5 k)
theorem yq9 (k : Nat) : OrcOk Try.prog 68 (yq8 k) := pureOrc_ok (yq7 k)
noncomputable def yqa (k : Nat) : Env := { P := Try.prog, tt := tt, orc := fun g => cond (Nat.beq g 68) (yq8 k) (noOrc) }
theorem yqb (k : Nat) : EnvOk (yqa k) := fun g => (orc_cond (yq9 k) (noOrc_ok _ _))
noncomputable def yqc : Code := (Try.f154.body).getD .skip
noncomputable def yqd : Code := ((loopsIn 0 yqc).getD 0 (0, .skip)).2
def yqe : List Nat := [0, 1, 5]
def yqf : List (Where × Co) := []
def yqg : Ex → List Nat
  | .exit j => cond (Nat.beq j 0) [1] []
  | .ret => [4]
  | .normal => []
def yqh : Ex → List (Where × Co)
  | .exit j => cond (Nat.beq j 0) [] []
  | .ret => []
  | .normal => []
def yqi (pv : (List Layer) × (Int × Int)) : St := { slots := [(0, .r [] (.sl (.st .layer) pv.1)), (1, .r [] (.int .i64 pv.2.1)), (5, .r [] (.int .i64 pv.2.2))], heap := [], nid := 0, n := 94, gh := [] }
def yqj (nf : NF) : Option ((List Layer) × (Int × Int)) := match nf with
  | ([.r [] (.sl (.st .layer) w0), .r [] (.int .i64 w1), .r [] (.int .i64 w2)], [], []) => some (w0, (w1, w2))
  | _ => none
theorem yqk (nf : NF) (v : (List Layer) × (Int × Int)) (h : yqj nf = some v) : denorm yqe 94 nf = yqi v := by
  unfold yqj at h
  split at h
  · cases h; rfl
  · cases h
def yql (p : List Layer) (x : Int) : St := { slots := [(1, .r [] (.int .i64 x))], heap := [], nid := 0, n := 94, gh := [] }
def yqm (p : List Layer) (x : Int) : St := { slots := [(4, .r [] (.int .i64 x))], heap := [], nid := 0, n := 94, gh := [] }
def yqn (ρ : Type) (k : Nat) : Nat → Ev ρ → Ev ρ := fun id f => cond (Nat.beq id 0) (loopOrc yqe yqf (fun n nf => cond (Nat.beq n 94) (yqj nf) none) fun pv K => iter (fun v next => L_heldLayerS_g0 k pv.1 v next (fun x => K (.exit 0) (yql pv.1 x)) (fun x => K .ret (yqm pv.1 x))) k pv.2) ((fun _ _ _ _ => none) id f)
theorem yqo {ρ : Type} (k : Nat) (p : List Layer) (v : Int × Int) (K K1 : Ex → St → Option ρ) : ev (yqa k) (yqn ρ k) 0 yqd (yqi (p, v)) (fun e st' => match e with
    | .normal => (normC yqe yqf st').bind fun nf => K1 .normal (denorm yqe st'.n nf)
    | e => (normC (yqg e) (yqh e) st').bind fun nf => K e (denorm (yqg e) st'.n nf)) = L_heldLayerS_g0 k p v (fun v' => K1 .normal (yqi (p, v'))) (fun x => K (.exit 0) (yql p x)) (fun x => K .ret (yqm p x)) := by kernel_rfl
theorem yqp {ρ : Type} (k : Nat) : Sound Try.prog (.loop yqd) (yqn ρ k 0 fun st K => ev (yqa k) (yqn ρ k) 0 yqd st K) :=
  loop_ok (ev_sound (yqb k) yqd 0 (lpgood_none (by kernel_rfl))) yqg yqh k (g := fun p v next K => L_heldLayerS_g0 k p v next (fun x => K (.exit 0) (yql p x)) (fun x => K .ret (yqm p x))) (dec_at yqk) (fun p v K K1 => yqo k p v K K1)
def yqq (a : List Layer × Int) : List Arg := [.one (.sl (.st .layer) a.1), .one (.int .i64 a.2)]
def yqr (l : List Arg) : Option (List Layer × Int) := match l with
  | [.one (.sl (.st .layer) b0), .one (.int .i64 b1)] => some (b0, b1)
  | _ => none
def yqs (r : Int) : Out := (.r [] (.int .i64 r), [])
def yqt (o : Out) : Option (Int) := match o with
  | (.r [] (.int .i64 z1), []) => some z1
  | _ => none
def yqu (k : Nat) : PG := fun _ l K => (yqr l).bind fun a => (L_heldLayerS k a.1 a.2).bind fun r => K (yqs r)
theorem yqv (k : Nat) (a : List Layer × Int) : ev (yqa k) (yqn (Int) k) 0 yqc (st0 Try.f154 (yqq a)) (fin Try.prog Try.f154 (.sc) yqt) = L_heldLayerS k a.1 a.2 := by kernel_rfl
theorem yqw (k : Nat) : PureOk Try.prog 154 (yqu k) :=
  pureOk_of_ev (yqb k) Try.func154 (by kernel_rfl) (by kernel_rfl) yqq yqr
    (fun l a h => by unfold yqr at h; split at h <;> first | (cases h; rfl) | cases h) (fun a => rfl) (lpgood_of (l := [(0, yqd)]) (by kernel_rfl) ⟨yqp k, trivial⟩)
    (fun o r h => by unfold yqt at h; split at h <;> first | (cases h; rfl) | cases h) (yqv k)
def yqx (k : Nat) : Orc := pureOrc [.one (.sl (.st .layer)), .one (.int .i64)] (yqu k)
theorem yqy (k : Nat) : OrcOk Try.prog 154 (yqx k) := pureOrc_ok (yqw k)
noncomputable def yqz (k : Nat) : Env := { P := Try.prog, tt := tt, orc := fun g => cond (Nat.beq g 154) (yqx k) (noOrc) }
theorem yr0 (k : Nat) : EnvOk (yqz k) := fun g => (orc_cond (yqy k) (noOrc_ok _ _))
noncomputable def yr1 : Code := (Try.f53.body).getD .skip
def yr2 (ρ : Type) (k : Nat) : Nat → Ev ρ → Ev ρ := fun _ _ _ _ => none
def yr3 (a : Model × Int) : List Arg := [.agg [.int .i64 a.1.inp.h, .int .i64 a.1.inp.w, .int .i64 a.1.inp.c, .sl (.st .layer) a.1.layers], .one (.int .i64 a.2)]
def yr4 (l : List Arg) : Option (Model × Int) := match l with
  | [.agg [.int .i64 b0_0, .int .i64 b0_1, .int .i64 b0_2, .sl (.st .layer) b0_3], .one (.int .i64 b1)] => some ((⟨(⟨b0_0, b0_1, b0_2⟩ : Shape), b0_3⟩ : Model), b1)
  | _ => none
def yr5 (r : Int) : Out := (.r [] (.int .i64 r), [])
def yr6 (o : Out) : Option (Int) := match o with
  | (.r [] (.int .i64 z1), []) => some z1
  | _ => none
def yr7 (k : Nat) : PG := fun _ l K => (yr4 l).bind fun a => (L_heldModel k a.1 a.2).bind fun r => K (yr5 r)
theorem yr8 (k : Nat) (a : Model × Int) : ev (yqz k) (yr2 (Int) k) 0 yr1 (st0 Try.f53 (yr3 a)) (fin Try.prog Try.f53 (.sc) yr6) = L_heldModel k a.1 a.2 := by kernel_rfl
theorem yr9 (k : Nat) : PureOk Try.prog 53 (yr7 k) :=
  pureOk_of_ev (yr0 k) Try.func53 (by kernel_rfl) (by kernel_rfl) yr3 yr4
    (fun l a h => by unfold yr4 at h; split at h <;> first | (cases h; rfl) | cases h) (fun a => rfl) (lpgood_none (by kernel_rfl))
    (fun o r h => by unfold yr6 at h; split at h <;> first | (cases h; rfl) | cases h) (yr8 k)
def yra (k : Nat) : Orc := pureOrc [.agg [(.int .i64), (.int .i64), (.int .i64), (.sl (.st .layer))], .one (.int .i64)] (yr7 k)
theorem yrb (k : Nat) : OrcOk Try.prog 53 (yra k) := pureOrc_ok (yr9 k)
noncomputable def yrc (k : Nat) : Env := { P := Try.prog, tt := tt, orc := fun g => cond (Nat.beq g 47) (y23 k) (cond (Nat.beq g 48) (yav k) (cond (Nat.beq g 49) (y4m k) (cond (Nat.beq g 50) (yla k) (cond (Nat.beq g 51) (ynr k) (cond (Nat.beq g 52) (ypj k) (cond (Nat.beq g 53) (yra k) (noOrc))))))), wr := fun g => mem g [52], wt := true }
theorem yrd (k : Nat) : EnvOk (yrc k) := fun g => (orc_cond (y25 k) (orc_cond (yaw k) (orc_cond (y4n k) (orc_cond (ylb k) (orc_cond (yns k) (orc_cond (ypk k) (orc_cond (yrb k) (noOrc_ok _ _))))))))
noncomputable def yre : Code := (Try.f8.body).getD .skip
def yrf (ρ : Type) (k : Nat) : Nat → Ev ρ → Ev ρ := fun _ _ _ _ => none
def yrg (a : Model × Model) : List Arg := [.agg [.int .i64 a.1.inp.h, .int .i64 a.1.inp.w, .int .i64 a.1.inp.c, .sl (.st .layer) a.1.layers], .agg [.int .i64 a.2.inp.h, .int .i64 a.2.inp.w, .int .i64 a.2.inp.c, .sl (.st .layer) a.2.layers]]
def yrh (l : List Arg) : Option (Model × Model) := match l with
  | [.agg [.int .i64 b0_0, .int .i64 b0_1, .int .i64 b0_2, .sl (.st .layer) b0_3], .agg [.int .i64 b1_0, .int .i64 b1_1, .int .i64 b1_2, .sl (.st .layer) b1_3]] => some ((⟨(⟨b0_0, b0_1, b0_2⟩ : Shape), b0_3⟩ : Model), (⟨(⟨b1_0, b1_1, b1_2⟩ : Shape), b1_3⟩ : Model))
  | _ => none
def yri (r : Bool) : Out := (.r [] (.bool r), [])
def yrj (o : Out) : Option (Bool) := match o with
  | (.r [] (.bool z1), []) => some z1
  | _ => none
def yrk (k : Nat) : PG := fun _ l K => (yrh l).bind fun a => (L_FnExactJoinModels k a.1 a.2).bind fun r => K (yri r)
theorem yrl (k : Nat) (a : Model × Model) : ev (yrc k) (yrf (Bool) k) 0 yre (st0 Try.f8 (yrg a)) (fin Try.prog Try.f8 (.sc) yrj) = L_FnExactJoinModels k a.1 a.2 := by kernel_rfl
theorem yrm (k : Nat) : PureOk Try.prog 8 (yrk k) :=
  pureOk_of_ev (yrd k) Try.func8 (by kernel_rfl) (by kernel_rfl) yrg yrh
    (fun l a h => by unfold yrh at h; split at h <;> first | (cases h; rfl) | cases h) (fun a => rfl) (lpgood_none (by kernel_rfl))
    (fun o r h => by unfold yrj at h; split at h <;> first | (cases h; rfl) | cases h) (yrl k)
end
end Go.Proofs.Ev
