/- Text of this claim. -/
import Derived.Test.YtcohhbpegbhcgaaEvK5
import Derived.Test.YtcohhbpegbhcgaaProg
import Derived.Test.YtcohhbpegbhcgaaEvD1
import Derived.Test.YtcohhbpegbhcgaaEvD10
import Derived.Test.YtcohhbpegbhcgaaEvD2
import Derived.Test.YtcohhbpegbhcgaaEvD3
import Derived.Test.YtcohhbpegbhcgaaEvD5
import Derived.Test.YtcohhbpegbhcgaaEvD9
set_option linter.unusedVariables false
set_option linter.unusedSimpArgs false
set_option linter.unusedVariables false
set_option linter.unusedSimpArgs false
set_option maxRecDepth 100000
set_option maxHeartbeats 4000000
namespace Go.Proofs.Ev
noncomputable section
variable [Tok]
set_option linter.unusedSectionVars false
def tt : TT := look [(2, (.int .i64)), (3, (.int .i64)), (4, .bool), (5, (.int .u8)), (6, (.int .u8)), (9, .str), (10, .str), (11, .str), (12, (.int .u64)), (21, (.int .i32)), (23, (.st .shape)), (24, (.sl (.st .layer))), (26, (.st .model)), (27, (.sl (.st .tensor))), (30, (.sl (.st .tensor))), (33, (.st .shape)), (34, (.sl (.st .layer))), (36, (.st .model)), (49, (.sl (.int .i64))), (51, (.st .tensor)), (54, (.st .tensor)), (65, (.sl (.st .shape))), (71, (.st .layer)), (77, (.st .layer)), (90, (.sl (.sl (.st .layer)))), (113, (.int .u64)), (121, (.int .u32)), (122, (.int .u8)), (123, (.int .u8)), (126, (.int .i32)), (127, (.int .i32))]
noncomputable def ya (k : Nat) : Env := { P := Try.prog, tt := tt, orc := fun g => noOrc }
theorem yb (k : Nat) : EnvOk (ya k) := fun g => (noOrc_ok _ _)
noncomputable def yc : Code := (Try.f44.body).getD .skip
def yd (ρ : Type) (k : Nat) : Nat → Ev ρ → Ev ρ := fun _ _ _ _ => none
def ye (a : List Int × Int) : List Arg := [.one (.sl (.int .i64) a.1), .one (.int .i64 a.2)]
def yf (l : List Arg) : Option (List Int × Int) := match l with
  | [.one (.sl (.int .i64) b0), .one (.int .i64 b1)] => some (b0, b1)
  | _ => none
def yg (r : Int) : Out := (.r [] (.int .i64 r), [])
def yh (o : Out) : Option (Int) := match o with
  | (.r [] (.int .i64 z1), []) => some z1
  | _ => none
def yi (k : Nat) : PG := fun _ l K => (yf l).bind fun a => (L_szIntS k a.1 a.2).bind fun r => K (yg r)
theorem yj (k : Nat) (a : List Int × Int) : ev (ya k) (yd (Int) k) 0 yc (st0 Try.f44 (ye a)) (fin Try.prog Try.f44 (.sc) yh) = L_szIntS k a.1 a.2 := by kernel_rfl
theorem yk (k : Nat) : PureOk Try.prog 44 (yi k) :=
  pureOk_of_ev (yb k) Try.func44 (by kernel_rfl) (by kernel_rfl) ye yf
    (fun l a h => by unfold yf at h; split at h <;> first | (cases h; rfl) | cases h) (fun a => rfl) (lpgood_none (by kernel_rfl))
    (fun o r h => by unfold yh at h; split at h <;> first | (cases h; rfl) | cases h) (yj k)
def yl (k : Nat) : Orc := pureOrc [.one (.sl (.int .i64)), .one (.int .i64)] (yi k)
theorem ym (k : Nat) : OrcOk Try.prog 44 (yl k) := pureOrc_ok (yk k)
noncomputable def yn (k : Nat) : Env := { P := Try.prog, tt := tt, orc := fun g => cond (Nat.beq g 44) (yl k) (noOrc) }
theorem yo (k : Nat) : EnvOk (yn k) := fun g => (orc_cond (ym k) (noOrc_ok _ _))
noncomputable def yp : Code := (Try.f43.body).getD .skip
def yq (ρ : Type) (k : Nat) : Nat → Ev ρ → Ev ρ := fun _ _ _ _ => none
def yr (a : Layer × Int) : List Arg := [.agg [.int .i64 a.1.kind, .int .i64 a.1.out, .int .i64 a.1.size, .int .i64 a.1.step, .int .i64 a.1.mult, .int .i64 a.1.shift, .int .i64 a.1.zero, .sl (.int .i64) a.1.weights, .sl (.int .i64) a.1.bias], .one (.int .i64 a.2)]
def yt (l : List Arg) : Option (Layer × Int) := match l with
  | [.agg [.int .i64 b0_0, .int .i64 b0_1, .int .i64 b0_2, .int .i64 b0_3, .int .i64 b0_4, .int .i64 b0_5, .int .i64 b0_6, .sl (.int .i64) b0_7, .sl (.int .i64) b0_8], .one (.int .i64 b1)] => some ((⟨b0_0, b0_1, b0_2, b0_3, b0_4, b0_5, b0_6, b0_7, b0_8⟩ : Layer), b1)
  | _ => none
def yu (r : Int) : Out := (.r [] (.int .i64 r), [])
def yv (o : Out) : Option (Int) := match o with
  | (.r [] (.int .i64 z1), []) => some z1
  | _ => none
def yw (k : Nat) : PG := fun _ l K => (yt l).bind fun a => (L_szLayer k a.1 a.2).bind fun r => K (yu r)
theorem yx (k : Nat) (a : Layer × Int) : ev (yn k) (yq (Int) k) 0 yp (st0 Try.f43 (yr a)) (fin Try.prog Try.f43 (.sc) yv) = L_szLayer k a.1 a.2 := by kernel_rfl
theorem yy (k : Nat) : PureOk Try.prog 43 (yw k) :=
  pureOk_of_ev (yo k) Try.func43 (by kernel_rfl) (by kernel_rfl) yr yt
    (fun l a h => by unfold yt at h; split at h <;> first | (cases h; rfl) | cases h) (fun a => rfl) (lpgood_none (by kernel_rfl))
    (fun o r h => by unfold yv at h; split at h <;> first | (cases h; rfl) | cases h) (yx k)
def yz (k : Nat) : Orc := pureOrc [.agg [(.int .i64), (.int .i64), (.int .i64), (.int .i64), (.int .i64), (.int .i64), (.int .i64), (.sl (.int .i64)), (.sl (.int .i64))], .one (.int .i64)] (yw k)
theorem y10 (k : Nat) : OrcOk Try.prog 43 (yz k) := pureOrc_ok (yy k)
noncomputable def y14 (k : Nat) : Env := { P := Try.prog, tt := tt, orc := fun g => cond (Nat.beq g 43) (yz k) (noOrc) }
theorem y16 (k : Nat) : EnvOk (y14 k) := fun g => (orc_cond (y10 k) (noOrc_ok _ _))
noncomputable def y17 : Code := (Try.f19.body).getD .skip
noncomputable def y18 : Code := ((loopsIn 0 y17).getD 0 (0, .skip)).2
def y19 : List Nat := [0, 1, 5]
def y1a : List (Where × Co) := []
def y1b : Ex → List Nat
  | .exit j => cond (Nat.beq j 0) [1] []
  | .ret => [4]
  | .normal => []
def y1c : Ex → List (Where × Co)
  | .exit j => cond (Nat.beq j 0) [] []
  | .ret => []
  | .normal => []
def y1d (pv : (List Layer) × (Int × Int)) : St := { slots := [(0, .r [] (.sl (.st .layer) pv.1)), (1, .r [] (.int .i64 pv.2.1)), (5, .r [] (.int .i64 pv.2.2))], heap := [], nid := 0, n := 27, gh := [] }
def y1e (nf : NF) : Option ((List Layer) × (Int × Int)) := match nf with
  | ([.r [] (.sl (.st .layer) w0), .r [] (.int .i64 w1), .r [] (.int .i64 w2)], [], []) => some (w0, (w1, w2))
  | _ => none
theorem y1f (nf : NF) (v : (List Layer) × (Int × Int)) (h : y1e nf = some v) : denorm y19 27 nf = y1d v := by
  unfold y1e at h
  split at h
  · cases h; rfl
  · cases h
def y1g (p : List Layer) (x : Int) : St := { slots := [(1, .r [] (.int .i64 x))], heap := [], nid := 0, n := 27, gh := [] }
def y1h (p : List Layer) (x : Int) : St := { slots := [(4, .r [] (.int .i64 x))], heap := [], nid := 0, n := 27, gh := [] }
def y1i (ρ : Type) (k : Nat) : Nat → Ev ρ → Ev ρ := fun id f => cond (Nat.beq id 0) (loopOrc y19 y1a (fun n nf => cond (Nat.beq n 27) (y1e nf) none) fun pv K => iter (fun v next => L_szLayerS_g0 k pv.1 v next (fun x => K (.exit 0) (y1g pv.1 x)) (fun x => K .ret (y1h pv.1 x))) k pv.2) ((fun _ _ _ _ => none) id f)
theorem y1j {ρ : Type} (k : Nat) (p : List Layer) (v : Int × Int) (K K1 : Ex → St → Option ρ) : ev (y14 k) (y1i ρ k) 0 y18 (y1d (p, v)) (fun e st' => match e with
    | .normal => (normC y19 y1a st').bind fun nf => K1 .normal (denorm y19 st'.n nf)
    | e => (normC (y1b e) (y1c e) st').bind fun nf => K e (denorm (y1b e) st'.n nf)) = L_szLayerS_g0 k p v (fun v' => K1 .normal (y1d (p, v'))) (fun x => K (.exit 0) (y1g p x)) (fun x => K .ret (y1h p x)) := by kernel_rfl
theorem y1k {ρ : Type} (k : Nat) : Sound Try.prog (.loop y18) (y1i ρ k 0 fun st K => ev (y14 k) (y1i ρ k) 0 y18 st K) :=
  loop_ok (ev_sound (y16 k) y18 0 (lpgood_none (by kernel_rfl))) y1b y1c k (g := fun p v next K => L_szLayerS_g0 k p v next (fun x => K (.exit 0) (y1g p x)) (fun x => K .ret (y1h p x))) (dec_at y1f) (fun p v K K1 => y1j k p v K K1)
def y1l (a : List Layer × Int) : List Arg := [.one (.sl (.st .layer) a.1), .one (.int .i64 a.2)]
def y1m (l : List Arg) : Option (List Layer × Int) := match l with
  | [.one (.sl (.st .layer) b0), .one (.int .i64 b1)] => some (b0, b1)
  | _ => none
def y1n (r : Int) : Out := (.r [] (.int .i64 r), [])
def y1o (o : Out) : Option (Int) := match o with
  | (.r [] (.int .i64 z1), []) => some z1
  | _ => none
def y1p (k : Nat) : PG := fun _ l K => (y1m l).bind fun a => (L_szLayerS k a.1 a.2).bind fun r => K (y1n r)
theorem y1q (k : Nat) (a : List Layer × Int) : ev (y14 k) (y1i (Int) k) 0 y17 (st0 Try.f19 (y1l a)) (fin Try.prog Try.f19 (.sc) y1o) = L_szLayerS k a.1 a.2 := by kernel_rfl
theorem y1r (k : Nat) : PureOk Try.prog 19 (y1p k) :=
  pureOk_of_ev (y16 k) Try.func19 (by kernel_rfl) (by kernel_rfl) y1l y1m
    (fun l a h => by unfold y1m at h; split at h <;> first | (cases h; rfl) | cases h) (fun a => rfl) (lpgood_of (l := [(0, y18)]) (by kernel_rfl) ⟨y1k k, trivial⟩)
    (fun o r h => by unfold y1o at h; split at h <;> first | (cases h; rfl) | cases h) (y1q k)
def y1s (k : Nat) : Orc := pureOrc [.one (.sl (.st .layer)), .one (.int .i64)] (y1p k)
theorem y1t (k : Nat) : OrcOk Try.prog 19 (y1s k) := pureOrc_ok (y1r k)
noncomputable def y1u (k : Nat) : Env := { P := Try.prog, tt := tt, orc := fun g => cond (Nat.beq g 19) (y1s k) (noOrc) }
theorem y1v (k : Nat) : EnvOk (y1u k) := fun g => (orc_cond (y1t k) (noOrc_ok _ _))
noncomputable def y1w : Code := (Try.f5.body).getD .skip
def y1x (ρ : Type) (k : Nat) : Nat → Ev ρ → Ev ρ := fun _ _ _ _ => none
def y1y (a : Model × Int) : List Arg := [.agg [.int .i64 a.1.inp.h, .int .i64 a.1.inp.w, .int .i64 a.1.inp.c, .sl (.st .layer) a.1.layers], .one (.int .i64 a.2)]
def y1z (l : List Arg) : Option (Model × Int) := match l with
  | [.agg [.int .i64 b0_0, .int .i64 b0_1, .int .i64 b0_2, .sl (.st .layer) b0_3], .one (.int .i64 b1)] => some ((⟨(⟨b0_0, b0_1, b0_2⟩ : Shape), b0_3⟩ : Model), b1)
  | _ => none
def y20 (r : Int) : Out := (.r [] (.int .i64 r), [])
def y21 (o : Out) : Option (Int) := match o with
  | (.r [] (.int .i64 z1), []) => some z1
  | _ => none
def y23 (k : Nat) : PG := fun _ l K => (y1z l).bind fun a => (L_szModel k a.1 a.2).bind fun r => K (y20 r)
theorem y25 (k : Nat) (a : Model × Int) : ev (y1u k) (y1x (Int) k) 0 y1w (st0 Try.f5 (y1y a)) (fin Try.prog Try.f5 (.sc) y21) = L_szModel k a.1 a.2 := by kernel_rfl
theorem y29 (k : Nat) : PureOk Try.prog 5 (y23 k) :=
  pureOk_of_ev (y1v k) Try.func5 (by kernel_rfl) (by kernel_rfl) y1y y1z
    (fun l a h => by unfold y1z at h; split at h <;> first | (cases h; rfl) | cases h) (fun a => rfl) (lpgood_none (by kernel_rfl))
    (fun o r h => by unfold y21 at h; split at h <;> first | (cases h; rfl) | cases h) (y25 k)
def y2a (k : Nat) : Orc := pureOrc [.agg [(.int .i64), (.int .i64), (.int .i64), (.sl (.st .layer))], .one (.int .i64)] (y23 k)
theorem y2b (k : Nat) : OrcOk Try.prog 5 (y2a k) := pureOrc_ok (y29 k)
noncomputable def y2c (k : Nat) : Env := { P := Try.prog, tt := tt, orc := fun g => cond (Nat.beq g 44) (yl k) (noOrc) }
theorem y2d (k : Nat) : EnvOk (y2c k) := fun g => (orc_cond (ym k) (noOrc_ok _ _))
noncomputable def y2e : Code := (Try.f20.body).getD .skip
def y2f (ρ : Type) (k : Nat) : Nat → Ev ρ → Ev ρ := fun _ _ _ _ => none
def y2g (a : Tensor × Int) : List Arg := [.agg [.int .i64 a.1.sh.h, .int .i64 a.1.sh.w, .int .i64 a.1.sh.c, .sl (.int .i64) a.1.data], .one (.int .i64 a.2)]
def y2h (l : List Arg) : Option (Tensor × Int) := match l with
  | [.agg [.int .i64 b0_0, .int .i64 b0_1, .int .i64 b0_2, .sl (.int .i64) b0_3], .one (.int .i64 b1)] => some ((⟨(⟨b0_0, b0_1, b0_2⟩ : Shape), b0_3⟩ : Tensor), b1)
  | _ => none
def y2i (r : Int) : Out := (.r [] (.int .i64 r), [])
def y2j (o : Out) : Option (Int) := match o with
  | (.r [] (.int .i64 z1), []) => some z1
  | _ => none
def y2k (k : Nat) : PG := fun _ l K => (y2h l).bind fun a => (L_szTensor k a.1 a.2).bind fun r => K (y2i r)
theorem y2l (k : Nat) (a : Tensor × Int) : ev (y2c k) (y2f (Int) k) 0 y2e (st0 Try.f20 (y2g a)) (fin Try.prog Try.f20 (.sc) y2j) = L_szTensor k a.1 a.2 := by kernel_rfl
theorem y2m (k : Nat) : PureOk Try.prog 20 (y2k k) :=
  pureOk_of_ev (y2d k) Try.func20 (by kernel_rfl) (by kernel_rfl) y2g y2h
    (fun l a h => by unfold y2h at h; split at h <;> first | (cases h; rfl) | cases h) (fun a => rfl) (lpgood_none (by kernel_rfl))
    (fun o r h => by unfold y2j at h; split at h <;> first | (cases h; rfl) | cases h) (y2l k)
def y2n (k : Nat) : Orc := pureOrc [.agg [(.int .i64), (.int .i64), (.int .i64), (.sl (.int .i64))], .one (.int .i64)] (y2k k)
theorem y2o (k : Nat) : OrcOk Try.prog 20 (y2n k) := pureOrc_ok (y2m k)
noncomputable def y2p (k : Nat) : Env := { P := Try.prog, tt := tt, orc := fun g => cond (Nat.beq g 20) (y2n k) (noOrc) }
theorem y2q (k : Nat) : EnvOk (y2p k) := fun g => (orc_cond (y2o k) (noOrc_ok _ _))
noncomputable def y2r : Code := (Try.f6.body).getD .skip
noncomputable def y2s : Code := ((loopsIn 0 y2r).getD 0 (0, .skip)).2
def y2t : List Nat := [0, 1, 5]
def y2u : List (Where × Co) := []
def y2v : Ex → List Nat
  | .exit j => cond (Nat.beq j 0) [1] []
  | .ret => [4]
  | .normal => []
def y2w : Ex → List (Where × Co)
  | .exit j => cond (Nat.beq j 0) [] []
  | .ret => []
  | .normal => []
def y2x (pv : (List Tensor) × (Int × Int)) : St := { slots := [(0, .r [] (.sl (.st .tensor) pv.1)), (1, .r [] (.int .i64 pv.2.1)), (5, .r [] (.int .i64 pv.2.2))], heap := [], nid := 0, n := 27, gh := [] }
def y2y (nf : NF) : Option ((List Tensor) × (Int × Int)) := match nf with
  | ([.r [] (.sl (.st .tensor) w0), .r [] (.int .i64 w1), .r [] (.int .i64 w2)], [], []) => some (w0, (w1, w2))
  | _ => none
theorem y2z (nf : NF) (v : (List Tensor) × (Int × Int)) (h : y2y nf = some v) : denorm y2t 27 nf = y2x v := by
  unfold y2y at h
  split at h
  · cases h; rfl
  · cases h
def y31 (p : List Tensor) (x : Int) : St := { slots := [(1, .r [] (.int .i64 x))], heap := [], nid := 0, n := 27, gh := [] }
def y32 (p : List Tensor) (x : Int) : St := { slots := [(4, .r [] (.int .i64 x))], heap := [], nid := 0, n := 27, gh := [] }
def y33 (ρ : Type) (k : Nat) : Nat → Ev ρ → Ev ρ := fun id f => cond (Nat.beq id 0) (loopOrc y2t y2u (fun n nf => cond (Nat.beq n 27) (y2y nf) none) fun pv K => iter (fun v next => L_szTensorS_g0 k pv.1 v next (fun x => K (.exit 0) (y31 pv.1 x)) (fun x => K .ret (y32 pv.1 x))) k pv.2) ((fun _ _ _ _ => none) id f)
theorem y34 {ρ : Type} (k : Nat) (p : List Tensor) (v : Int × Int) (K K1 : Ex → St → Option ρ) : ev (y2p k) (y33 ρ k) 0 y2s (y2x (p, v)) (fun e st' => match e with
    | .normal => (normC y2t y2u st').bind fun nf => K1 .normal (denorm y2t st'.n nf)
    | e => (normC (y2v e) (y2w e) st').bind fun nf => K e (denorm (y2v e) st'.n nf)) = L_szTensorS_g0 k p v (fun v' => K1 .normal (y2x (p, v'))) (fun x => K (.exit 0) (y31 p x)) (fun x => K .ret (y32 p x)) := by kernel_rfl
theorem y35 {ρ : Type} (k : Nat) : Sound Try.prog (.loop y2s) (y33 ρ k 0 fun st K => ev (y2p k) (y33 ρ k) 0 y2s st K) :=
  loop_ok (ev_sound (y2q k) y2s 0 (lpgood_none (by kernel_rfl))) y2v y2w k (g := fun p v next K => L_szTensorS_g0 k p v next (fun x => K (.exit 0) (y31 p x)) (fun x => K .ret (y32 p x))) (dec_at y2z) (fun p v K K1 => y34 k p v K K1)
def y36 (a : List Tensor × Int) : List Arg := [.one (.sl (.st .tensor) a.1), .one (.int .i64 a.2)]
def y37 (l : List Arg) : Option (List Tensor × Int) := match l with
  | [.one (.sl (.st .tensor) b0), .one (.int .i64 b1)] => some (b0, b1)
  | _ => none
def y38 (r : Int) : Out := (.r [] (.int .i64 r), [])
def y39 (o : Out) : Option (Int) := match o with
  | (.r [] (.int .i64 z1), []) => some z1
  | _ => none
def y3a (k : Nat) : PG := fun _ l K => (y37 l).bind fun a => (L_szTensorS k a.1 a.2).bind fun r => K (y38 r)
theorem y3b (k : Nat) (a : List Tensor × Int) : ev (y2p k) (y33 (Int) k) 0 y2r (st0 Try.f6 (y36 a)) (fin Try.prog Try.f6 (.sc) y39) = L_szTensorS k a.1 a.2 := by kernel_rfl
theorem y3c (k : Nat) : PureOk Try.prog 6 (y3a k) :=
  pureOk_of_ev (y2q k) Try.func6 (by kernel_rfl) (by kernel_rfl) y36 y37
    (fun l a h => by unfold y37 at h; split at h <;> first | (cases h; rfl) | cases h) (fun a => rfl) (lpgood_of (l := [(0, y2s)]) (by kernel_rfl) ⟨y35 k, trivial⟩)
    (fun o r h => by unfold y39 at h; split at h <;> first | (cases h; rfl) | cases h) (y3b k)
def y3d (k : Nat) : Orc := pureOrc [.one (.sl (.st .tensor)), .one (.int .i64)] (y3a k)
theorem y3e (k : Nat) : OrcOk Try.prog 6 (y3d k) := pureOrc_ok (y3c k)
noncomputable def y3f (k : Nat) : Env := { P := Try.prog, tt := tt, orc := fun g => noOrc }
theorem y3g (k : Nat) : EnvOk (y3f k) := fun g => (noOrc_ok _ _)
noncomputable def y3h : Code := (Try.f23.body).getD .skip
def y3i (ρ : Type) (k : Nat) : Nat → Ev ρ → Ev ρ := fun _ _ _ _ => none
def y3j (a : Shape) : List Arg := [.agg [.int .i64 a.h, .int .i64 a.w, .int .i64 a.c]]
def y3k (l : List Arg) : Option (Shape) := match l with
  | [.agg [.int .i64 b0_0, .int .i64 b0_1, .int .i64 b0_2]] => some (⟨b0_0, b0_1, b0_2⟩ : Shape)
  | _ => none
def y3l (r : Shape) : Out := (.agg [.r [] (.int .i64 r.h), .r [] (.int .i64 r.w), .r [] (.int .i64 r.c)], [])
def y3m (o : Out) : Option (Shape) := match o with
  | (.agg [.r [] (.int .i64 z1), .r [] (.int .i64 z2), .r [] (.int .i64 z3)], []) => some (⟨z1, z2, z3⟩ : Shape)
  | _ => none
def y3n (k : Nat) : PG := fun _ l K => (y3k l).bind fun a => (L_toShape k a).bind fun r => K (y3l r)
theorem y3o (k : Nat) (a : Shape) : ev (y3f k) (y3i (Shape) k) 0 y3h (st0 Try.f23 (y3j a)) (fin Try.prog Try.f23 (.agg [.sc, .sc, .sc]) y3m) = L_toShape k a := by kernel_rfl
theorem y3p (k : Nat) : PureOk Try.prog 23 (y3n k) :=
  pureOk_of_ev (y3g k) Try.func23 (by kernel_rfl) (by kernel_rfl) y3j y3k
    (fun l a h => by unfold y3k at h; split at h <;> first | (cases h; rfl) | cases h) (fun a => rfl) (lpgood_none (by kernel_rfl))
    (fun o r h => by unfold y3m at h; split at h <;> first | (cases h; rfl) | cases h) (y3o k)
def y3q (k : Nat) : Orc := pureOrc [.agg [(.int .i64), (.int .i64), (.int .i64)]] (y3n k)
theorem y3r (k : Nat) : OrcOk Try.prog 23 (y3q k) := pureOrc_ok (y3p k)
noncomputable def y3s (k : Nat) : Env := { P := Try.prog, tt := tt, orc := fun g => noOrc }
theorem y3t (k : Nat) : EnvOk (y3s k) := fun g => (noOrc_ok _ _)
noncomputable def y3u : Code := (Try.f49.body).getD .skip
noncomputable def y3v : Code := ((loopsIn 0 y3u).getD 0 (0, .skip)).2
def y3w : List Nat := [0, 3, 4]
def y3x : List (Where × Co) := []
def y3y : Ex → List Nat
  | .exit j => cond (Nat.beq j 0) [3] []
  | .ret => []
  | .normal => []
def y3z : Ex → List (Where × Co)
  | .exit j => cond (Nat.beq j 0) [] []
  | .ret => []
  | .normal => []
def y40 (pv : (List Int) × (Int × List Int)) : St := { slots := [(0, .r [] (.sl (.int .i64) pv.1)), (3, .own 0), (4, .r [] (.int .i64 pv.2.1))], heap := [(0, .arr none (.int .i64) pv.2.2)], nid := 1, n := 22, gh := [] }
def y41 (nf : NF) : Option ((List Int) × (Int × List Int)) := match nf with
  | ([.r [] (.sl (.int .i64) w0), .own 0, .r [] (.int .i64 w1)], [.arr none (.int .i64) w2], []) => some (w0, (w1, w2))
  | _ => none
theorem y42 (nf : NF) (v : (List Int) × (Int × List Int)) (h : y41 nf = some v) : denorm y3w 22 nf = y40 v := by
  unfold y41 at h
  split at h
  · cases h; rfl
  · cases h
def y43 (p : List Int) (x : List Int) : St := { slots := [(3, .own 0)], heap := [(0, .arr none (.int .i64) x)], nid := 1, n := 22, gh := [] }
def y44 (ρ : Type) (k : Nat) : Nat → Ev ρ → Ev ρ := fun id f => cond (Nat.beq id 0) (loopOrc y3w y3x (fun n nf => cond (Nat.beq n 22) (y41 nf) none) fun pv K => iter (fun v next => L_toIntS_g0 k pv.1 v next (fun x => K (.exit 0) (y43 pv.1 x))) k pv.2) ((fun _ _ _ _ => none) id f)
theorem y45 {ρ : Type} (k : Nat) (p : List Int) (v : Int × List Int) (K K1 : Ex → St → Option ρ) : ev (y3s k) (y44 ρ k) 0 y3v (y40 (p, v)) (fun e st' => match e with
    | .normal => (normC y3w y3x st').bind fun nf => K1 .normal (denorm y3w st'.n nf)
    | e => (normC (y3y e) (y3z e) st').bind fun nf => K e (denorm (y3y e) st'.n nf)) = L_toIntS_g0 k p v (fun v' => K1 .normal (y40 (p, v'))) (fun x => K (.exit 0) (y43 p x)) := by kernel_rfl
theorem y46 {ρ : Type} (k : Nat) : Sound Try.prog (.loop y3v) (y44 ρ k 0 fun st K => ev (y3s k) (y44 ρ k) 0 y3v st K) :=
  loop_ok (ev_sound (y3t k) y3v 0 (lpgood_none (by kernel_rfl))) y3y y3z k (g := fun p v next K => L_toIntS_g0 k p v next (fun x => K (.exit 0) (y43 p x))) (dec_at y42) (fun p v K K1 => y45 k p v K K1)
def y47 (a : List Int) : List Arg := [.one (.sl (.int .i64) a)]
def y48 (l : List Arg) : Option (List Int) := match l with
  | [.one (.sl (.int .i64) b0)] => some b0
  | _ => none
def y49 (r : List Int) : Out := (.own 0, [.arr none (.int .i64) r])
def y4a (o : Out) : Option (List Int) := match o with
  | (.own 0, [.arr none (.int .i64) z1]) => some z1
  | _ => none
def y4b (k : Nat) : PG := fun _ l K => (y48 l).bind fun a => (L_toIntS k a).bind fun r => K (y49 r)
theorem y4c (k : Nat) (a : List Int) : ev (y3s k) (y44 (List Int) k) 0 y3u (st0 Try.f49 (y47 a)) (fin Try.prog Try.f49 (.own (.int .i64)) y4a) = L_toIntS k a := by kernel_rfl
theorem y4d (k : Nat) : PureOk Try.prog 49 (y4b k) :=
  pureOk_of_ev (y3t k) Try.func49 (by kernel_rfl) (by kernel_rfl) y47 y48
    (fun l a h => by unfold y48 at h; split at h <;> first | (cases h; rfl) | cases h) (fun a => rfl) (lpgood_of (l := [(0, y3v)]) (by kernel_rfl) ⟨y46 k, trivial⟩)
    (fun o r h => by unfold y4a at h; split at h <;> first | (cases h; rfl) | cases h) (y4c k)
def y4e (k : Nat) : Orc := pureOrc [.one (.sl (.int .i64))] (y4b k)
theorem y4f (k : Nat) : OrcOk Try.prog 49 (y4e k) := pureOrc_ok (y4d k)
noncomputable def y4g (k : Nat) : Env := { P := Try.prog, tt := tt, orc := fun g => cond (Nat.beq g 49) (y4e k) (noOrc) }
theorem y4h (k : Nat) : EnvOk (y4g k) := fun g => (orc_cond (y4f k) (noOrc_ok _ _))
noncomputable def y4i : Code := (Try.f48.body).getD .skip
def y4j (ρ : Type) (k : Nat) : Nat → Ev ρ → Ev ρ := fun _ _ _ _ => none
def y4k (a : Layer) : List Arg := [.agg [.int .i64 a.kind, .int .i64 a.out, .int .i64 a.size, .int .i64 a.step, .int .i64 a.mult, .int .i64 a.shift, .int .i64 a.zero, .sl (.int .i64) a.weights, .sl (.int .i64) a.bias]]
def y4l (l : List Arg) : Option (Layer) := match l with
  | [.agg [.int .i64 b0_0, .int .i64 b0_1, .int .i64 b0_2, .int .i64 b0_3, .int .i64 b0_4, .int .i64 b0_5, .int .i64 b0_6, .sl (.int .i64) b0_7, .sl (.int .i64) b0_8]] => some (⟨b0_0, b0_1, b0_2, b0_3, b0_4, b0_5, b0_6, b0_7, b0_8⟩ : Layer)
  | _ => none
def y4m (r : Layer) : Out := (.agg [.r [] (.int .i64 r.kind), .r [] (.int .i64 r.out), .r [] (.int .i64 r.size), .r [] (.int .i64 r.step), .r [] (.int .i64 r.mult), .r [] (.int .i64 r.shift), .r [] (.int .i64 r.zero), .own 0, .own 1], [.arr none (.int .i64) r.weights, .arr none (.int .i64) r.bias])
def y4n (o : Out) : Option (Layer) := match o with
  | (.agg [.r [] (.int .i64 z1), .r [] (.int .i64 z2), .r [] (.int .i64 z3), .r [] (.int .i64 z4), .r [] (.int .i64 z5), .r [] (.int .i64 z6), .r [] (.int .i64 z7), .own 0, .own 1], [.arr none (.int .i64) z8, .arr none (.int .i64) z9]) => some (⟨z1, z2, z3, z4, z5, z6, z7, z8, z9⟩ : Layer)
  | _ => none
def y4o (k : Nat) : PG := fun _ l K => (y4l l).bind fun a => (L_toLayer k a).bind fun r => K (y4m r)
theorem y4p (k : Nat) (a : Layer) : ev (y4g k) (y4j (Layer) k) 0 y4i (st0 Try.f48 (y4k a)) (fin Try.prog Try.f48 (.agg [.sc, .sc, .sc, .sc, .sc, .sc, .sc, .own (.int .i64), .own (.int .i64)]) y4n) = L_toLayer k a := by kernel_rfl
theorem y4q (k : Nat) : PureOk Try.prog 48 (y4o k) :=
  pureOk_of_ev (y4h k) Try.func48 (by kernel_rfl) (by kernel_rfl) y4k y4l
    (fun l a h => by unfold y4l at h; split at h <;> first | (cases h; rfl) | cases h) (fun a => rfl) (lpgood_none (by kernel_rfl))
    (fun o r h => by unfold y4n at h; split at h <;> first | (cases h; rfl) | cases h) (y4p k)
def y4r (k : Nat) : Orc := pureOrc [.agg [(.int .i64), (.int .i64), (.int .i64), (.int .i64), (.int .i64), (.int .i64), (.int .i64), (.sl (.int .i64)), (.sl (.int .i64))]] (y4o k)
theorem y4s (k : Nat) : OrcOk Try.prog 48 (y4r k) := pureOrc_ok (y4q k)
noncomputable def y4t (k : Nat) : Env := { P := Try.prog, tt := tt, orc := fun g => cond (Nat.beq g 48) (y4r k) (noOrc) }
theorem y4u (k : Nat) : EnvOk (y4t k) := fun g => (orc_cond (y4s k) (noOrc_ok _ _))
noncomputable def y4v : Code := (Try.f24.body).getD .skip
noncomputable def y4w : Code := ((loopsIn 0 y4v).getD 0 (0, .skip)).2
def y4x : List Nat := [0, 3, 4]
def y4y : List (Where × Co) := []
def y4z : Ex → List Nat
  | .exit j => cond (Nat.beq j 0) [3] []
  | .ret => []
  | .normal => []
def y50 : Ex → List (Where × Co)
  | .exit j => cond (Nat.beq j 0) [] []
  | .ret => []
  | .normal => []
def y51 (pv : (List Layer) × (Int × List Layer)) : St := { slots := [(0, .r [] (.sl (.st .layer) pv.1)), (3, .own 0), (4, .r [] (.int .i64 pv.2.1))], heap := [(0, .arr none (.st .layer) pv.2.2)], nid := 1, n := 23, gh := [] }
def y52 (nf : NF) : Option ((List Layer) × (Int × List Layer)) := match nf with
  | ([.r [] (.sl (.st .layer) w0), .own 0, .r [] (.int .i64 w1)], [.arr none (.st .layer) w2], []) => some (w0, (w1, w2))
  | _ => none
theorem y53 (nf : NF) (v : (List Layer) × (Int × List Layer)) (h : y52 nf = some v) : denorm y4x 23 nf = y51 v := by
  unfold y52 at h
  split at h
  · cases h; rfl
  · cases h
def y54 (p : List Layer) (x : List Layer) : St := { slots := [(3, .own 0)], heap := [(0, .arr none (.st .layer) x)], nid := 1, n := 23, gh := [] }
def y55 (ρ : Type) (k : Nat) : Nat → Ev ρ → Ev ρ := fun id f => cond (Nat.beq id 0) (loopOrc y4x y4y (fun n nf => cond (Nat.beq n 23) (y52 nf) none) fun pv K => iter (fun v next => L_toLayerS_g0 k pv.1 v next (fun x => K (.exit 0) (y54 pv.1 x))) k pv.2) ((fun _ _ _ _ => none) id f)
theorem y56 {ρ : Type} (k : Nat) (p : List Layer) (v : Int × List Layer) (K K1 : Ex → St → Option ρ) : ev (y4t k) (y55 ρ k) 0 y4w (y51 (p, v)) (fun e st' => match e with
    | .normal => (normC y4x y4y st').bind fun nf => K1 .normal (denorm y4x st'.n nf)
    | e => (normC (y4z e) (y50 e) st').bind fun nf => K e (denorm (y4z e) st'.n nf)) = L_toLayerS_g0 k p v (fun v' => K1 .normal (y51 (p, v'))) (fun x => K (.exit 0) (y54 p x)) := by kernel_rfl
theorem y57 {ρ : Type} (k : Nat) : Sound Try.prog (.loop y4w) (y55 ρ k 0 fun st K => ev (y4t k) (y55 ρ k) 0 y4w st K) :=
  loop_ok (ev_sound (y4u k) y4w 0 (lpgood_none (by kernel_rfl))) y4z y50 k (g := fun p v next K => L_toLayerS_g0 k p v next (fun x => K (.exit 0) (y54 p x))) (dec_at y53) (fun p v K K1 => y56 k p v K K1)
def y58 (a : List Layer) : List Arg := [.one (.sl (.st .layer) a)]
def y59 (l : List Arg) : Option (List Layer) := match l with
  | [.one (.sl (.st .layer) b0)] => some b0
  | _ => none
def y5a (r : List Layer) : Out := (.own 0, [.arr none (.st .layer) r])
def y5b (o : Out) : Option (List Layer) := match o with
  | (.own 0, [.arr none (.st .layer) z1]) => some z1
  | _ => none
def y5c (k : Nat) : PG := fun _ l K => (y59 l).bind fun a => (L_toLayerS k a).bind fun r => K (y5a r)
theorem y5d (k : Nat) (a : List Layer) : ev (y4t k) (y55 (List Layer) k) 0 y4v (st0 Try.f24 (y58 a)) (fin Try.prog Try.f24 (.own (.st .layer)) y5b) = L_toLayerS k a := by kernel_rfl
theorem y5e (k : Nat) : PureOk Try.prog 24 (y5c k) :=
  pureOk_of_ev (y4u k) Try.func24 (by kernel_rfl) (by kernel_rfl) y58 y59
    (fun l a h => by unfold y59 at h; split at h <;> first | (cases h; rfl) | cases h) (fun a => rfl) (lpgood_of (l := [(0, y4w)]) (by kernel_rfl) ⟨y57 k, trivial⟩)
    (fun o r h => by unfold y5b at h; split at h <;> first | (cases h; rfl) | cases h) (y5d k)
def y5f (k : Nat) : Orc := pureOrc [.one (.sl (.st .layer))] (y5c k)
theorem y5g (k : Nat) : OrcOk Try.prog 24 (y5f k) := pureOrc_ok (y5e k)
noncomputable def y5h (k : Nat) : Env := { P := Try.prog, tt := tt, orc := fun g => cond (Nat.beq g 23) (y3q k) (cond (Nat.beq g 24) (y5f k) (noOrc)) }
theorem y5i (k : Nat) : EnvOk (y5h k) := fun g => (orc_cond (y3r k) (orc_cond (y5g k) (noOrc_ok _ _)))
noncomputable def y5j : Code := (Try.f8.body).getD .skip
def y5k (ρ : Type) (k : Nat) : Nat → Ev ρ → Ev ρ := fun _ _ _ _ => none
def y5l (a : Model) : List Arg := [.agg [.int .i64 a.inp.h, .int .i64 a.inp.w, .int .i64 a.inp.c, .sl (.st .layer) a.layers]]
def y5m (l : List Arg) : Option (Model) := match l with
  | [.agg [.int .i64 b0_0, .int .i64 b0_1, .int .i64 b0_2, .sl (.st .layer) b0_3]] => some (⟨(⟨b0_0, b0_1, b0_2⟩ : Shape), b0_3⟩ : Model)
  | _ => none
def y5n (r : Model) : Out := (.agg [.r [] (.int .i64 r.inp.h), .r [] (.int .i64 r.inp.w), .r [] (.int .i64 r.inp.c), .own 0], [.arr none (.st .layer) r.layers])
def y5o (o : Out) : Option (Model) := match o with
  | (.agg [.r [] (.int .i64 z1), .r [] (.int .i64 z2), .r [] (.int .i64 z3), .own 0], [.arr none (.st .layer) z4]) => some (⟨(⟨z1, z2, z3⟩ : Shape), z4⟩ : Model)
  | _ => none
def y5p (k : Nat) : PG := fun _ l K => (y5m l).bind fun a => (L_toModel k a).bind fun r => K (y5n r)
theorem y5q (k : Nat) (a : Model) : ev (y5h k) (y5k (Model) k) 0 y5j (st0 Try.f8 (y5l a)) (fin Try.prog Try.f8 (.agg [.sc, .sc, .sc, .own (.st .layer)]) y5o) = L_toModel k a := by kernel_rfl
theorem y5r (k : Nat) : PureOk Try.prog 8 (y5p k) :=
  pureOk_of_ev (y5i k) Try.func8 (by kernel_rfl) (by kernel_rfl) y5l y5m
    (fun l a h => by unfold y5m at h; split at h <;> first | (cases h; rfl) | cases h) (fun a => rfl) (lpgood_none (by kernel_rfl))
    (fun o r h => by unfold y5o at h; split at h <;> first | (cases h; rfl) | cases h) (y5q k)
def y5s (k : Nat) : Orc := pureOrc [.agg [(.int .i64), (.int .i64), (.int .i64), (.sl (.st .layer))]] (y5p k)
theorem y5t (k : Nat) : OrcOk Try.prog 8 (y5s k) := pureOrc_ok (y5r k)
noncomputable def y5u (k : Nat) : Env := { P := Try.prog, tt := tt, orc := fun g => cond (Nat.beq g 23) (y3q k) (cond (Nat.beq g 49) (y4e k) (noOrc)) }
theorem y5v (k : Nat) : EnvOk (y5u k) := fun g => (orc_cond (y3r k) (orc_cond (y4f k) (noOrc_ok _ _)))
noncomputable def y5w : Code := (Try.f25.body).getD .skip
def y5x (ρ : Type) (k : Nat) : Nat → Ev ρ → Ev ρ := fun _ _ _ _ => none
def y5y (a : Tensor) : List Arg := [.agg [.int .i64 a.sh.h, .int .i64 a.sh.w, .int .i64 a.sh.c, .sl (.int .i64) a.data]]
def y5z (l : List Arg) : Option (Tensor) := match l with
  | [.agg [.int .i64 b0_0, .int .i64 b0_1, .int .i64 b0_2, .sl (.int .i64) b0_3]] => some (⟨(⟨b0_0, b0_1, b0_2⟩ : Shape), b0_3⟩ : Tensor)
  | _ => none
def y60 (r : Tensor) : Out := (.agg [.r [] (.int .i64 r.sh.h), .r [] (.int .i64 r.sh.w), .r [] (.int .i64 r.sh.c), .own 0], [.arr none (.int .i64) r.data])
def y61 (o : Out) : Option (Tensor) := match o with
  | (.agg [.r [] (.int .i64 z1), .r [] (.int .i64 z2), .r [] (.int .i64 z3), .own 0], [.arr none (.int .i64) z4]) => some (⟨(⟨z1, z2, z3⟩ : Shape), z4⟩ : Tensor)
  | _ => none
def y62 (k : Nat) : PG := fun _ l K => (y5z l).bind fun a => (L_toTensor k a).bind fun r => K (y60 r)
theorem y63 (k : Nat) (a : Tensor) : ev (y5u k) (y5x (Tensor) k) 0 y5w (st0 Try.f25 (y5y a)) (fin Try.prog Try.f25 (.agg [.sc, .sc, .sc, .own (.int .i64)]) y61) = L_toTensor k a := by kernel_rfl
theorem y64 (k : Nat) : PureOk Try.prog 25 (y62 k) :=
  pureOk_of_ev (y5v k) Try.func25 (by kernel_rfl) (by kernel_rfl) y5y y5z
    (fun l a h => by unfold y5z at h; split at h <;> first | (cases h; rfl) | cases h) (fun a => rfl) (lpgood_none (by kernel_rfl))
    (fun o r h => by unfold y61 at h; split at h <;> first | (cases h; rfl) | cases h) (y63 k)
def y65 (k : Nat) : Orc := pureOrc [.agg [(.int .i64), (.int .i64), (.int .i64), (.sl (.int .i64))]] (y62 k)
theorem y66 (k : Nat) : OrcOk Try.prog 25 (y65 k) := pureOrc_ok (y64 k)
noncomputable def y67 (k : Nat) : Env := { P := Try.prog, tt := tt, orc := fun g => cond (Nat.beq g 25) (y65 k) (noOrc) }
theorem y68 (k : Nat) : EnvOk (y67 k) := fun g => (orc_cond (y66 k) (noOrc_ok _ _))
noncomputable def y69 : Code := (Try.f9.body).getD .skip
noncomputable def y6a : Code := ((loopsIn 0 y69).getD 0 (0, .skip)).2
def y6b : List Nat := [0, 3, 4]
def y6c : List (Where × Co) := []
def y6d : Ex → List Nat
  | .exit j => cond (Nat.beq j 0) [3] []
  | .ret => []
  | .normal => []
def y6e : Ex → List (Where × Co)
  | .exit j => cond (Nat.beq j 0) [] []
  | .ret => []
  | .normal => []
def y6f (pv : (List Tensor) × (Int × List Tensor)) : St := { slots := [(0, .r [] (.sl (.st .tensor) pv.1)), (3, .own 0), (4, .r [] (.int .i64 pv.2.1))], heap := [(0, .arr none (.st .tensor) pv.2.2)], nid := 1, n := 23, gh := [] }
def y6g (nf : NF) : Option ((List Tensor) × (Int × List Tensor)) := match nf with
  | ([.r [] (.sl (.st .tensor) w0), .own 0, .r [] (.int .i64 w1)], [.arr none (.st .tensor) w2], []) => some (w0, (w1, w2))
  | _ => none
theorem y6h (nf : NF) (v : (List Tensor) × (Int × List Tensor)) (h : y6g nf = some v) : denorm y6b 23 nf = y6f v := by
  unfold y6g at h
  split at h
  · cases h; rfl
  · cases h
def y6i (p : List Tensor) (x : List Tensor) : St := { slots := [(3, .own 0)], heap := [(0, .arr none (.st .tensor) x)], nid := 1, n := 23, gh := [] }
def y6j (ρ : Type) (k : Nat) : Nat → Ev ρ → Ev ρ := fun id f => cond (Nat.beq id 0) (loopOrc y6b y6c (fun n nf => cond (Nat.beq n 23) (y6g nf) none) fun pv K => iter (fun v next => L_toTensorS_g0 k pv.1 v next (fun x => K (.exit 0) (y6i pv.1 x))) k pv.2) ((fun _ _ _ _ => none) id f)
theorem y6k {ρ : Type} (k : Nat) (p : List Tensor) (v : Int × List Tensor) (K K1 : Ex → St → Option ρ) : ev (y67 k) (y6j ρ k) 0 y6a (y6f (p, v)) (fun e st' => match e with
    | .normal => (normC y6b y6c st').bind fun nf => K1 .normal (denorm y6b st'.n nf)
    | e => (normC (y6d e) (y6e e) st').bind fun nf => K e (denorm (y6d e) st'.n nf)) = L_toTensorS_g0 k p v (fun v' => K1 .normal (y6f (p, v'))) (fun x => K (.exit 0) (y6i p x)) := by kernel_rfl
theorem y6l {ρ : Type} (k : Nat) : Sound Try.prog (.loop y6a) (y6j ρ k 0 fun st K => ev (y67 k) (y6j ρ k) 0 y6a st K) :=
  loop_ok (ev_sound (y68 k) y6a 0 (lpgood_none (by kernel_rfl))) y6d y6e k (g := fun p v next K => L_toTensorS_g0 k p v next (fun x => K (.exit 0) (y6i p x))) (dec_at y6h) (fun p v K K1 => y6k k p v K K1)
def y6m (a : List Tensor) : List Arg := [.one (.sl (.st .tensor) a)]
def y6n (l : List Arg) : Option (List Tensor) := match l with
  | [.one (.sl (.st .tensor) b0)] => some b0
  | _ => none
def y6o (r : List Tensor) : Out := (.own 0, [.arr none (.st .tensor) r])
def y6p (o : Out) : Option (List Tensor) := match o with
  | (.own 0, [.arr none (.st .tensor) z1]) => some z1
  | _ => none
def y6q (k : Nat) : PG := fun _ l K => (y6n l).bind fun a => (L_toTensorS k a).bind fun r => K (y6o r)
theorem y6r (k : Nat) (a : List Tensor) : ev (y67 k) (y6j (List Tensor) k) 0 y69 (st0 Try.f9 (y6m a)) (fin Try.prog Try.f9 (.own (.st .tensor)) y6p) = L_toTensorS k a := by kernel_rfl
theorem y6s (k : Nat) : PureOk Try.prog 9 (y6q k) :=
  pureOk_of_ev (y68 k) Try.func9 (by kernel_rfl) (by kernel_rfl) y6m y6n
    (fun l a h => by unfold y6n at h; split at h <;> first | (cases h; rfl) | cases h) (fun a => rfl) (lpgood_of (l := [(0, y6a)]) (by kernel_rfl) ⟨y6l k, trivial⟩)
    (fun o r h => by unfold y6p at h; split at h <;> first | (cases h; rfl) | cases h) (y6r k)
def y6t (k : Nat) : Orc := pureOrc [.one (.sl (.st .tensor))] (y6q k)
theorem y6u (k : Nat) : OrcOk Try.prog 9 (y6t k) := pureOrc_ok (y6s k)
noncomputable def y6v (k : Nat) : Env := { P := Try.prog, tt := tt, orc := fun g => noOrc }
theorem y6w (k : Nat) : EnvOk (y6v k) := fun g => (noOrc_ok _ _)
noncomputable def y6x : Code := (Try.f21.body).getD .skip
def y6y (ρ : Type) (k : Nat) : Nat → Ev ρ → Ev ρ := fun _ _ _ _ => none
def y6z (a : Int × Int × Int) : List Arg := [.one (.int .i64 a.1), .one (.int .i64 a.2.1), .one (.int .i64 a.2.2)]
def y70 (l : List Arg) : Option (Int × Int × Int) := match l with
  | [.one (.int .i64 b0), .one (.int .i64 b1), .one (.int .i64 b2)] => some (b0, b1, b2)
  | _ => none
def y71 (r : Bool) : Out := (.r [] (.bool r), [])
def y72 (o : Out) : Option (Bool) := match o with
  | (.r [] (.bool z1), []) => some z1
  | _ => none
def y73 (k : Nat) : PG := fun _ l K => (y70 l).bind fun a => (S_l01In k a.1 a.2.1 a.2.2).bind fun r => K (y71 r)
theorem y74 (k : Nat) (a : Int × Int × Int) : ev (y6v k) (y6y (Bool) k) 0 y6x (st0 Try.f21 (y6z a)) (fin Try.prog Try.f21 (.sc) y72) = S_l01In k a.1 a.2.1 a.2.2 := by kernel_rfl
theorem y75 (k : Nat) : PureOk Try.prog 21 (y73 k) :=
  pureOk_of_ev (y6w k) Try.func21 (by kernel_rfl) (by kernel_rfl) y6z y70
    (fun l a h => by unfold y70 at h; split at h <;> first | (cases h; rfl) | cases h) (fun a => rfl) (lpgood_none (by kernel_rfl))
    (fun o r h => by unfold y72 at h; split at h <;> first | (cases h; rfl) | cases h) (y74 k)
def y76 (k : Nat) : Orc := pureOrc [.one (.int .i64), .one (.int .i64), .one (.int .i64)] (y73 k)
theorem y77 (k : Nat) : OrcOk Try.prog 21 (y76 k) := pureOrc_ok (y75 k)
noncomputable def y78 (k : Nat) : Env := { P := Try.prog, tt := tt, orc := fun g => cond (Nat.beq g 21) (y76 k) (noOrc) }
theorem y79 (k : Nat) : EnvOk (y78 k) := fun g => (orc_cond (y77 k) (noOrc_ok _ _))
noncomputable def y7a : Code := (Try.f54.body).getD .skip
def y7b (ρ : Type) (k : Nat) : Nat → Ev ρ → Ev ρ := fun _ _ _ _ => none
def y7c (a : Shape) : List Arg := [.agg [.int .i64 a.h, .int .i64 a.w, .int .i64 a.c]]
def y7d (l : List Arg) : Option (Shape) := match l with
  | [.agg [.int .i64 b0_0, .int .i64 b0_1, .int .i64 b0_2]] => some (⟨b0_0, b0_1, b0_2⟩ : Shape)
  | _ => none
def y7e (r : Bool) : Out := (.r [] (.bool r), [])
def y7f (o : Out) : Option (Bool) := match o with
  | (.r [] (.bool z1), []) => some z1
  | _ => none
def y7g (k : Nat) : PG := fun _ l K => (y7d l).bind fun a => (S_ShapeOk k a).bind fun r => K (y7e r)
theorem y7h (k : Nat) (a : Shape) : ev (y78 k) (y7b (Bool) k) 0 y7a (st0 Try.f54 (y7c a)) (fin Try.prog Try.f54 (.sc) y7f) = S_ShapeOk k a := by kernel_rfl
theorem y7i (k : Nat) : PureOk Try.prog 54 (y7g k) :=
  pureOk_of_ev (y79 k) Try.func54 (by kernel_rfl) (by kernel_rfl) y7c y7d
    (fun l a h => by unfold y7d at h; split at h <;> first | (cases h; rfl) | cases h) (fun a => rfl) (lpgood_none (by kernel_rfl))
    (fun o r h => by unfold y7f at h; split at h <;> first | (cases h; rfl) | cases h) (y7h k)
def y7j (k : Nat) : Orc := pureOrc [.agg [(.int .i64), (.int .i64), (.int .i64)]] (y7g k)
theorem y7k (k : Nat) : OrcOk Try.prog 54 (y7j k) := pureOrc_ok (y7i k)
noncomputable def y7l (k : Nat) : Env := { P := Try.prog, tt := tt, orc := fun g => cond (Nat.beq g 21) (y76 k) (noOrc) }
theorem y7m (k : Nat) : EnvOk (y7l k) := fun g => (orc_cond (y77 k) (noOrc_ok _ _))
noncomputable def y7n : Code := (Try.f61.body).getD .skip
def y7o (ρ : Type) (k : Nat) : Nat → Ev ρ → Ev ρ := fun _ _ _ _ => none
def y7p (a : Int) : List Arg := [.one (.int .i64 a)]
def y7q (l : List Arg) : Option (Int) := match l with
  | [.one (.int .i64 b0)] => some b0
  | _ => none
def y7r (r : Bool) : Out := (.r [] (.bool r), [])
def y7s (o : Out) : Option (Bool) := match o with
  | (.r [] (.bool z1), []) => some z1
  | _ => none
def y7t (k : Nat) : PG := fun _ l K => (y7q l).bind fun a => (S_l02Int8 k a).bind fun r => K (y7r r)
theorem y7u (k : Nat) (a : Int) : ev (y7l k) (y7o (Bool) k) 0 y7n (st0 Try.f61 (y7p a)) (fin Try.prog Try.f61 (.sc) y7s) = S_l02Int8 k a := by kernel_rfl
theorem y7v (k : Nat) : PureOk Try.prog 61 (y7t k) :=
  pureOk_of_ev (y7m k) Try.func61 (by kernel_rfl) (by kernel_rfl) y7p y7q
    (fun l a h => by unfold y7q at h; split at h <;> first | (cases h; rfl) | cases h) (fun a => rfl) (lpgood_none (by kernel_rfl))
    (fun o r h => by unfold y7s at h; split at h <;> first | (cases h; rfl) | cases h) (y7u k)
def y7w (k : Nat) : Orc := pureOrc [.one (.int .i64)] (y7t k)
theorem y7x (k : Nat) : OrcOk Try.prog 61 (y7w k) := pureOrc_ok (y7v k)
noncomputable def y7y (k : Nat) : Env := { P := Try.prog, tt := tt, orc := fun g => cond (Nat.beq g 21) (y76 k) (cond (Nat.beq g 61) (y7w k) (noOrc)) }
theorem y7z (k : Nat) : EnvOk (y7y k) := fun g => (orc_cond (y77 k) (orc_cond (y7x k) (noOrc_ok _ _)))
noncomputable def y80 : Code := (Try.f68.body).getD .skip
noncomputable def y81 : Code := ((loopsIn 0 y80).getD 0 (0, .skip)).2
noncomputable def y82 : Code := ((loopsIn 0 y80).getD 1 (0, .skip)).2
def y83 : List Nat := [3, 7]
def y84 : List (Where × Co) := []
def y85 : Ex → List Nat
  | .exit j => cond (Nat.beq j 0) [3] []
  | .ret => [6]
  | .normal => []
def y86 : Ex → List (Where × Co)
  | .exit j => cond (Nat.beq j 0) [] []
  | .ret => []
  | .normal => []
def y87 (pv : (Int × Int × Int × Int × Int × Int × Int × List Int × List Int) × (Int)) : St := { slots := [(3, .ptr 0 0 0), (7, .r [] (.int .i64 pv.2))], heap := [(0, .box [.r [] (.int .i64 pv.1.1), .r [] (.int .i64 pv.1.2.1), .r [] (.int .i64 pv.1.2.2.1), .r [] (.int .i64 pv.1.2.2.2.1), .r [] (.int .i64 pv.1.2.2.2.2.1), .r [] (.int .i64 pv.1.2.2.2.2.2.1), .r [] (.int .i64 pv.1.2.2.2.2.2.2.1), .r [] (.sl (.int .i64) pv.1.2.2.2.2.2.2.2.1), .r [] (.sl (.int .i64) pv.1.2.2.2.2.2.2.2.2)])], nid := 1, n := 121, gh := [] }
def y88 (nf : NF) : Option ((Int × Int × Int × Int × Int × Int × Int × List Int × List Int) × (Int)) := match nf with
  | ([.ptr 0 0 0, .r [] (.int .i64 w0)], [.box [.r [] (.int .i64 w1), .r [] (.int .i64 w2), .r [] (.int .i64 w3), .r [] (.int .i64 w4), .r [] (.int .i64 w5), .r [] (.int .i64 w6), .r [] (.int .i64 w7), .r [] (.sl (.int .i64) w8), .r [] (.sl (.int .i64) w9)]], []) => some ((w1, w2, w3, w4, w5, w6, w7, w8, w9), w0)
  | _ => none
theorem y89 (nf : NF) (v : (Int × Int × Int × Int × Int × Int × Int × List Int × List Int) × (Int)) (h : y88 nf = some v) : denorm y83 121 nf = y87 v := by
  unfold y88 at h
  split at h
  · cases h; rfl
  · cases h
def y8a (p : Int × Int × Int × Int × Int × Int × Int × List Int × List Int) (x : Unit) : St := { slots := [(3, .ptr 0 0 0)], heap := [(0, .box [.r [] (.int .i64 p.1), .r [] (.int .i64 p.2.1), .r [] (.int .i64 p.2.2.1), .r [] (.int .i64 p.2.2.2.1), .r [] (.int .i64 p.2.2.2.2.1), .r [] (.int .i64 p.2.2.2.2.2.1), .r [] (.int .i64 p.2.2.2.2.2.2.1), .r [] (.sl (.int .i64) p.2.2.2.2.2.2.2.1), .r [] (.sl (.int .i64) p.2.2.2.2.2.2.2.2)])], nid := 1, n := 121, gh := [] }
def y8b (p : Int × Int × Int × Int × Int × Int × Int × List Int × List Int) (x : Bool) : St := { slots := [(6, .r [] (.bool x))], heap := [], nid := 0, n := 121, gh := [] }
def y8c : List Nat := [3, 8]
def y8d : List (Where × Co) := []
def y8e : Ex → List Nat
  | .exit j => cond (Nat.beq j 2) [] []
  | .ret => [6]
  | .normal => []
def y8f : Ex → List (Where × Co)
  | .exit j => cond (Nat.beq j 2) [] []
  | .ret => []
  | .normal => []
def y8g (pv : (Int × Int × Int × Int × Int × Int × Int × List Int × List Int) × (Int)) : St := { slots := [(3, .ptr 0 0 0), (8, .r [] (.int .i64 pv.2))], heap := [(0, .box [.r [] (.int .i64 pv.1.1), .r [] (.int .i64 pv.1.2.1), .r [] (.int .i64 pv.1.2.2.1), .r [] (.int .i64 pv.1.2.2.2.1), .r [] (.int .i64 pv.1.2.2.2.2.1), .r [] (.int .i64 pv.1.2.2.2.2.2.1), .r [] (.int .i64 pv.1.2.2.2.2.2.2.1), .r [] (.sl (.int .i64) pv.1.2.2.2.2.2.2.2.1), .r [] (.sl (.int .i64) pv.1.2.2.2.2.2.2.2.2)])], nid := 1, n := 121, gh := [] }
def y8h (nf : NF) : Option ((Int × Int × Int × Int × Int × Int × Int × List Int × List Int) × (Int)) := match nf with
  | ([.ptr 0 0 0, .r [] (.int .i64 w0)], [.box [.r [] (.int .i64 w1), .r [] (.int .i64 w2), .r [] (.int .i64 w3), .r [] (.int .i64 w4), .r [] (.int .i64 w5), .r [] (.int .i64 w6), .r [] (.int .i64 w7), .r [] (.sl (.int .i64) w8), .r [] (.sl (.int .i64) w9)]], []) => some ((w1, w2, w3, w4, w5, w6, w7, w8, w9), w0)
  | _ => none
theorem y8i (nf : NF) (v : (Int × Int × Int × Int × Int × Int × Int × List Int × List Int) × (Int)) (h : y8h nf = some v) : denorm y8c 121 nf = y8g v := by
  unfold y8h at h
  split at h
  · cases h; rfl
  · cases h
def y8j (p : Int × Int × Int × Int × Int × Int × Int × List Int × List Int) (x : Unit) : St := { slots := [], heap := [], nid := 0, n := 121, gh := [] }
def y8k (p : Int × Int × Int × Int × Int × Int × Int × List Int × List Int) (x : Bool) : St := { slots := [(6, .r [] (.bool x))], heap := [], nid := 0, n := 121, gh := [] }
def y8l (ρ : Type) (k : Nat) : Nat → Ev ρ → Ev ρ := fun id f => cond (Nat.beq id 2) (loopOrc y8c y8d (fun n nf => cond (Nat.beq n 121) (y8h nf) none) fun pv K => iter (fun v next => S_l03Plain_g1 k pv.1 v next (fun x => K (.exit 2) (y8j pv.1 x)) (fun x => K .ret (y8k pv.1 x))) k pv.2) ((fun id f => cond (Nat.beq id 0) (loopOrc y83 y84 (fun n nf => cond (Nat.beq n 121) (y88 nf) none) fun pv K => iter (fun v next => S_l03Plain_g0 k pv.1 v next (fun x => K (.exit 0) (y8a pv.1 x)) (fun x => K .ret (y8b pv.1 x))) k pv.2) ((fun _ _ _ _ => none) id f)) id f)
theorem y8m {ρ : Type} (k : Nat) (p : Int × Int × Int × Int × Int × Int × Int × List Int × List Int) (v : Int) (K K1 : Ex → St → Option ρ) : ev (y7y k) (y8l ρ k) 0 y81 (y87 (p, v)) (fun e st' => match e with
    | .normal => (normC y83 y84 st').bind fun nf => K1 .normal (denorm y83 st'.n nf)
    | e => (normC (y85 e) (y86 e) st').bind fun nf => K e (denorm (y85 e) st'.n nf)) = S_l03Plain_g0 k p v (fun v' => K1 .normal (y87 (p, v'))) (fun x => K (.exit 0) (y8a p x)) (fun x => K .ret (y8b p x)) := by kernel_rfl
theorem y8n {ρ : Type} (k : Nat) : Sound Try.prog (.loop y81) (y8l ρ k 0 fun st K => ev (y7y k) (y8l ρ k) 0 y81 st K) :=
  loop_ok (ev_sound (y7z k) y81 0 (lpgood_none (by kernel_rfl))) y85 y86 k (g := fun p v next K => S_l03Plain_g0 k p v next (fun x => K (.exit 0) (y8a p x)) (fun x => K .ret (y8b p x))) (dec_at y89) (fun p v K K1 => y8m k p v K K1)
theorem y8o {ρ : Type} (k : Nat) (p : Int × Int × Int × Int × Int × Int × Int × List Int × List Int) (v : Int) (K K1 : Ex → St → Option ρ) : ev (y7y k) (y8l ρ k) 2 y82 (y8g (p, v)) (fun e st' => match e with
    | .normal => (normC y8c y8d st').bind fun nf => K1 .normal (denorm y8c st'.n nf)
    | e => (normC (y8e e) (y8f e) st').bind fun nf => K e (denorm (y8e e) st'.n nf)) = S_l03Plain_g1 k p v (fun v' => K1 .normal (y8g (p, v'))) (fun x => K (.exit 2) (y8j p x)) (fun x => K .ret (y8k p x)) := by kernel_rfl
theorem y8p {ρ : Type} (k : Nat) : Sound Try.prog (.loop y82) (y8l ρ k 2 fun st K => ev (y7y k) (y8l ρ k) 2 y82 st K) :=
  loop_ok (ev_sound (y7z k) y82 2 (lpgood_none (by kernel_rfl))) y8e y8f k (g := fun p v next K => S_l03Plain_g1 k p v next (fun x => K (.exit 2) (y8j p x)) (fun x => K .ret (y8k p x))) (dec_at y8i) (fun p v K K1 => y8o k p v K K1)
def y8q (a : Layer × Bool × Bool) : List Arg := [.agg [.int .i64 a.1.kind, .int .i64 a.1.out, .int .i64 a.1.size, .int .i64 a.1.step, .int .i64 a.1.mult, .int .i64 a.1.shift, .int .i64 a.1.zero, .sl (.int .i64) a.1.weights, .sl (.int .i64) a.1.bias], .one (.bool a.2.1), .one (.bool a.2.2)]
def y8r (l : List Arg) : Option (Layer × Bool × Bool) := match l with
  | [.agg [.int .i64 b0_0, .int .i64 b0_1, .int .i64 b0_2, .int .i64 b0_3, .int .i64 b0_4, .int .i64 b0_5, .int .i64 b0_6, .sl (.int .i64) b0_7, .sl (.int .i64) b0_8], .one (.bool b1), .one (.bool b2)] => some ((⟨b0_0, b0_1, b0_2, b0_3, b0_4, b0_5, b0_6, b0_7, b0_8⟩ : Layer), b1, b2)
  | _ => none
def y8s (r : Bool) : Out := (.r [] (.bool r), [])
def y8t (o : Out) : Option (Bool) := match o with
  | (.r [] (.bool z1), []) => some z1
  | _ => none
def y8u (k : Nat) : PG := fun _ l K => (y8r l).bind fun a => (S_l03Plain k a.1 a.2.1 a.2.2).bind fun r => K (y8s r)
theorem y8v (k : Nat) (a : Layer × Bool × Bool) : ev (y7y k) (y8l (Bool) k) 0 y80 (st0 Try.f68 (y8q a)) (fin Try.prog Try.f68 (.sc) y8t) = S_l03Plain k a.1 a.2.1 a.2.2 := by kernel_rfl
theorem y8w (k : Nat) : PureOk Try.prog 68 (y8u k) :=
  pureOk_of_ev (y7z k) Try.func68 (by kernel_rfl) (by kernel_rfl) y8q y8r
    (fun l a h => by unfold y8r at h; split at h <;> first | (cases h; rfl) | cases h) (fun a => rfl) (lpgood_of (l := [(0, y81), (2, y82)]) (by kernel_rfl) ⟨y8n k, ⟨y8p k, trivial⟩⟩)
    (fun o r h => by unfold y8t at h; split at h <;> first | (cases h; rfl) | cases h) (y8v k)
def y8x (k : Nat) : Orc := pureOrc [.agg [(.int .i64), (.int .i64), (.int .i64), (.int .i64), (.int .i64), (.int .i64), (.int .i64), (.sl (.int .i64)), (.sl (.int .i64))], .one .bool, .one .bool] (y8u k)
theorem y8y (k : Nat) : OrcOk Try.prog 68 (y8x k) := pureOrc_ok (y8w k)
noncomputable def y8z (k : Nat) : Env := { P := Try.prog, tt := tt, orc := fun g => cond (Nat.beq g 54) (y7j k) (noOrc) }
theorem y90 (k : Nat) : EnvOk (y8z k) := fun g => (orc_cond (y7k k) (noOrc_ok _ _))
noncomputable def y91 : Code := (Try.f60.body).getD .skip
def y92 (ρ : Type) (k : Nat) : Nat → Ev ρ → Ev ρ := fun _ _ _ _ => none
def y93 (a : Shape) : List Arg := [.agg [.int .i64 a.h, .int .i64 a.w, .int .i64 a.c]]
def y94 (l : List Arg) : Option (Shape) := match l with
  | [.agg [.int .i64 b0_0, .int .i64 b0_1, .int .i64 b0_2]] => some (⟨b0_0, b0_1, b0_2⟩ : Shape)
  | _ => none
def y95 (r : Int) : Out := (.r [] (.int .i64 r), [])
def y96 (o : Out) : Option (Int) := match o with
  | (.r [] (.int .i64 z1), []) => some z1
  | _ => none
def y97 (k : Nat) : PG := fun _ l K => (y94 l).bind fun a => (S_SizeOf k a).bind fun r => K (y95 r)
theorem y98 (k : Nat) (a : Shape) : ev (y8z k) (y92 (Int) k) 0 y91 (st0 Try.f60 (y93 a)) (fin Try.prog Try.f60 (.sc) y96) = S_SizeOf k a := by kernel_rfl
theorem y99 (k : Nat) : PureOk Try.prog 60 (y97 k) :=
  pureOk_of_ev (y90 k) Try.func60 (by kernel_rfl) (by kernel_rfl) y93 y94
    (fun l a h => by unfold y94 at h; split at h <;> first | (cases h; rfl) | cases h) (fun a => rfl) (lpgood_none (by kernel_rfl))
    (fun o r h => by unfold y96 at h; split at h <;> first | (cases h; rfl) | cases h) (y98 k)
def y9a (k : Nat) : Orc := pureOrc [.agg [(.int .i64), (.int .i64), (.int .i64)]] (y97 k)
theorem y9b (k : Nat) : OrcOk Try.prog 60 (y9a k) := pureOrc_ok (y99 k)
noncomputable def y9c (k : Nat) : Env := { P := Try.prog, tt := tt, orc := fun g => cond (Nat.beq g 21) (y76 k) (cond (Nat.beq g 54) (y7j k) (cond (Nat.beq g 60) (y9a k) (cond (Nat.beq g 68) (y8x k) (noOrc)))) }
theorem y9d (k : Nat) : EnvOk (y9c k) := fun g => (orc_cond (y77 k) (orc_cond (y7k k) (orc_cond (y9b k) (orc_cond (y8y k) (noOrc_ok _ _)))))
noncomputable def y9e : Code := (Try.f55.body).getD .skip
def y9f (ρ : Type) (k : Nat) : Nat → Ev ρ → Ev ρ := fun _ _ _ _ => none
def y9g (a : Shape × Layer) : List Arg := [.agg [.int .i64 a.1.h, .int .i64 a.1.w, .int .i64 a.1.c], .agg [.int .i64 a.2.kind, .int .i64 a.2.out, .int .i64 a.2.size, .int .i64 a.2.step, .int .i64 a.2.mult, .int .i64 a.2.shift, .int .i64 a.2.zero, .sl (.int .i64) a.2.weights, .sl (.int .i64) a.2.bias]]
def y9h (l : List Arg) : Option (Shape × Layer) := match l with
  | [.agg [.int .i64 b0_0, .int .i64 b0_1, .int .i64 b0_2], .agg [.int .i64 b1_0, .int .i64 b1_1, .int .i64 b1_2, .int .i64 b1_3, .int .i64 b1_4, .int .i64 b1_5, .int .i64 b1_6, .sl (.int .i64) b1_7, .sl (.int .i64) b1_8]] => some ((⟨b0_0, b0_1, b0_2⟩ : Shape), (⟨b1_0, b1_1, b1_2, b1_3, b1_4, b1_5, b1_6, b1_7, b1_8⟩ : Layer))
  | _ => none
def y9i (r : Shape × Bool) : Out := (.tup [.agg [.r [] (.int .i64 r.1.h), .r [] (.int .i64 r.1.w), .r [] (.int .i64 r.1.c)], .r [] (.bool r.2)], [])
def y9j (o : Out) : Option (Shape × Bool) := match o with
  | (.tup [.agg [.r [] (.int .i64 z1), .r [] (.int .i64 z2), .r [] (.int .i64 z3)], .r [] (.bool z4)], []) => some ((⟨z1, z2, z3⟩ : Shape), z4)
  | _ => none
def y9k (k : Nat) : PG := fun _ l K => (y9h l).bind fun a => (S_OutShape k a.1 a.2).bind fun r => K (y9i r)
theorem y9l (k : Nat) (a : Shape × Layer) : ev (y9c k) (y9f (Shape × Bool) k) 0 y9e (st0 Try.f55 (y9g a)) (fin Try.prog Try.f55 (.tup [.agg [.sc, .sc, .sc], .sc]) y9j) = S_OutShape k a.1 a.2 := by kernel_rfl
theorem y9m (k : Nat) : PureOk Try.prog 55 (y9k k) :=
  pureOk_of_ev (y9d k) Try.func55 (by kernel_rfl) (by kernel_rfl) y9g y9h
    (fun l a h => by unfold y9h at h; split at h <;> first | (cases h; rfl) | cases h) (fun a => rfl) (lpgood_none (by kernel_rfl))
    (fun o r h => by unfold y9j at h; split at h <;> first | (cases h; rfl) | cases h) (y9l k)
def y9n (k : Nat) : Orc := pureOrc [.agg [(.int .i64), (.int .i64), (.int .i64)], .agg [(.int .i64), (.int .i64), (.int .i64), (.int .i64), (.int .i64), (.int .i64), (.int .i64), (.sl (.int .i64)), (.sl (.int .i64))]] (y9k k)
theorem y9o (k : Nat) : OrcOk Try.prog 55 (y9n k) := pureOrc_ok (y9m k)
noncomputable def y9p (k : Nat) : Env := { P := Try.prog, tt := tt, orc := fun g => cond (Nat.beq g 21) (y76 k) (cond (Nat.beq g 54) (y7j k) (cond (Nat.beq g 55) (y9n k) (noOrc))) }
theorem y9q (k : Nat) : EnvOk (y9p k) := fun g => (orc_cond (y77 k) (orc_cond (y7k k) (orc_cond (y9o k) (noOrc_ok _ _))))
noncomputable def y9r : Code := (Try.f34.body).getD .skip
noncomputable def y9s : Code := ((loopsIn 0 y9r).getD 0 (0, .skip)).2
def y9t : List Nat := [1, 4, 5]
def y9u : List (Where × Co) := []
def y9v : Ex → List Nat
  | .exit j => cond (Nat.beq j 0) [4] []
  | .ret => [2, 3]
  | .normal => []
def y9w : Ex → List (Where × Co)
  | .exit j => cond (Nat.beq j 0) [] []
  | .ret => []
  | .normal => []
def y9x (pv : (Int × Int × Int × List Layer) × (Int × List Shape)) : St := { slots := [(1, .ptr 0 0 0), (4, .own 1), (5, .r [] (.int .i64 pv.2.1))], heap := [(0, .box [.r [] (.int .i64 pv.1.1), .r [] (.int .i64 pv.1.2.1), .r [] (.int .i64 pv.1.2.2.1), .r [] (.sl (.st .layer) pv.1.2.2.2)]), (1, .arr none (.st .shape) pv.2.2)], nid := 2, n := 49, gh := [] }
def y9y (nf : NF) : Option ((Int × Int × Int × List Layer) × (Int × List Shape)) := match nf with
  | ([.ptr 0 0 0, .own 1, .r [] (.int .i64 w0)], [.box [.r [] (.int .i64 w1), .r [] (.int .i64 w2), .r [] (.int .i64 w3), .r [] (.sl (.st .layer) w4)], .arr none (.st .shape) w5], []) => some ((w1, w2, w3, w4), (w0, w5))
  | _ => none
theorem y9z (nf : NF) (v : (Int × Int × Int × List Layer) × (Int × List Shape)) (h : y9y nf = some v) : denorm y9t 49 nf = y9x v := by
  unfold y9y at h
  split at h
  · cases h; rfl
  · cases h
def ya0 (p : Int × Int × Int × List Layer) (x : List Shape) : St := { slots := [(4, .own 0)], heap := [(0, .arr none (.st .shape) x)], nid := 1, n := 49, gh := [] }
def ya1 (p : Int × Int × Int × List Layer) (x : Bool) : St := { slots := [(2, .nilS), (3, .r [] (.bool x))], heap := [], nid := 0, n := 49, gh := [] }
def ya2 (ρ : Type) (k : Nat) : Nat → Ev ρ → Ev ρ := fun id f => cond (Nat.beq id 0) (loopOrc y9t y9u (fun n nf => cond (Nat.beq n 49) (y9y nf) none) fun pv K => iter (fun v next => S_l04Shapes_g0 k pv.1 v next (fun x => K (.exit 0) (ya0 pv.1 x)) (fun x => K .ret (ya1 pv.1 x))) k pv.2) ((fun _ _ _ _ => none) id f)
theorem ya3 {ρ : Type} (k : Nat) (p : Int × Int × Int × List Layer) (v : Int × List Shape) (K K1 : Ex → St → Option ρ) : ev (y9p k) (ya2 ρ k) 0 y9s (y9x (p, v)) (fun e st' => match e with
    | .normal => (normC y9t y9u st').bind fun nf => K1 .normal (denorm y9t st'.n nf)
    | e => (normC (y9v e) (y9w e) st').bind fun nf => K e (denorm (y9v e) st'.n nf)) = S_l04Shapes_g0 k p v (fun v' => K1 .normal (y9x (p, v'))) (fun x => K (.exit 0) (ya0 p x)) (fun x => K .ret (ya1 p x)) := by kernel_rfl
theorem ya4 {ρ : Type} (k : Nat) : Sound Try.prog (.loop y9s) (ya2 ρ k 0 fun st K => ev (y9p k) (ya2 ρ k) 0 y9s st K) :=
  loop_ok (ev_sound (y9q k) y9s 0 (lpgood_none (by kernel_rfl))) y9v y9w k (g := fun p v next K => S_l04Shapes_g0 k p v next (fun x => K (.exit 0) (ya0 p x)) (fun x => K .ret (ya1 p x))) (dec_at y9z) (fun p v K K1 => ya3 k p v K K1)
def ya5 (a : Model) : List Arg := [.agg [.int .i64 a.inp.h, .int .i64 a.inp.w, .int .i64 a.inp.c, .sl (.st .layer) a.layers]]
def ya6 (l : List Arg) : Option (Model) := match l with
  | [.agg [.int .i64 b0_0, .int .i64 b0_1, .int .i64 b0_2, .sl (.st .layer) b0_3]] => some (⟨(⟨b0_0, b0_1, b0_2⟩ : Shape), b0_3⟩ : Model)
  | _ => none
def ya7 (r : List Shape × Bool) : Out := (.tup [.own 0, .r [] (.bool r.2)], [.arr none (.st .shape) r.1])
def ya8 (o : Out) : Option (List Shape × Bool) := match o with
  | (.tup [.own 0, .r [] (.bool z2)], [.arr none (.st .shape) z1]) => some (z1, z2)
  | _ => none
def ya9 (k : Nat) : PG := fun _ l K => (ya6 l).bind fun a => (S_l04Shapes k a).bind fun r => K (ya7 r)
theorem yaa (k : Nat) (a : Model) : ev (y9p k) (ya2 (List Shape × Bool) k) 0 y9r (st0 Try.f34 (ya5 a)) (fin Try.prog Try.f34 (.tup [.own (.st .shape), .sc]) ya8) = S_l04Shapes k a := by kernel_rfl
theorem yab (k : Nat) : PureOk Try.prog 34 (ya9 k) :=
  pureOk_of_ev (y9q k) Try.func34 (by kernel_rfl) (by kernel_rfl) ya5 ya6
    (fun l a h => by unfold ya6 at h; split at h <;> first | (cases h; rfl) | cases h) (fun a => rfl) (lpgood_of (l := [(0, y9s)]) (by kernel_rfl) ⟨ya4 k, trivial⟩)
    (fun o r h => by unfold ya8 at h; split at h <;> first | (cases h; rfl) | cases h) (yaa k)
def yac (k : Nat) : Orc := pureOrc [.agg [(.int .i64), (.int .i64), (.int .i64), (.sl (.st .layer))]] (ya9 k)
theorem yad (k : Nat) : OrcOk Try.prog 34 (yac k) := pureOrc_ok (yab k)
noncomputable def yae (k : Nat) : Env := { P := Try.prog, tt := tt, orc := fun g => cond (Nat.beq g 34) (yac k) (noOrc) }
theorem yaf (k : Nat) : EnvOk (yae k) := fun g => (orc_cond (yad k) (noOrc_ok _ _))
noncomputable def yag : Code := (Try.f35.body).getD .skip
def yah (ρ : Type) (k : Nat) : Nat → Ev ρ → Ev ρ := fun _ _ _ _ => none
def yai (a : Model) : List Arg := [.agg [.int .i64 a.inp.h, .int .i64 a.inp.w, .int .i64 a.inp.c, .sl (.st .layer) a.layers]]
def yaj (l : List Arg) : Option (Model) := match l with
  | [.agg [.int .i64 b0_0, .int .i64 b0_1, .int .i64 b0_2, .sl (.st .layer) b0_3]] => some (⟨(⟨b0_0, b0_1, b0_2⟩ : Shape), b0_3⟩ : Model)
  | _ => none
def yak (r : Bool) : Out := (.r [] (.bool r), [])
def yal (o : Out) : Option (Bool) := match o with
  | (.r [] (.bool z1), []) => some z1
  | _ => none
def yam (k : Nat) : PG := fun _ l K => (yaj l).bind fun a => (S_ModelOk k a).bind fun r => K (yak r)
theorem yan (k : Nat) (a : Model) : ev (yae k) (yah (Bool) k) 0 yag (st0 Try.f35 (yai a)) (fin Try.prog Try.f35 (.sc) yal) = S_ModelOk k a := by kernel_rfl
theorem yao (k : Nat) : PureOk Try.prog 35 (yam k) :=
  pureOk_of_ev (yaf k) Try.func35 (by kernel_rfl) (by kernel_rfl) yai yaj
    (fun l a h => by unfold yaj at h; split at h <;> first | (cases h; rfl) | cases h) (fun a => rfl) (lpgood_none (by kernel_rfl))
    (fun o r h => by unfold yal at h; split at h <;> first | (cases h; rfl) | cases h) (yan k)
def yap (k : Nat) : Orc := pureOrc [.agg [(.int .i64), (.int .i64), (.int .i64), (.sl (.st .layer))]] (yam k)
theorem yaq (k : Nat) : OrcOk Try.prog 35 (yap k) := pureOrc_ok (yao k)
noncomputable def yar (k : Nat) : Env := { P := Try.prog, tt := tt, orc := fun g => cond (Nat.beq g 54) (y7j k) (cond (Nat.beq g 60) (y9a k) (cond (Nat.beq g 61) (y7w k) (noOrc))) }
theorem yas (k : Nat) : EnvOk (yar k) := fun g => (orc_cond (y7k k) (orc_cond (y9b k) (orc_cond (y7x k) (noOrc_ok _ _))))
noncomputable def yat : Code := (Try.f45.body).getD .skip
noncomputable def yau : Code := ((loopsIn 0 yat).getD 0 (0, .skip)).2
def yav : List Nat := [1, 3]
def yaw : List (Where × Co) := []
def yax : Ex → List Nat
  | .exit j => cond (Nat.beq j 0) [] []
  | .ret => [2]
  | .normal => []
def yay : Ex → List (Where × Co)
  | .exit j => cond (Nat.beq j 0) [] []
  | .ret => []
  | .normal => []
def yaz (pv : (Int × Int × Int × List Int) × (Int)) : St := { slots := [(1, .ptr 0 0 0), (3, .r [] (.int .i64 pv.2))], heap := [(0, .box [.r [] (.int .i64 pv.1.1), .r [] (.int .i64 pv.1.2.1), .r [] (.int .i64 pv.1.2.2.1), .r [] (.sl (.int .i64) pv.1.2.2.2)])], nid := 1, n := 31, gh := [] }
def yb0 (nf : NF) : Option ((Int × Int × Int × List Int) × (Int)) := match nf with
  | ([.ptr 0 0 0, .r [] (.int .i64 w0)], [.box [.r [] (.int .i64 w1), .r [] (.int .i64 w2), .r [] (.int .i64 w3), .r [] (.sl (.int .i64) w4)]], []) => some ((w1, w2, w3, w4), w0)
  | _ => none
theorem yb1 (nf : NF) (v : (Int × Int × Int × List Int) × (Int)) (h : yb0 nf = some v) : denorm yav 31 nf = yaz v := by
  unfold yb0 at h
  split at h
  · cases h; rfl
  · cases h
def yb2 (p : Int × Int × Int × List Int) (x : Unit) : St := { slots := [], heap := [], nid := 0, n := 31, gh := [] }
def yb3 (p : Int × Int × Int × List Int) (x : Bool) : St := { slots := [(2, .r [] (.bool x))], heap := [], nid := 0, n := 31, gh := [] }
def yb4 (ρ : Type) (k : Nat) : Nat → Ev ρ → Ev ρ := fun id f => cond (Nat.beq id 0) (loopOrc yav yaw (fun n nf => cond (Nat.beq n 31) (yb0 nf) none) fun pv K => iter (fun v next => S_TensorOk_g0 k pv.1 v next (fun x => K (.exit 0) (yb2 pv.1 x)) (fun x => K .ret (yb3 pv.1 x))) k pv.2) ((fun _ _ _ _ => none) id f)
theorem yb5 {ρ : Type} (k : Nat) (p : Int × Int × Int × List Int) (v : Int) (K K1 : Ex → St → Option ρ) : ev (yar k) (yb4 ρ k) 0 yau (yaz (p, v)) (fun e st' => match e with
    | .normal => (normC yav yaw st').bind fun nf => K1 .normal (denorm yav st'.n nf)
    | e => (normC (yax e) (yay e) st').bind fun nf => K e (denorm (yax e) st'.n nf)) = S_TensorOk_g0 k p v (fun v' => K1 .normal (yaz (p, v'))) (fun x => K (.exit 0) (yb2 p x)) (fun x => K .ret (yb3 p x)) := by kernel_rfl
theorem yb6 {ρ : Type} (k : Nat) : Sound Try.prog (.loop yau) (yb4 ρ k 0 fun st K => ev (yar k) (yb4 ρ k) 0 yau st K) :=
  loop_ok (ev_sound (yas k) yau 0 (lpgood_none (by kernel_rfl))) yax yay k (g := fun p v next K => S_TensorOk_g0 k p v next (fun x => K (.exit 0) (yb2 p x)) (fun x => K .ret (yb3 p x))) (dec_at yb1) (fun p v K K1 => yb5 k p v K K1)
def yb7 (a : Tensor) : List Arg := [.agg [.int .i64 a.sh.h, .int .i64 a.sh.w, .int .i64 a.sh.c, .sl (.int .i64) a.data]]
def yb8 (l : List Arg) : Option (Tensor) := match l with
  | [.agg [.int .i64 b0_0, .int .i64 b0_1, .int .i64 b0_2, .sl (.int .i64) b0_3]] => some (⟨(⟨b0_0, b0_1, b0_2⟩ : Shape), b0_3⟩ : Tensor)
  | _ => none
def yb9 (r : Bool) : Out := (.r [] (.bool r), [])
def yba (o : Out) : Option (Bool) := match o with
  | (.r [] (.bool z1), []) => some z1
  | _ => none
def ybb (k : Nat) : PG := fun _ l K => (yb8 l).bind fun a => (S_TensorOk k a).bind fun r => K (yb9 r)
theorem ybc (k : Nat) (a : Tensor) : ev (yar k) (yb4 (Bool) k) 0 yat (st0 Try.f45 (yb7 a)) (fin Try.prog Try.f45 (.sc) yba) = S_TensorOk k a := by kernel_rfl
theorem ybd (k : Nat) : PureOk Try.prog 45 (ybb k) :=
  pureOk_of_ev (yas k) Try.func45 (by kernel_rfl) (by kernel_rfl) yb7 yb8
    (fun l a h => by unfold yb8 at h; split at h <;> first | (cases h; rfl) | cases h) (fun a => rfl) (lpgood_of (l := [(0, yau)]) (by kernel_rfl) ⟨yb6 k, trivial⟩)
    (fun o r h => by unfold yba at h; split at h <;> first | (cases h; rfl) | cases h) (ybc k)
def ybe (k : Nat) : Orc := pureOrc [.agg [(.int .i64), (.int .i64), (.int .i64), (.sl (.int .i64))]] (ybb k)
theorem ybf (k : Nat) : OrcOk Try.prog 45 (ybe k) := pureOrc_ok (ybd k)
noncomputable def ybg (k : Nat) : Env := { P := Try.prog, tt := tt, orc := fun g => noOrc }
theorem ybh (k : Nat) : EnvOk (ybg k) := fun g => (noOrc_ok _ _)
noncomputable def ybi : Code := (Try.f56.body).getD .skip
noncomputable def ybj : Code := ((loopsIn 0 ybi).getD 0 (0, .skip)).2
def ybk : List Nat := [0, 3, 4]
def ybl : List (Where × Co) := []
def ybm : Ex → List Nat
  | .exit j => cond (Nat.beq j 0) [3] []
  | .ret => []
  | .normal => []
def ybn : Ex → List (Where × Co)
  | .exit j => cond (Nat.beq j 0) [] []
  | .ret => []
  | .normal => []
def ybo (pv : (List Int) × (Int × List Int)) : St := { slots := [(0, .r [] (.sl (.int .i64) pv.1)), (3, .own 0), (4, .r [] (.int .i64 pv.2.1))], heap := [(0, .arr none (.int .i64) pv.2.2)], nid := 1, n := 20, gh := [] }
def ybp (nf : NF) : Option ((List Int) × (Int × List Int)) := match nf with
  | ([.r [] (.sl (.int .i64) w0), .own 0, .r [] (.int .i64 w1)], [.arr none (.int .i64) w2], []) => some (w0, (w1, w2))
  | _ => none
theorem ybq (nf : NF) (v : (List Int) × (Int × List Int)) (h : ybp nf = some v) : denorm ybk 20 nf = ybo v := by
  unfold ybp at h
  split at h
  · cases h; rfl
  · cases h
def ybr (p : List Int) (x : List Int) : St := { slots := [(3, .own 0)], heap := [(0, .arr none (.int .i64) x)], nid := 1, n := 20, gh := [] }
def ybs (ρ : Type) (k : Nat) : Nat → Ev ρ → Ev ρ := fun id f => cond (Nat.beq id 0) (loopOrc ybk ybl (fun n nf => cond (Nat.beq n 20) (ybp nf) none) fun pv K => iter (fun v next => S_l01Copy_g0 k pv.1 v next (fun x => K (.exit 0) (ybr pv.1 x))) k pv.2) ((fun _ _ _ _ => none) id f)
theorem ybt {ρ : Type} (k : Nat) (p : List Int) (v : Int × List Int) (K K1 : Ex → St → Option ρ) : ev (ybg k) (ybs ρ k) 0 ybj (ybo (p, v)) (fun e st' => match e with
    | .normal => (normC ybk ybl st').bind fun nf => K1 .normal (denorm ybk st'.n nf)
    | e => (normC (ybm e) (ybn e) st').bind fun nf => K e (denorm (ybm e) st'.n nf)) = S_l01Copy_g0 k p v (fun v' => K1 .normal (ybo (p, v'))) (fun x => K (.exit 0) (ybr p x)) := by kernel_rfl
theorem ybu {ρ : Type} (k : Nat) : Sound Try.prog (.loop ybj) (ybs ρ k 0 fun st K => ev (ybg k) (ybs ρ k) 0 ybj st K) :=
  loop_ok (ev_sound (ybh k) ybj 0 (lpgood_none (by kernel_rfl))) ybm ybn k (g := fun p v next K => S_l01Copy_g0 k p v next (fun x => K (.exit 0) (ybr p x))) (dec_at ybq) (fun p v K K1 => ybt k p v K K1)
def ybv (a : List Int) : List Arg := [.one (.sl (.int .i64) a)]
def ybw (l : List Arg) : Option (List Int) := match l with
  | [.one (.sl (.int .i64) b0)] => some b0
  | _ => none
def ybx (r : List Int) : Out := (.own 0, [.arr none (.int .i64) r])
def yby (o : Out) : Option (List Int) := match o with
  | (.own 0, [.arr none (.int .i64) z1]) => some z1
  | _ => none
def ybz (k : Nat) : PG := fun _ l K => (ybw l).bind fun a => (S_l01Copy k a).bind fun r => K (ybx r)
theorem yc0 (k : Nat) (a : List Int) : ev (ybg k) (ybs (List Int) k) 0 ybi (st0 Try.f56 (ybv a)) (fin Try.prog Try.f56 (.own (.int .i64)) yby) = S_l01Copy k a := by kernel_rfl
theorem yc1 (k : Nat) : PureOk Try.prog 56 (ybz k) :=
  pureOk_of_ev (ybh k) Try.func56 (by kernel_rfl) (by kernel_rfl) ybv ybw
    (fun l a h => by unfold ybw at h; split at h <;> first | (cases h; rfl) | cases h) (fun a => rfl) (lpgood_of (l := [(0, ybj)]) (by kernel_rfl) ⟨ybu k, trivial⟩)
    (fun o r h => by unfold yby at h; split at h <;> first | (cases h; rfl) | cases h) (yc0 k)
def yc2 (k : Nat) : Orc := pureOrc [.one (.sl (.int .i64))] (ybz k)
theorem yc3 (k : Nat) : OrcOk Try.prog 56 (yc2 k) := pureOrc_ok (yc1 k)
noncomputable def yc4 (k : Nat) : Env := { P := Try.prog, tt := tt, orc := fun g => cond (Nat.beq g 56) (yc2 k) (noOrc) }
theorem yc5 (k : Nat) : EnvOk (yc4 k) := fun g => (orc_cond (yc3 k) (noOrc_ok _ _))
noncomputable def yc6 : Code := (Try.f46.body).getD .skip
def yc7 (ρ : Type) (k : Nat) : Nat → Ev ρ → Ev ρ := fun _ _ _ _ => none
def yc8 (a : Tensor) : List Arg := [.agg [.int .i64 a.sh.h, .int .i64 a.sh.w, .int .i64 a.sh.c, .sl (.int .i64) a.data]]
def yc9 (l : List Arg) : Option (Tensor) := match l with
  | [.agg [.int .i64 b0_0, .int .i64 b0_1, .int .i64 b0_2, .sl (.int .i64) b0_3]] => some (⟨(⟨b0_0, b0_1, b0_2⟩ : Shape), b0_3⟩ : Tensor)
  | _ => none
def yca (r : Tensor) : Out := (.agg [.r [] (.int .i64 r.sh.h), .r [] (.int .i64 r.sh.w), .r [] (.int .i64 r.sh.c), .own 0], [.arr none (.int .i64) r.data])
def ycb (o : Out) : Option (Tensor) := match o with
  | (.agg [.r [] (.int .i64 z1), .r [] (.int .i64 z2), .r [] (.int .i64 z3), .own 0], [.arr none (.int .i64) z4]) => some (⟨(⟨z1, z2, z3⟩ : Shape), z4⟩ : Tensor)
  | _ => none
def ycc (k : Nat) : PG := fun _ l K => (yc9 l).bind fun a => (S_l02Copy k a).bind fun r => K (yca r)
theorem ycd (k : Nat) (a : Tensor) : ev (yc4 k) (yc7 (Tensor) k) 0 yc6 (st0 Try.f46 (yc8 a)) (fin Try.prog Try.f46 (.agg [.sc, .sc, .sc, .own (.int .i64)]) ycb) = S_l02Copy k a := by kernel_rfl
theorem yce (k : Nat) : PureOk Try.prog 46 (ycc k) :=
  pureOk_of_ev (yc5 k) Try.func46 (by kernel_rfl) (by kernel_rfl) yc8 yc9
    (fun l a h => by unfold yc9 at h; split at h <;> first | (cases h; rfl) | cases h) (fun a => rfl) (lpgood_none (by kernel_rfl))
    (fun o r h => by unfold ycb at h; split at h <;> first | (cases h; rfl) | cases h) (ycd k)
def ycf (k : Nat) : Orc := pureOrc [.agg [(.int .i64), (.int .i64), (.int .i64), (.sl (.int .i64))]] (ycc k)
theorem ycg (k : Nat) : OrcOk Try.prog 46 (ycf k) := pureOrc_ok (yce k)
noncomputable def ych (k : Nat) : Env := { P := Try.prog, tt := tt, orc := fun g => noOrc }
theorem yci (k : Nat) : EnvOk (ych k) := fun g => (noOrc_ok _ _)
noncomputable def ycj : Code := (Try.f97.body).getD .skip
def yck (ρ : Type) (k : Nat) : Nat → Ev ρ → Ev ρ := fun _ _ _ _ => none
def ycl (a : Int × Int × Int) : List Arg := [.one (.int .i64 a.1), .one (.int .i64 a.2.1), .one (.int .i64 a.2.2)]
def ycm (l : List Arg) : Option (Int × Int × Int) := match l with
  | [.one (.int .i64 b0), .one (.int .i64 b1), .one (.int .i64 b2)] => some (b0, b1, b2)
  | _ => none
def ycn (r : Int) : Out := (.r [] (.int .i64 r), [])
def yco (o : Out) : Option (Int) := match o with
  | (.r [] (.int .i64 z1), []) => some z1
  | _ => none
def ycp (k : Nat) : PG := fun _ l K => (ycm l).bind fun a => (S_ClampTo k a.1 a.2.1 a.2.2).bind fun r => K (ycn r)
theorem ycq (k : Nat) (a : Int × Int × Int) : ev (ych k) (yck (Int) k) 0 ycj (st0 Try.f97 (ycl a)) (fin Try.prog Try.f97 (.sc) yco) = S_ClampTo k a.1 a.2.1 a.2.2 := by kernel_rfl
theorem ycr (k : Nat) : PureOk Try.prog 97 (ycp k) :=
  pureOk_of_ev (yci k) Try.func97 (by kernel_rfl) (by kernel_rfl) ycl ycm
    (fun l a h => by unfold ycm at h; split at h <;> first | (cases h; rfl) | cases h) (fun a => rfl) (lpgood_none (by kernel_rfl))
    (fun o r h => by unfold yco at h; split at h <;> first | (cases h; rfl) | cases h) (ycq k)
def ycs (k : Nat) : Orc := pureOrc [.one (.int .i64), .one (.int .i64), .one (.int .i64)] (ycp k)
theorem yct (k : Nat) : OrcOk Try.prog 97 (ycs k) := pureOrc_ok (ycr k)
noncomputable def ycu (k : Nat) : Env := { P := Try.prog, tt := tt, orc := fun g => cond (Nat.beq g 97) (ycs k) (noOrc) }
theorem ycv (k : Nat) : EnvOk (ycu k) := fun g => (orc_cond (yct k) (noOrc_ok _ _))
noncomputable def ycw : Code := (Try.f87.body).getD .skip
def ycx (ρ : Type) (k : Nat) : Nat → Ev ρ → Ev ρ := fun _ _ _ _ => none
def ycy (a : Int) : List Arg := [.one (.int .i64 a)]
def ycz (l : List Arg) : Option (Int) := match l with
  | [.one (.int .i64 b0)] => some b0
  | _ => none
def yd0 (r : Int) : Out := (.r [] (.int .i64 r), [])
def yd1 (o : Out) : Option (Int) := match o with
  | (.r [] (.int .i64 z1), []) => some z1
  | _ => none
def yd2 (k : Nat) : PG := fun _ l K => (ycz l).bind fun a => (S_Sat8 k a).bind fun r => K (yd0 r)
theorem yd3 (k : Nat) (a : Int) : ev (ycu k) (ycx (Int) k) 0 ycw (st0 Try.f87 (ycy a)) (fin Try.prog Try.f87 (.sc) yd1) = S_Sat8 k a := by kernel_rfl
theorem yd4 (k : Nat) : PureOk Try.prog 87 (yd2 k) :=
  pureOk_of_ev (ycv k) Try.func87 (by kernel_rfl) (by kernel_rfl) ycy ycz
    (fun l a h => by unfold ycz at h; split at h <;> first | (cases h; rfl) | cases h) (fun a => rfl) (lpgood_none (by kernel_rfl))
    (fun o r h => by unfold yd1 at h; split at h <;> first | (cases h; rfl) | cases h) (yd3 k)
def yd5 (k : Nat) : Orc := pureOrc [.one (.int .i64)] (yd2 k)
theorem yd6 (k : Nat) : OrcOk Try.prog 87 (yd5 k) := pureOrc_ok (yd4 k)
noncomputable def yd7 (k : Nat) : Env := { P := Try.prog, tt := tt, orc := fun g => cond (Nat.beq g 97) (ycs k) (noOrc) }
theorem yd8 (k : Nat) : EnvOk (yd7 k) := fun g => (orc_cond (yct k) (noOrc_ok _ _))
noncomputable def yd9 : Code := (Try.f90.body).getD .skip
def yda (ρ : Type) (k : Nat) : Nat → Ev ρ → Ev ρ := fun _ _ _ _ => none
def ydb (a : Int) : List Arg := [.one (.int .i64 a)]
def ydc (l : List Arg) : Option (Int) := match l with
  | [.one (.int .i64 b0)] => some b0
  | _ => none
def ydd (r : Int) : Out := (.r [] (.int .i64 r), [])
def yde (o : Out) : Option (Int) := match o with
  | (.r [] (.int .i64 z1), []) => some z1
  | _ => none
def ydf (k : Nat) : PG := fun _ l K => (ydc l).bind fun a => (S_Sat32 k a).bind fun r => K (ydd r)
theorem ydg (k : Nat) (a : Int) : ev (yd7 k) (yda (Int) k) 0 yd9 (st0 Try.f90 (ydb a)) (fin Try.prog Try.f90 (.sc) yde) = S_Sat32 k a := by kernel_rfl
theorem ydh (k : Nat) : PureOk Try.prog 90 (ydf k) :=
  pureOk_of_ev (yd8 k) Try.func90 (by kernel_rfl) (by kernel_rfl) ydb ydc
    (fun l a h => by unfold ydc at h; split at h <;> first | (cases h; rfl) | cases h) (fun a => rfl) (lpgood_none (by kernel_rfl))
    (fun o r h => by unfold yde at h; split at h <;> first | (cases h; rfl) | cases h) (ydg k)
def ydi (k : Nat) : Orc := pureOrc [.one (.int .i64)] (ydf k)
theorem ydj (k : Nat) : OrcOk Try.prog 90 (ydi k) := pureOrc_ok (ydh k)
noncomputable def ydk (k : Nat) : Env := { P := Try.prog, tt := tt, orc := fun g => cond (Nat.beq g 90) (ydi k) (noOrc) }
theorem ydl (k : Nat) : EnvOk (ydk k) := fun g => (orc_cond (ydj k) (noOrc_ok _ _))
noncomputable def ydm : Code := (Try.f71.body).getD .skip
def ydn (ρ : Type) (k : Nat) : Nat → Ev ρ → Ev ρ := fun _ _ _ _ => none
def ydo (a : Int × Int) : List Arg := [.one (.int .i64 a.1), .one (.int .i64 a.2)]
def ydp (l : List Arg) : Option (Int × Int) := match l with
  | [.one (.int .i64 b0), .one (.int .i64 b1)] => some (b0, b1)
  | _ => none
def ydq (r : Int) : Out := (.r [] (.int .i64 r), [])
def ydr (o : Out) : Option (Int) := match o with
  | (.r [] (.int .i64 z1), []) => some z1
  | _ => none
def yds (k : Nat) : PG := fun _ l K => (ydp l).bind fun a => (S_AddSat k a.1 a.2).bind fun r => K (ydq r)
theorem ydt (k : Nat) (a : Int × Int) : ev (ydk k) (ydn (Int) k) 0 ydm (st0 Try.f71 (ydo a)) (fin Try.prog Try.f71 (.sc) ydr) = S_AddSat k a.1 a.2 := by kernel_rfl
theorem ydu (k : Nat) : PureOk Try.prog 71 (yds k) :=
  pureOk_of_ev (ydl k) Try.func71 (by kernel_rfl) (by kernel_rfl) ydo ydp
    (fun l a h => by unfold ydp at h; split at h <;> first | (cases h; rfl) | cases h) (fun a => rfl) (lpgood_none (by kernel_rfl))
    (fun o r h => by unfold ydr at h; split at h <;> first | (cases h; rfl) | cases h) (ydt k)
def ydv (k : Nat) : Orc := pureOrc [.one (.int .i64), .one (.int .i64)] (yds k)
theorem ydw (k : Nat) : OrcOk Try.prog 71 (ydv k) := pureOrc_ok (ydu k)
noncomputable def ydx (k : Nat) : Env := { P := Try.prog, tt := tt, orc := fun g => cond (Nat.beq g 71) (ydv k) (cond (Nat.beq g 87) (yd5 k) (noOrc)) }
theorem ydy (k : Nat) : EnvOk (ydx k) := fun g => (orc_cond (ydw k) (orc_cond (yd6 k) (noOrc_ok _ _)))
noncomputable def ydz : Code := (Try.f72.body).getD .skip
noncomputable def ye0 : Code := ((loopsIn 0 ydz).getD 0 (0, .skip)).2
def ye1 : List Nat := [0, 1, 5, 6]
def ye2 : List (Where × Co) := []
def ye3 : Ex → List Nat
  | .exit j => cond (Nat.beq j 0) [5] []
  | .ret => []
  | .normal => []
def ye4 : Ex → List (Where × Co)
  | .exit j => cond (Nat.beq j 0) [] []
  | .ret => []
  | .normal => []
def ye5 (pv : (List Int × List Int) × (Int × Int)) : St := { slots := [(0, .r [] (.sl (.int .i64) pv.1.1)), (1, .r [] (.sl (.int .i64) pv.1.2)), (5, .r [] (.int .i64 pv.2.1)), (6, .r [] (.int .i64 pv.2.2))], heap := [], nid := 0, n := 33, gh := [] }
def ye6 (nf : NF) : Option ((List Int × List Int) × (Int × Int)) := match nf with
  | ([.r [] (.sl (.int .i64) w0), .r [] (.sl (.int .i64) w1), .r [] (.int .i64 w2), .r [] (.int .i64 w3)], [], []) => some ((w0, w1), (w2, w3))
  | _ => none
theorem ye7 (nf : NF) (v : (List Int × List Int) × (Int × Int)) (h : ye6 nf = some v) : denorm ye1 33 nf = ye5 v := by
  unfold ye6 at h
  split at h
  · cases h; rfl
  · cases h
def ye8 (p : List Int × List Int) (x : Int) : St := { slots := [(5, .r [] (.int .i64 x))], heap := [], nid := 0, n := 33, gh := [] }
def ye9 (ρ : Type) (k : Nat) : Nat → Ev ρ → Ev ρ := fun id f => cond (Nat.beq id 0) (loopOrc ye1 ye2 (fun n nf => cond (Nat.beq n 33) (ye6 nf) none) fun pv K => iter (fun v next => S_DotOf_g0 k pv.1 v next (fun x => K (.exit 0) (ye8 pv.1 x))) k pv.2) ((fun _ _ _ _ => none) id f)
theorem yea {ρ : Type} (k : Nat) (p : List Int × List Int) (v : Int × Int) (K K1 : Ex → St → Option ρ) : ev (ydx k) (ye9 ρ k) 0 ye0 (ye5 (p, v)) (fun e st' => match e with
    | .normal => (normC ye1 ye2 st').bind fun nf => K1 .normal (denorm ye1 st'.n nf)
    | e => (normC (ye3 e) (ye4 e) st').bind fun nf => K e (denorm (ye3 e) st'.n nf)) = S_DotOf_g0 k p v (fun v' => K1 .normal (ye5 (p, v'))) (fun x => K (.exit 0) (ye8 p x)) := by kernel_rfl
theorem yeb {ρ : Type} (k : Nat) : Sound Try.prog (.loop ye0) (ye9 ρ k 0 fun st K => ev (ydx k) (ye9 ρ k) 0 ye0 st K) :=
  loop_ok (ev_sound (ydy k) ye0 0 (lpgood_none (by kernel_rfl))) ye3 ye4 k (g := fun p v next K => S_DotOf_g0 k p v next (fun x => K (.exit 0) (ye8 p x))) (dec_at ye7) (fun p v K K1 => yea k p v K K1)
def yec (a : List Int × List Int) : List Arg := [.one (.sl (.int .i64) a.1), .one (.sl (.int .i64) a.2)]
def yed (l : List Arg) : Option (List Int × List Int) := match l with
  | [.one (.sl (.int .i64) b0), .one (.sl (.int .i64) b1)] => some (b0, b1)
  | _ => none
def yee (r : Int) : Out := (.r [] (.int .i64 r), [])
def yef (o : Out) : Option (Int) := match o with
  | (.r [] (.int .i64 z1), []) => some z1
  | _ => none
def yeg (k : Nat) : PG := fun _ l K => (yed l).bind fun a => (S_DotOf k a.1 a.2).bind fun r => K (yee r)
theorem yeh (k : Nat) (a : List Int × List Int) : ev (ydx k) (ye9 (Int) k) 0 ydz (st0 Try.f72 (yec a)) (fin Try.prog Try.f72 (.sc) yef) = S_DotOf k a.1 a.2 := by kernel_rfl
theorem yei (k : Nat) : PureOk Try.prog 72 (yeg k) :=
  pureOk_of_ev (ydy k) Try.func72 (by kernel_rfl) (by kernel_rfl) yec yed
    (fun l a h => by unfold yed at h; split at h <;> first | (cases h; rfl) | cases h) (fun a => rfl) (lpgood_of (l := [(0, ye0)]) (by kernel_rfl) ⟨yeb k, trivial⟩)
    (fun o r h => by unfold yef at h; split at h <;> first | (cases h; rfl) | cases h) (yeh k)
def yej (k : Nat) : Orc := pureOrc [.one (.sl (.int .i64)), .one (.sl (.int .i64))] (yeg k)
theorem yek (k : Nat) : OrcOk Try.prog 72 (yej k) := pureOrc_ok (yei k)
noncomputable def yel (k : Nat) : Env := { P := Try.prog, tt := tt, orc := fun g => noOrc }
theorem yem (k : Nat) : EnvOk (yel k) := fun g => (noOrc_ok _ _)
noncomputable def yen : Code := (Try.f98.body).getD .skip
def yeo (ρ : Type) (k : Nat) : Nat → Ev ρ → Ev ρ := fun _ _ _ _ => none
def yep (a : Int × Int) : List Arg := [.one (.int .i64 a.1), .one (.int .i64 a.2)]
def yeq (l : List Arg) : Option (Int × Int) := match l with
  | [.one (.int .i64 b0), .one (.int .i64 b1)] => some (b0, b1)
  | _ => none
def yer (r : Int) : Out := (.r [] (.int .i64 r), [])
def yet (o : Out) : Option (Int) := match o with
  | (.r [] (.int .i64 z1), []) => some z1
  | _ => none
def yeu (k : Nat) : PG := fun _ l K => (yeq l).bind fun a => (S_l01Down k a.1 a.2).bind fun r => K (yer r)
theorem yev (k : Nat) (a : Int × Int) : ev (yel k) (yeo (Int) k) 0 yen (st0 Try.f98 (yep a)) (fin Try.prog Try.f98 (.sc) yet) = S_l01Down k a.1 a.2 := by kernel_rfl
theorem yew (k : Nat) : PureOk Try.prog 98 (yeu k) :=
  pureOk_of_ev (yem k) Try.func98 (by kernel_rfl) (by kernel_rfl) yep yeq
    (fun l a h => by unfold yeq at h; split at h <;> first | (cases h; rfl) | cases h) (fun a => rfl) (lpgood_none (by kernel_rfl))
    (fun o r h => by unfold yet at h; split at h <;> first | (cases h; rfl) | cases h) (yev k)
def yex (k : Nat) : Orc := pureOrc [.one (.int .i64), .one (.int .i64)] (yeu k)
theorem yey (k : Nat) : OrcOk Try.prog 98 (yex k) := pureOrc_ok (yew k)
noncomputable def yez (k : Nat) : Env := { P := Try.prog, tt := tt, orc := fun g => cond (Nat.beq g 90) (ydi k) (cond (Nat.beq g 98) (yex k) (noOrc)) }
theorem yf0 (k : Nat) : EnvOk (yez k) := fun g => (orc_cond (ydj k) (orc_cond (yey k) (noOrc_ok _ _)))
noncomputable def yf1 : Code := (Try.f89.body).getD .skip
def yf2 (ρ : Type) (k : Nat) : Nat → Ev ρ → Ev ρ := fun _ _ _ _ => none
def yf3 (a : Int × Int) : List Arg := [.one (.int .i64 a.1), .one (.int .i64 a.2)]
def yf4 (l : List Arg) : Option (Int × Int) := match l with
  | [.one (.int .i64 b0), .one (.int .i64 b1)] => some (b0, b1)
  | _ => none
def yf5 (r : Int) : Out := (.r [] (.int .i64 r), [])
def yf6 (o : Out) : Option (Int) := match o with
  | (.r [] (.int .i64 z1), []) => some z1
  | _ => none
def yf7 (k : Nat) : PG := fun _ l K => (yf4 l).bind fun a => (S_MulHigh k a.1 a.2).bind fun r => K (yf5 r)
theorem yf8 (k : Nat) (a : Int × Int) : ev (yez k) (yf2 (Int) k) 0 yf1 (st0 Try.f89 (yf3 a)) (fin Try.prog Try.f89 (.sc) yf6) = S_MulHigh k a.1 a.2 := by kernel_rfl
theorem yf9 (k : Nat) : PureOk Try.prog 89 (yf7 k) :=
  pureOk_of_ev (yf0 k) Try.func89 (by kernel_rfl) (by kernel_rfl) yf3 yf4
    (fun l a h => by unfold yf4 at h; split at h <;> first | (cases h; rfl) | cases h) (fun a => rfl) (lpgood_none (by kernel_rfl))
    (fun o r h => by unfold yf6 at h; split at h <;> first | (cases h; rfl) | cases h) (yf8 k)
def yfa (k : Nat) : Orc := pureOrc [.one (.int .i64), .one (.int .i64)] (yf7 k)
theorem yfb (k : Nat) : OrcOk Try.prog 89 (yfa k) := pureOrc_ok (yf9 k)
noncomputable def yfc (k : Nat) : Env := { P := Try.prog, tt := tt, orc := fun g => cond (Nat.beq g 90) (ydi k) (cond (Nat.beq g 97) (ycs k) (noOrc)) }
theorem yfd (k : Nat) : EnvOk (yfc k) := fun g => (orc_cond (ydj k) (orc_cond (yct k) (noOrc_ok _ _)))
noncomputable def yfe : Code := (Try.f88.body).getD .skip
def yff (ρ : Type) (k : Nat) : Nat → Ev ρ → Ev ρ := fun _ _ _ _ => none
def yfg (a : Int × Int) : List Arg := [.one (.int .i64 a.1), .one (.int .i64 a.2)]
def yfh (l : List Arg) : Option (Int × Int) := match l with
  | [.one (.int .i64 b0), .one (.int .i64 b1)] => some (b0, b1)
  | _ => none
def yfi (r : Int) : Out := (.r [] (.int .i64 r), [])
def yfj (o : Out) : Option (Int) := match o with
  | (.r [] (.int .i64 z1), []) => some z1
  | _ => none
def yfk (k : Nat) : PG := fun _ l K => (yfh l).bind fun a => (S_RoundShift k a.1 a.2).bind fun r => K (yfi r)
theorem yfl (k : Nat) (a : Int × Int) : ev (yfc k) (yff (Int) k) 0 yfe (st0 Try.f88 (yfg a)) (fin Try.prog Try.f88 (.sc) yfj) = S_RoundShift k a.1 a.2 := by kernel_rfl
theorem yfm (k : Nat) : PureOk Try.prog 88 (yfk k) :=
  pureOk_of_ev (yfd k) Try.func88 (by kernel_rfl) (by kernel_rfl) yfg yfh
    (fun l a h => by unfold yfh at h; split at h <;> first | (cases h; rfl) | cases h) (fun a => rfl) (lpgood_none (by kernel_rfl))
    (fun o r h => by unfold yfj at h; split at h <;> first | (cases h; rfl) | cases h) (yfl k)
def yfn (k : Nat) : Orc := pureOrc [.one (.int .i64), .one (.int .i64)] (yfk k)
theorem yfo (k : Nat) : OrcOk Try.prog 88 (yfn k) := pureOrc_ok (yfm k)
noncomputable def yfp (k : Nat) : Env := { P := Try.prog, tt := tt, orc := fun g => cond (Nat.beq g 87) (yd5 k) (cond (Nat.beq g 88) (yfn k) (cond (Nat.beq g 89) (yfa k) (noOrc))) }
theorem yfq (k : Nat) : EnvOk (yfp k) := fun g => (orc_cond (yd6 k) (orc_cond (yfo k) (orc_cond (yfb k) (noOrc_ok _ _))))
noncomputable def yfr : Code := (Try.f70.body).getD .skip
def yfs (ρ : Type) (k : Nat) : Nat → Ev ρ → Ev ρ := fun _ _ _ _ => none
def yft (a : Int × Int × Int × Int) : List Arg := [.one (.int .i64 a.1), .one (.int .i64 a.2.1), .one (.int .i64 a.2.2.1), .one (.int .i64 a.2.2.2)]
def yfu (l : List Arg) : Option (Int × Int × Int × Int) := match l with
  | [.one (.int .i64 b0), .one (.int .i64 b1), .one (.int .i64 b2), .one (.int .i64 b3)] => some (b0, b1, b2, b3)
  | _ => none
def yfv (r : Int) : Out := (.r [] (.int .i64 r), [])
def yfw (o : Out) : Option (Int) := match o with
  | (.r [] (.int .i64 z1), []) => some z1
  | _ => none
def yfx (k : Nat) : PG := fun _ l K => (yfu l).bind fun a => (S_Requant k a.1 a.2.1 a.2.2.1 a.2.2.2).bind fun r => K (yfv r)
theorem yfy (k : Nat) (a : Int × Int × Int × Int) : ev (yfp k) (yfs (Int) k) 0 yfr (st0 Try.f70 (yft a)) (fin Try.prog Try.f70 (.sc) yfw) = S_Requant k a.1 a.2.1 a.2.2.1 a.2.2.2 := by kernel_rfl
theorem yfz (k : Nat) : PureOk Try.prog 70 (yfx k) :=
  pureOk_of_ev (yfq k) Try.func70 (by kernel_rfl) (by kernel_rfl) yft yfu
    (fun l a h => by unfold yfu at h; split at h <;> first | (cases h; rfl) | cases h) (fun a => rfl) (lpgood_none (by kernel_rfl))
    (fun o r h => by unfold yfw at h; split at h <;> first | (cases h; rfl) | cases h) (yfy k)
def yg0 (k : Nat) : Orc := pureOrc [.one (.int .i64), .one (.int .i64), .one (.int .i64), .one (.int .i64)] (yfx k)
theorem yg1 (k : Nat) : OrcOk Try.prog 70 (yg0 k) := pureOrc_ok (yfz k)
noncomputable def yg2 (k : Nat) : Env := { P := Try.prog, tt := tt, orc := fun g => cond (Nat.beq g 21) (y76 k) (cond (Nat.beq g 54) (y7j k) (noOrc)) }
theorem yg3 (k : Nat) : EnvOk (yg2 k) := fun g => (orc_cond (y77 k) (orc_cond (y7k k) (noOrc_ok _ _)))
noncomputable def yg4 : Code := (Try.f91.body).getD .skip
def yg5 (ρ : Type) (k : Nat) : Nat → Ev ρ → Ev ρ := fun _ _ _ _ => none
def yg6 (a : Shape × Int × Int × Int) : List Arg := [.agg [.int .i64 a.1.h, .int .i64 a.1.w, .int .i64 a.1.c], .one (.int .i64 a.2.1), .one (.int .i64 a.2.2.1), .one (.int .i64 a.2.2.2)]
def yg7 (l : List Arg) : Option (Shape × Int × Int × Int) := match l with
  | [.agg [.int .i64 b0_0, .int .i64 b0_1, .int .i64 b0_2], .one (.int .i64 b1), .one (.int .i64 b2), .one (.int .i64 b3)] => some ((⟨b0_0, b0_1, b0_2⟩ : Shape), b1, b2, b3)
  | _ => none
def yg8 (r : Int) : Out := (.r [] (.int .i64 r), [])
def yg9 (o : Out) : Option (Int) := match o with
  | (.r [] (.int .i64 z1), []) => some z1
  | _ => none
def yga (k : Nat) : PG := fun _ l K => (yg7 l).bind fun a => (S_PlaceOf k a.1 a.2.1 a.2.2.1 a.2.2.2).bind fun r => K (yg8 r)
theorem ygb (k : Nat) (a : Shape × Int × Int × Int) : ev (yg2 k) (yg5 (Int) k) 0 yg4 (st0 Try.f91 (yg6 a)) (fin Try.prog Try.f91 (.sc) yg9) = S_PlaceOf k a.1 a.2.1 a.2.2.1 a.2.2.2 := by kernel_rfl
theorem ygc (k : Nat) : PureOk Try.prog 91 (yga k) :=
  pureOk_of_ev (yg3 k) Try.func91 (by kernel_rfl) (by kernel_rfl) yg6 yg7
    (fun l a h => by unfold yg7 at h; split at h <;> first | (cases h; rfl) | cases h) (fun a => rfl) (lpgood_none (by kernel_rfl))
    (fun o r h => by unfold yg9 at h; split at h <;> first | (cases h; rfl) | cases h) (ygb k)
def ygd (k : Nat) : Orc := pureOrc [.agg [(.int .i64), (.int .i64), (.int .i64)], .one (.int .i64), .one (.int .i64), .one (.int .i64)] (yga k)
theorem yge (k : Nat) : OrcOk Try.prog 91 (ygd k) := pureOrc_ok (ygc k)
noncomputable def ygf (k : Nat) : Env := { P := Try.prog, tt := tt, orc := fun g => cond (Nat.beq g 45) (ybe k) (cond (Nat.beq g 91) (ygd k) (noOrc)) }
theorem ygg (k : Nat) : EnvOk (ygf k) := fun g => (orc_cond (ybf k) (orc_cond (yge k) (noOrc_ok _ _)))
noncomputable def ygh : Code := (Try.f73.body).getD .skip
def ygi (ρ : Type) (k : Nat) : Nat → Ev ρ → Ev ρ := fun _ _ _ _ => none
def ygj (a : Tensor × Int × Int × Int) : List Arg := [.agg [.int .i64 a.1.sh.h, .int .i64 a.1.sh.w, .int .i64 a.1.sh.c, .sl (.int .i64) a.1.data], .one (.int .i64 a.2.1), .one (.int .i64 a.2.2.1), .one (.int .i64 a.2.2.2)]
def ygk (l : List Arg) : Option (Tensor × Int × Int × Int) := match l with
  | [.agg [.int .i64 b0_0, .int .i64 b0_1, .int .i64 b0_2, .sl (.int .i64) b0_3], .one (.int .i64 b1), .one (.int .i64 b2), .one (.int .i64 b3)] => some ((⟨(⟨b0_0, b0_1, b0_2⟩ : Shape), b0_3⟩ : Tensor), b1, b2, b3)
  | _ => none
def ygl (r : Int × Bool) : Out := (.tup [.r [] (.int .i64 r.1), .r [] (.bool r.2)], [])
def ygm (o : Out) : Option (Int × Bool) := match o with
  | (.tup [.r [] (.int .i64 z1), .r [] (.bool z2)], []) => some (z1, z2)
  | _ => none
def ygn (k : Nat) : PG := fun _ l K => (ygk l).bind fun a => (S_ItemAt k a.1 a.2.1 a.2.2.1 a.2.2.2).bind fun r => K (ygl r)
theorem ygo (k : Nat) (a : Tensor × Int × Int × Int) : ev (ygf k) (ygi (Int × Bool) k) 0 ygh (st0 Try.f73 (ygj a)) (fin Try.prog Try.f73 (.tup [.sc, .sc]) ygm) = S_ItemAt k a.1 a.2.1 a.2.2.1 a.2.2.2 := by kernel_rfl
theorem ygp (k : Nat) : PureOk Try.prog 73 (ygn k) :=
  pureOk_of_ev (ygg k) Try.func73 (by kernel_rfl) (by kernel_rfl) ygj ygk
    (fun l a h => by unfold ygk at h; split at h <;> first | (cases h; rfl) | cases h) (fun a => rfl) (lpgood_none (by kernel_rfl))
    (fun o r h => by unfold ygm at h; split at h <;> first | (cases h; rfl) | cases h) (ygo k)
def ygq (k : Nat) : Orc := pureOrc [.agg [(.int .i64), (.int .i64), (.int .i64), (.sl (.int .i64))], .one (.int .i64), .one (.int .i64), .one (.int .i64)] (ygn k)
theorem ygr (k : Nat) : OrcOk Try.prog 73 (ygq k) := pureOrc_ok (ygp k)
noncomputable def ygs (k : Nat) : Env := { P := Try.prog, tt := tt, orc := fun g => cond (Nat.beq g 73) (ygq k) (noOrc) }
theorem ygt (k : Nat) : EnvOk (ygs k) := fun g => (orc_cond (ygr k) (noOrc_ok _ _))
noncomputable def ygu : Code := (Try.f74.body).getD .skip
noncomputable def ygv : Code := ((loopsIn 0 ygu).getD 0 (0, .skip)).2
noncomputable def ygw : Code := ((loopsIn 0 ygv).getD 0 (0, .skip)).2
def ygx : List Nat := [2, 3, 4, 5, 6, 11, 12, 13]
def ygy : List (Where × Co) := []
def ygz : Ex → List Nat
  | .exit j => cond (Nat.beq j 2) [2, 3, 4, 5, 6, 11, 12] []
  | .ret => []
  | .normal => []
def yh0 : Ex → List (Where × Co)
  | .exit j => cond (Nat.beq j 2) [] []
  | .ret => []
  | .normal => []
def yh1 (pv : (Int × Int × Int × Int × Int × Int × Int × List Int × Int × Int × Int × Int × Int × Int × Int × List Int × List Int) × (Int × List Int)) : St := { slots := [(2, .r [] (.int .i64 pv.1.1)), (3, .r [] (.int .i64 pv.1.2.1)), (4, .r [] (.int .i64 pv.1.2.2.1)), (5, .ptr 0 0 0), (6, .ptr 1 0 0), (11, .own 2), (12, .r [] (.int .i64 pv.1.2.2.2.1)), (13, .r [] (.int .i64 pv.2.1))], heap := [(0, .box [.r [] (.int .i64 pv.1.2.2.2.2.1), .r [] (.int .i64 pv.1.2.2.2.2.2.1), .r [] (.int .i64 pv.1.2.2.2.2.2.2.1), .r [] (.sl (.int .i64) pv.1.2.2.2.2.2.2.2.1)]), (1, .box [.r [] (.int .i64 pv.1.2.2.2.2.2.2.2.2.1), .r [] (.int .i64 pv.1.2.2.2.2.2.2.2.2.2.1), .r [] (.int .i64 pv.1.2.2.2.2.2.2.2.2.2.2.1), .r [] (.int .i64 pv.1.2.2.2.2.2.2.2.2.2.2.2.1), .r [] (.int .i64 pv.1.2.2.2.2.2.2.2.2.2.2.2.2.1), .r [] (.int .i64 pv.1.2.2.2.2.2.2.2.2.2.2.2.2.2.1), .r [] (.int .i64 pv.1.2.2.2.2.2.2.2.2.2.2.2.2.2.2.1), .r [] (.sl (.int .i64) pv.1.2.2.2.2.2.2.2.2.2.2.2.2.2.2.2.1), .r [] (.sl (.int .i64) pv.1.2.2.2.2.2.2.2.2.2.2.2.2.2.2.2.2)]), (2, .arr none (.int .i64) pv.2.2)], nid := 3, n := 52, gh := [] }
def yh2 (nf : NF) : Option ((Int × Int × Int × Int × Int × Int × Int × List Int × Int × Int × Int × Int × Int × Int × Int × List Int × List Int) × (Int × List Int)) := match nf with
  | ([.r [] (.int .i64 w0), .r [] (.int .i64 w1), .r [] (.int .i64 w2), .ptr 0 0 0, .ptr 1 0 0, .own 2, .r [] (.int .i64 w3), .r [] (.int .i64 w4)], [.box [.r [] (.int .i64 w5), .r [] (.int .i64 w6), .r [] (.int .i64 w7), .r [] (.sl (.int .i64) w8)], .box [.r [] (.int .i64 w9), .r [] (.int .i64 w10), .r [] (.int .i64 w11), .r [] (.int .i64 w12), .r [] (.int .i64 w13), .r [] (.int .i64 w14), .r [] (.int .i64 w15), .r [] (.sl (.int .i64) w16), .r [] (.sl (.int .i64) w17)], .arr none (.int .i64) w18], []) => some ((w0, w1, w2, w3, w5, w6, w7, w8, w9, w10, w11, w12, w13, w14, w15, w16, w17), (w4, w18))
  | _ => none
theorem yh3 (nf : NF) (v : (Int × Int × Int × Int × Int × Int × Int × List Int × Int × Int × Int × Int × Int × Int × Int × List Int × List Int) × (Int × List Int)) (h : yh2 nf = some v) : denorm ygx 52 nf = yh1 v := by
  unfold yh2 at h
  split at h
  · cases h; rfl
  · cases h
def yh4 (p : Int × Int × Int × Int × Int × Int × Int × List Int × Int × Int × Int × Int × Int × Int × Int × List Int × List Int) (x : List Int) : St := { slots := [(2, .r [] (.int .i64 p.1)), (3, .r [] (.int .i64 p.2.1)), (4, .r [] (.int .i64 p.2.2.1)), (5, .ptr 0 0 0), (6, .ptr 1 0 0), (11, .own 2), (12, .r [] (.int .i64 p.2.2.2.1))], heap := [(0, .box [.r [] (.int .i64 p.2.2.2.2.1), .r [] (.int .i64 p.2.2.2.2.2.1), .r [] (.int .i64 p.2.2.2.2.2.2.1), .r [] (.sl (.int .i64) p.2.2.2.2.2.2.2.1)]), (1, .box [.r [] (.int .i64 p.2.2.2.2.2.2.2.2.1), .r [] (.int .i64 p.2.2.2.2.2.2.2.2.2.1), .r [] (.int .i64 p.2.2.2.2.2.2.2.2.2.2.1), .r [] (.int .i64 p.2.2.2.2.2.2.2.2.2.2.2.1), .r [] (.int .i64 p.2.2.2.2.2.2.2.2.2.2.2.2.1), .r [] (.int .i64 p.2.2.2.2.2.2.2.2.2.2.2.2.2.1), .r [] (.int .i64 p.2.2.2.2.2.2.2.2.2.2.2.2.2.2.1), .r [] (.sl (.int .i64) p.2.2.2.2.2.2.2.2.2.2.2.2.2.2.2.1), .r [] (.sl (.int .i64) p.2.2.2.2.2.2.2.2.2.2.2.2.2.2.2.2)]), (2, .arr none (.int .i64) x)], nid := 3, n := 52, gh := [] }
def yh5 : List Nat := [2, 3, 4, 5, 6, 11, 12]
def yh6 : List (Where × Co) := []
def yh7 : Ex → List Nat
  | .exit j => cond (Nat.beq j 0) [11] []
  | .ret => []
  | .normal => []
def yh8 : Ex → List (Where × Co)
  | .exit j => cond (Nat.beq j 0) [] []
  | .ret => []
  | .normal => []
def yh9 (pv : (Int × Int × Int × Int × Int × Int × List Int × Int × Int × Int × Int × Int × Int × Int × List Int × List Int) × (Int × List Int)) : St := { slots := [(2, .r [] (.int .i64 pv.1.1)), (3, .r [] (.int .i64 pv.1.2.1)), (4, .r [] (.int .i64 pv.1.2.2.1)), (5, .ptr 0 0 0), (6, .ptr 1 0 0), (11, .own 2), (12, .r [] (.int .i64 pv.2.1))], heap := [(0, .box [.r [] (.int .i64 pv.1.2.2.2.1), .r [] (.int .i64 pv.1.2.2.2.2.1), .r [] (.int .i64 pv.1.2.2.2.2.2.1), .r [] (.sl (.int .i64) pv.1.2.2.2.2.2.2.1)]), (1, .box [.r [] (.int .i64 pv.1.2.2.2.2.2.2.2.1), .r [] (.int .i64 pv.1.2.2.2.2.2.2.2.2.1), .r [] (.int .i64 pv.1.2.2.2.2.2.2.2.2.2.1), .r [] (.int .i64 pv.1.2.2.2.2.2.2.2.2.2.2.1), .r [] (.int .i64 pv.1.2.2.2.2.2.2.2.2.2.2.2.1), .r [] (.int .i64 pv.1.2.2.2.2.2.2.2.2.2.2.2.2.1), .r [] (.int .i64 pv.1.2.2.2.2.2.2.2.2.2.2.2.2.2.1), .r [] (.sl (.int .i64) pv.1.2.2.2.2.2.2.2.2.2.2.2.2.2.2.1), .r [] (.sl (.int .i64) pv.1.2.2.2.2.2.2.2.2.2.2.2.2.2.2.2)]), (2, .arr none (.int .i64) pv.2.2)], nid := 3, n := 52, gh := [] }
def yha (nf : NF) : Option ((Int × Int × Int × Int × Int × Int × List Int × Int × Int × Int × Int × Int × Int × Int × List Int × List Int) × (Int × List Int)) := match nf with
  | ([.r [] (.int .i64 w0), .r [] (.int .i64 w1), .r [] (.int .i64 w2), .ptr 0 0 0, .ptr 1 0 0, .own 2, .r [] (.int .i64 w3)], [.box [.r [] (.int .i64 w4), .r [] (.int .i64 w5), .r [] (.int .i64 w6), .r [] (.sl (.int .i64) w7)], .box [.r [] (.int .i64 w8), .r [] (.int .i64 w9), .r [] (.int .i64 w10), .r [] (.int .i64 w11), .r [] (.int .i64 w12), .r [] (.int .i64 w13), .r [] (.int .i64 w14), .r [] (.sl (.int .i64) w15), .r [] (.sl (.int .i64) w16)], .arr none (.int .i64) w17], []) => some ((w0, w1, w2, w4, w5, w6, w7, w8, w9, w10, w11, w12, w13, w14, w15, w16), (w3, w17))
  | _ => none
theorem yhb (nf : NF) (v : (Int × Int × Int × Int × Int × Int × List Int × Int × Int × Int × Int × Int × Int × Int × List Int × List Int) × (Int × List Int)) (h : yha nf = some v) : denorm yh5 52 nf = yh9 v := by
  unfold yha at h
  split at h
  · cases h; rfl
  · cases h
def yhc (p : Int × Int × Int × Int × Int × Int × List Int × Int × Int × Int × Int × Int × Int × Int × List Int × List Int) (x : List Int) : St := { slots := [(11, .own 0)], heap := [(0, .arr none (.int .i64) x)], nid := 1, n := 52, gh := [] }
def yhd (ρ : Type) (k : Nat) : Nat → Ev ρ → Ev ρ := fun id f => cond (Nat.beq id 0) (loopOrc yh5 yh6 (fun n nf => cond (Nat.beq n 52) (yha nf) none) fun pv K => iter (fun v next => S_l03Pool_g0 k pv.1 v next (fun x => K (.exit 0) (yhc pv.1 x))) k pv.2) ((fun id f => cond (Nat.beq id 2) (loopOrc ygx ygy (fun n nf => cond (Nat.beq n 52) (yh2 nf) none) fun pv K => iter (fun v next => S_l03Pool_g1 k pv.1 v next (fun x => K (.exit 2) (yh4 pv.1 x))) k pv.2) ((fun _ _ _ _ => none) id f)) id f)
theorem yhe {ρ : Type} (k : Nat) (p : Int × Int × Int × Int × Int × Int × Int × List Int × Int × Int × Int × Int × Int × Int × Int × List Int × List Int) (v : Int × List Int) (K K1 : Ex → St → Option ρ) : ev (ygs k) (yhd ρ k) 2 ygw (yh1 (p, v)) (fun e st' => match e with
    | .normal => (normC ygx ygy st').bind fun nf => K1 .normal (denorm ygx st'.n nf)
    | e => (normC (ygz e) (yh0 e) st').bind fun nf => K e (denorm (ygz e) st'.n nf)) = S_l03Pool_g1 k p v (fun v' => K1 .normal (yh1 (p, v'))) (fun x => K (.exit 2) (yh4 p x)) := by kernel_rfl
theorem yhf {ρ : Type} (k : Nat) : Sound Try.prog (.loop ygw) (yhd ρ k 2 fun st K => ev (ygs k) (yhd ρ k) 2 ygw st K) :=
  loop_ok (ev_sound (ygt k) ygw 2 (lpgood_none (by kernel_rfl))) ygz yh0 k (g := fun p v next K => S_l03Pool_g1 k p v next (fun x => K (.exit 2) (yh4 p x))) (dec_at yh3) (fun p v K K1 => yhe k p v K K1)
theorem yhg {ρ : Type} (k : Nat) (p : Int × Int × Int × Int × Int × Int × List Int × Int × Int × Int × Int × Int × Int × Int × List Int × List Int) (v : Int × List Int) (K K1 : Ex → St → Option ρ) : ev (ygs k) (yhd ρ k) 0 ygv (yh9 (p, v)) (fun e st' => match e with
    | .normal => (normC yh5 yh6 st').bind fun nf => K1 .normal (denorm yh5 st'.n nf)
    | e => (normC (yh7 e) (yh8 e) st').bind fun nf => K e (denorm (yh7 e) st'.n nf)) = S_l03Pool_g0 k p v (fun v' => K1 .normal (yh9 (p, v'))) (fun x => K (.exit 0) (yhc p x)) := by kernel_rfl
theorem yhh {ρ : Type} (k : Nat) : Sound Try.prog (.loop ygv) (yhd ρ k 0 fun st K => ev (ygs k) (yhd ρ k) 0 ygv st K) :=
  loop_ok (ev_sound (ygt k) ygv 0 (lpgood_of (l := [(2, ygw)]) (by kernel_rfl) ⟨yhf k, trivial⟩)) yh7 yh8 k (g := fun p v next K => S_l03Pool_g0 k p v next (fun x => K (.exit 0) (yhc p x))) (dec_at yhb) (fun p v K K1 => yhg k p v K K1)
def yhi (a : Tensor × Layer × Int × Int × Int) : List Arg := [.agg [.int .i64 a.1.sh.h, .int .i64 a.1.sh.w, .int .i64 a.1.sh.c, .sl (.int .i64) a.1.data], .agg [.int .i64 a.2.1.kind, .int .i64 a.2.1.out, .int .i64 a.2.1.size, .int .i64 a.2.1.step, .int .i64 a.2.1.mult, .int .i64 a.2.1.shift, .int .i64 a.2.1.zero, .sl (.int .i64) a.2.1.weights, .sl (.int .i64) a.2.1.bias], .one (.int .i64 a.2.2.1), .one (.int .i64 a.2.2.2.1), .one (.int .i64 a.2.2.2.2)]
def yhj (l : List Arg) : Option (Tensor × Layer × Int × Int × Int) := match l with
  | [.agg [.int .i64 b0_0, .int .i64 b0_1, .int .i64 b0_2, .sl (.int .i64) b0_3], .agg [.int .i64 b1_0, .int .i64 b1_1, .int .i64 b1_2, .int .i64 b1_3, .int .i64 b1_4, .int .i64 b1_5, .int .i64 b1_6, .sl (.int .i64) b1_7, .sl (.int .i64) b1_8], .one (.int .i64 b2), .one (.int .i64 b3), .one (.int .i64 b4)] => some ((⟨(⟨b0_0, b0_1, b0_2⟩ : Shape), b0_3⟩ : Tensor), (⟨b1_0, b1_1, b1_2, b1_3, b1_4, b1_5, b1_6, b1_7, b1_8⟩ : Layer), b2, b3, b4)
  | _ => none
def yhk (r : List Int) : Out := (.own 0, [.arr none (.int .i64) r])
def yhl (o : Out) : Option (List Int) := match o with
  | (.own 0, [.arr none (.int .i64) z1]) => some z1
  | _ => none
def yhm (k : Nat) : PG := fun _ l K => (yhj l).bind fun a => (S_l03Pool k a.1 a.2.1 a.2.2.1 a.2.2.2.1 a.2.2.2.2).bind fun r => K (yhk r)
theorem yhn (k : Nat) (a : Tensor × Layer × Int × Int × Int) : ev (ygs k) (yhd (List Int) k) 0 ygu (st0 Try.f74 (yhi a)) (fin Try.prog Try.f74 (.own (.int .i64)) yhl) = S_l03Pool k a.1 a.2.1 a.2.2.1 a.2.2.2.1 a.2.2.2.2 := by kernel_rfl
theorem yho (k : Nat) : PureOk Try.prog 74 (yhm k) :=
  pureOk_of_ev (ygt k) Try.func74 (by kernel_rfl) (by kernel_rfl) yhi yhj
    (fun l a h => by unfold yhj at h; split at h <;> first | (cases h; rfl) | cases h) (fun a => rfl) (lpgood_of (l := [(0, ygv)]) (by kernel_rfl) ⟨yhh k, trivial⟩)
    (fun o r h => by unfold yhl at h; split at h <;> first | (cases h; rfl) | cases h) (yhn k)
def yhp (k : Nat) : Orc := pureOrc [.agg [(.int .i64), (.int .i64), (.int .i64), (.sl (.int .i64))], .agg [(.int .i64), (.int .i64), (.int .i64), (.int .i64), (.int .i64), (.int .i64), (.int .i64), (.sl (.int .i64)), (.sl (.int .i64))], .one (.int .i64), .one (.int .i64), .one (.int .i64)] (yhm k)
theorem yhq (k : Nat) : OrcOk Try.prog 74 (yhp k) := pureOrc_ok (yho k)
noncomputable def yhr (k : Nat) : Env := { P := Try.prog, tt := tt, orc := fun g => cond (Nat.beq g 60) (y9a k) (cond (Nat.beq g 70) (yg0 k) (cond (Nat.beq g 71) (ydv k) (cond (Nat.beq g 72) (yej k) (cond (Nat.beq g 73) (ygq k) (cond (Nat.beq g 74) (yhp k) (noOrc)))))) }
theorem yhs (k : Nat) : EnvOk (yhr k) := fun g => (orc_cond (y9b k) (orc_cond (yg1 k) (orc_cond (ydw k) (orc_cond (yek k) (orc_cond (ygr k) (orc_cond (yhq k) (noOrc_ok _ _)))))))
noncomputable def yht : Code := (Try.f62.body).getD .skip
noncomputable def yhu : Code := ((loopsIn 0 yht).getD 0 (0, .skip)).2
noncomputable def yhv : Code := ((loopsIn 1 yhu).getD 0 (0, .skip)).2
noncomputable def yhw : Code := ((loopsIn 3 yhv).getD 0 (0, .skip)).2
noncomputable def yhx : Code := ((loopsIn 0 yht).getD 1 (0, .skip)).2
noncomputable def yhy : Code := ((loopsIn 0 yht).getD 2 (0, .skip)).2
def yhz : List Nat := [2, 3, 4, 5, 6, 11, 13, 14, 15, 16]
def yi0 : List (Where × Co) := []
def yi1 : Ex → List Nat
  | .exit j => cond (Nat.beq j 5) [2, 3, 4, 5, 6, 11, 13, 14, 15] []
  | .ret => []
  | .normal => []
def yi2 : Ex → List (Where × Co)
  | .exit j => cond (Nat.beq j 5) [] []
  | .ret => []
  | .normal => []
def yi3 (pv : (Int × Int × Int × Int × Int × Int × Int × Int × List Int × Int × Int × Int × Int × Int × Int × Int × List Int × List Int × Int × Int × Int) × (Int × Int)) : St := { slots := [(2, .r [] (.int .i64 pv.1.1)), (3, .r [] (.int .i64 pv.1.2.1)), (4, .r [] (.int .i64 pv.1.2.2.1)), (5, .ptr 0 0 0), (6, .ptr 1 0 0), (11, .ptr 2 0 0), (13, .r [] (.int .i64 pv.2.1)), (14, .r [] (.int .i64 pv.1.2.2.2.1)), (15, .r [] (.int .i64 pv.1.2.2.2.2.1)), (16, .r [] (.int .i64 pv.2.2))], heap := [(0, .box [.r [] (.int .i64 pv.1.2.2.2.2.2.1), .r [] (.int .i64 pv.1.2.2.2.2.2.2.1), .r [] (.int .i64 pv.1.2.2.2.2.2.2.2.1), .r [] (.sl (.int .i64) pv.1.2.2.2.2.2.2.2.2.1)]), (1, .box [.r [] (.int .i64 pv.1.2.2.2.2.2.2.2.2.2.1), .r [] (.int .i64 pv.1.2.2.2.2.2.2.2.2.2.2.1), .r [] (.int .i64 pv.1.2.2.2.2.2.2.2.2.2.2.2.1), .r [] (.int .i64 pv.1.2.2.2.2.2.2.2.2.2.2.2.2.1), .r [] (.int .i64 pv.1.2.2.2.2.2.2.2.2.2.2.2.2.2.1), .r [] (.int .i64 pv.1.2.2.2.2.2.2.2.2.2.2.2.2.2.2.1), .r [] (.int .i64 pv.1.2.2.2.2.2.2.2.2.2.2.2.2.2.2.2.1), .r [] (.sl (.int .i64) pv.1.2.2.2.2.2.2.2.2.2.2.2.2.2.2.2.2.1), .r [] (.sl (.int .i64) pv.1.2.2.2.2.2.2.2.2.2.2.2.2.2.2.2.2.2.1)]), (2, .box [.r [] (.int .i64 pv.1.2.2.2.2.2.2.2.2.2.2.2.2.2.2.2.2.2.2.1), .r [] (.int .i64 pv.1.2.2.2.2.2.2.2.2.2.2.2.2.2.2.2.2.2.2.2.1), .r [] (.int .i64 pv.1.2.2.2.2.2.2.2.2.2.2.2.2.2.2.2.2.2.2.2.2)])], nid := 3, n := 228, gh := [] }
def yi4 (nf : NF) : Option ((Int × Int × Int × Int × Int × Int × Int × Int × List Int × Int × Int × Int × Int × Int × Int × Int × List Int × List Int × Int × Int × Int) × (Int × Int)) := match nf with
  | ([.r [] (.int .i64 w0), .r [] (.int .i64 w1), .r [] (.int .i64 w2), .ptr 0 0 0, .ptr 1 0 0, .ptr 2 0 0, .r [] (.int .i64 w3), .r [] (.int .i64 w4), .r [] (.int .i64 w5), .r [] (.int .i64 w6)], [.box [.r [] (.int .i64 w7), .r [] (.int .i64 w8), .r [] (.int .i64 w9), .r [] (.sl (.int .i64) w10)], .box [.r [] (.int .i64 w11), .r [] (.int .i64 w12), .r [] (.int .i64 w13), .r [] (.int .i64 w14), .r [] (.int .i64 w15), .r [] (.int .i64 w16), .r [] (.int .i64 w17), .r [] (.sl (.int .i64) w18), .r [] (.sl (.int .i64) w19)], .box [.r [] (.int .i64 w20), .r [] (.int .i64 w21), .r [] (.int .i64 w22)]], []) => some ((w0, w1, w2, w4, w5, w7, w8, w9, w10, w11, w12, w13, w14, w15, w16, w17, w18, w19, w20, w21, w22), (w3, w6))
  | _ => none
theorem yi5 (nf : NF) (v : (Int × Int × Int × Int × Int × Int × Int × Int × List Int × Int × Int × Int × Int × Int × Int × Int × List Int × List Int × Int × Int × Int) × (Int × Int)) (h : yi4 nf = some v) : denorm yhz 228 nf = yi3 v := by
  unfold yi4 at h
  split at h
  · cases h; rfl
  · cases h
def yi6 (p : Int × Int × Int × Int × Int × Int × Int × Int × List Int × Int × Int × Int × Int × Int × Int × Int × List Int × List Int × Int × Int × Int) (x : Int) : St := { slots := [(2, .r [] (.int .i64 p.1)), (3, .r [] (.int .i64 p.2.1)), (4, .r [] (.int .i64 p.2.2.1)), (5, .ptr 0 0 0), (6, .ptr 1 0 0), (11, .ptr 2 0 0), (13, .r [] (.int .i64 x)), (14, .r [] (.int .i64 p.2.2.2.1)), (15, .r [] (.int .i64 p.2.2.2.2.1))], heap := [(0, .box [.r [] (.int .i64 p.2.2.2.2.2.1), .r [] (.int .i64 p.2.2.2.2.2.2.1), .r [] (.int .i64 p.2.2.2.2.2.2.2.1), .r [] (.sl (.int .i64) p.2.2.2.2.2.2.2.2.1)]), (1, .box [.r [] (.int .i64 p.2.2.2.2.2.2.2.2.2.1), .r [] (.int .i64 p.2.2.2.2.2.2.2.2.2.2.1), .r [] (.int .i64 p.2.2.2.2.2.2.2.2.2.2.2.1), .r [] (.int .i64 p.2.2.2.2.2.2.2.2.2.2.2.2.1), .r [] (.int .i64 p.2.2.2.2.2.2.2.2.2.2.2.2.2.1), .r [] (.int .i64 p.2.2.2.2.2.2.2.2.2.2.2.2.2.2.1), .r [] (.int .i64 p.2.2.2.2.2.2.2.2.2.2.2.2.2.2.2.1), .r [] (.sl (.int .i64) p.2.2.2.2.2.2.2.2.2.2.2.2.2.2.2.2.1), .r [] (.sl (.int .i64) p.2.2.2.2.2.2.2.2.2.2.2.2.2.2.2.2.2.1)]), (2, .box [.r [] (.int .i64 p.2.2.2.2.2.2.2.2.2.2.2.2.2.2.2.2.2.2.1), .r [] (.int .i64 p.2.2.2.2.2.2.2.2.2.2.2.2.2.2.2.2.2.2.2.1), .r [] (.int .i64 p.2.2.2.2.2.2.2.2.2.2.2.2.2.2.2.2.2.2.2.2)])], nid := 3, n := 228, gh := [] }
def yi7 : List Nat := [2, 3, 4, 5, 6, 11, 13, 14, 15]
def yi8 : List (Where × Co) := []
def yi9 : Ex → List Nat
  | .exit j => cond (Nat.beq j 3) [2, 3, 4, 5, 6, 11, 13, 14] []
  | .ret => []
  | .normal => []
def yia : Ex → List (Where × Co)
  | .exit j => cond (Nat.beq j 3) [] []
  | .ret => []
  | .normal => []
def yib (pv : (Int × Int × Int × Int × Int × Int × Int × List Int × Int × Int × Int × Int × Int × Int × Int × List Int × List Int × Int × Int × Int) × (Int × Int)) : St := { slots := [(2, .r [] (.int .i64 pv.1.1)), (3, .r [] (.int .i64 pv.1.2.1)), (4, .r [] (.int .i64 pv.1.2.2.1)), (5, .ptr 0 0 0), (6, .ptr 1 0 0), (11, .ptr 2 0 0), (13, .r [] (.int .i64 pv.2.1)), (14, .r [] (.int .i64 pv.1.2.2.2.1)), (15, .r [] (.int .i64 pv.2.2))], heap := [(0, .box [.r [] (.int .i64 pv.1.2.2.2.2.1), .r [] (.int .i64 pv.1.2.2.2.2.2.1), .r [] (.int .i64 pv.1.2.2.2.2.2.2.1), .r [] (.sl (.int .i64) pv.1.2.2.2.2.2.2.2.1)]), (1, .box [.r [] (.int .i64 pv.1.2.2.2.2.2.2.2.2.1), .r [] (.int .i64 pv.1.2.2.2.2.2.2.2.2.2.1), .r [] (.int .i64 pv.1.2.2.2.2.2.2.2.2.2.2.1), .r [] (.int .i64 pv.1.2.2.2.2.2.2.2.2.2.2.2.1), .r [] (.int .i64 pv.1.2.2.2.2.2.2.2.2.2.2.2.2.1), .r [] (.int .i64 pv.1.2.2.2.2.2.2.2.2.2.2.2.2.2.1), .r [] (.int .i64 pv.1.2.2.2.2.2.2.2.2.2.2.2.2.2.2.1), .r [] (.sl (.int .i64) pv.1.2.2.2.2.2.2.2.2.2.2.2.2.2.2.2.1), .r [] (.sl (.int .i64) pv.1.2.2.2.2.2.2.2.2.2.2.2.2.2.2.2.2.1)]), (2, .box [.r [] (.int .i64 pv.1.2.2.2.2.2.2.2.2.2.2.2.2.2.2.2.2.2.1), .r [] (.int .i64 pv.1.2.2.2.2.2.2.2.2.2.2.2.2.2.2.2.2.2.2.1), .r [] (.int .i64 pv.1.2.2.2.2.2.2.2.2.2.2.2.2.2.2.2.2.2.2.2)])], nid := 3, n := 228, gh := [] }
def yic (nf : NF) : Option ((Int × Int × Int × Int × Int × Int × Int × List Int × Int × Int × Int × Int × Int × Int × Int × List Int × List Int × Int × Int × Int) × (Int × Int)) := match nf with
  | ([.r [] (.int .i64 w0), .r [] (.int .i64 w1), .r [] (.int .i64 w2), .ptr 0 0 0, .ptr 1 0 0, .ptr 2 0 0, .r [] (.int .i64 w3), .r [] (.int .i64 w4), .r [] (.int .i64 w5)], [.box [.r [] (.int .i64 w6), .r [] (.int .i64 w7), .r [] (.int .i64 w8), .r [] (.sl (.int .i64) w9)], .box [.r [] (.int .i64 w10), .r [] (.int .i64 w11), .r [] (.int .i64 w12), .r [] (.int .i64 w13), .r [] (.int .i64 w14), .r [] (.int .i64 w15), .r [] (.int .i64 w16), .r [] (.sl (.int .i64) w17), .r [] (.sl (.int .i64) w18)], .box [.r [] (.int .i64 w19), .r [] (.int .i64 w20), .r [] (.int .i64 w21)]], []) => some ((w0, w1, w2, w4, w6, w7, w8, w9, w10, w11, w12, w13, w14, w15, w16, w17, w18, w19, w20, w21), (w3, w5))
  | _ => none
theorem yid (nf : NF) (v : (Int × Int × Int × Int × Int × Int × Int × List Int × Int × Int × Int × Int × Int × Int × Int × List Int × List Int × Int × Int × Int) × (Int × Int)) (h : yic nf = some v) : denorm yi7 228 nf = yib v := by
  unfold yic at h
  split at h
  · cases h; rfl
  · cases h
def yie (p : Int × Int × Int × Int × Int × Int × Int × List Int × Int × Int × Int × Int × Int × Int × Int × List Int × List Int × Int × Int × Int) (x : Int) : St := { slots := [(2, .r [] (.int .i64 p.1)), (3, .r [] (.int .i64 p.2.1)), (4, .r [] (.int .i64 p.2.2.1)), (5, .ptr 0 0 0), (6, .ptr 1 0 0), (11, .ptr 2 0 0), (13, .r [] (.int .i64 x)), (14, .r [] (.int .i64 p.2.2.2.1))], heap := [(0, .box [.r [] (.int .i64 p.2.2.2.2.1), .r [] (.int .i64 p.2.2.2.2.2.1), .r [] (.int .i64 p.2.2.2.2.2.2.1), .r [] (.sl (.int .i64) p.2.2.2.2.2.2.2.1)]), (1, .box [.r [] (.int .i64 p.2.2.2.2.2.2.2.2.1), .r [] (.int .i64 p.2.2.2.2.2.2.2.2.2.1), .r [] (.int .i64 p.2.2.2.2.2.2.2.2.2.2.1), .r [] (.int .i64 p.2.2.2.2.2.2.2.2.2.2.2.1), .r [] (.int .i64 p.2.2.2.2.2.2.2.2.2.2.2.2.1), .r [] (.int .i64 p.2.2.2.2.2.2.2.2.2.2.2.2.2.1), .r [] (.int .i64 p.2.2.2.2.2.2.2.2.2.2.2.2.2.2.1), .r [] (.sl (.int .i64) p.2.2.2.2.2.2.2.2.2.2.2.2.2.2.2.1), .r [] (.sl (.int .i64) p.2.2.2.2.2.2.2.2.2.2.2.2.2.2.2.2.1)]), (2, .box [.r [] (.int .i64 p.2.2.2.2.2.2.2.2.2.2.2.2.2.2.2.2.2.1), .r [] (.int .i64 p.2.2.2.2.2.2.2.2.2.2.2.2.2.2.2.2.2.2.1), .r [] (.int .i64 p.2.2.2.2.2.2.2.2.2.2.2.2.2.2.2.2.2.2.2)])], nid := 3, n := 228, gh := [] }
def yif : List Nat := [2, 3, 4, 5, 6, 11, 13, 14]
def yig : List (Where × Co) := []
def yih : Ex → List Nat
  | .exit j => cond (Nat.beq j 1) [4, 6, 13] []
  | .ret => []
  | .normal => []
def yii : Ex → List (Where × Co)
  | .exit j => cond (Nat.beq j 1) [] []
  | .ret => []
  | .normal => []
def yij (pv : (Int × Int × Int × Int × Int × Int × List Int × Int × Int × Int × Int × Int × Int × Int × List Int × List Int × Int × Int × Int) × (Int × Int)) : St := { slots := [(2, .r [] (.int .i64 pv.1.1)), (3, .r [] (.int .i64 pv.1.2.1)), (4, .r [] (.int .i64 pv.1.2.2.1)), (5, .ptr 0 0 0), (6, .ptr 1 0 0), (11, .ptr 2 0 0), (13, .r [] (.int .i64 pv.2.1)), (14, .r [] (.int .i64 pv.2.2))], heap := [(0, .box [.r [] (.int .i64 pv.1.2.2.2.1), .r [] (.int .i64 pv.1.2.2.2.2.1), .r [] (.int .i64 pv.1.2.2.2.2.2.1), .r [] (.sl (.int .i64) pv.1.2.2.2.2.2.2.1)]), (1, .box [.r [] (.int .i64 pv.1.2.2.2.2.2.2.2.1), .r [] (.int .i64 pv.1.2.2.2.2.2.2.2.2.1), .r [] (.int .i64 pv.1.2.2.2.2.2.2.2.2.2.1), .r [] (.int .i64 pv.1.2.2.2.2.2.2.2.2.2.2.1), .r [] (.int .i64 pv.1.2.2.2.2.2.2.2.2.2.2.2.1), .r [] (.int .i64 pv.1.2.2.2.2.2.2.2.2.2.2.2.2.1), .r [] (.int .i64 pv.1.2.2.2.2.2.2.2.2.2.2.2.2.2.1), .r [] (.sl (.int .i64) pv.1.2.2.2.2.2.2.2.2.2.2.2.2.2.2.1), .r [] (.sl (.int .i64) pv.1.2.2.2.2.2.2.2.2.2.2.2.2.2.2.2.1)]), (2, .box [.r [] (.int .i64 pv.1.2.2.2.2.2.2.2.2.2.2.2.2.2.2.2.2.1), .r [] (.int .i64 pv.1.2.2.2.2.2.2.2.2.2.2.2.2.2.2.2.2.2.1), .r [] (.int .i64 pv.1.2.2.2.2.2.2.2.2.2.2.2.2.2.2.2.2.2.2)])], nid := 3, n := 228, gh := [] }
def yik (nf : NF) : Option ((Int × Int × Int × Int × Int × Int × List Int × Int × Int × Int × Int × Int × Int × Int × List Int × List Int × Int × Int × Int) × (Int × Int)) := match nf with
  | ([.r [] (.int .i64 w0), .r [] (.int .i64 w1), .r [] (.int .i64 w2), .ptr 0 0 0, .ptr 1 0 0, .ptr 2 0 0, .r [] (.int .i64 w3), .r [] (.int .i64 w4)], [.box [.r [] (.int .i64 w5), .r [] (.int .i64 w6), .r [] (.int .i64 w7), .r [] (.sl (.int .i64) w8)], .box [.r [] (.int .i64 w9), .r [] (.int .i64 w10), .r [] (.int .i64 w11), .r [] (.int .i64 w12), .r [] (.int .i64 w13), .r [] (.int .i64 w14), .r [] (.int .i64 w15), .r [] (.sl (.int .i64) w16), .r [] (.sl (.int .i64) w17)], .box [.r [] (.int .i64 w18), .r [] (.int .i64 w19), .r [] (.int .i64 w20)]], []) => some ((w0, w1, w2, w5, w6, w7, w8, w9, w10, w11, w12, w13, w14, w15, w16, w17, w18, w19, w20), (w3, w4))
  | _ => none
theorem yil (nf : NF) (v : (Int × Int × Int × Int × Int × Int × List Int × Int × Int × Int × Int × Int × Int × Int × List Int × List Int × Int × Int × Int) × (Int × Int)) (h : yik nf = some v) : denorm yif 228 nf = yij v := by
  unfold yik at h
  split at h
  · cases h; rfl
  · cases h
def yim (p : Int × Int × Int × Int × Int × Int × List Int × Int × Int × Int × Int × Int × Int × Int × List Int × List Int × Int × Int × Int) (x : Int) : St := { slots := [(4, .r [] (.int .i64 p.2.2.1)), (6, .ptr 0 0 0), (13, .r [] (.int .i64 x))], heap := [(0, .box [.r [] (.int .i64 p.2.2.2.2.2.2.2.1), .r [] (.int .i64 p.2.2.2.2.2.2.2.2.1), .r [] (.int .i64 p.2.2.2.2.2.2.2.2.2.1), .r [] (.int .i64 p.2.2.2.2.2.2.2.2.2.2.1), .r [] (.int .i64 p.2.2.2.2.2.2.2.2.2.2.2.1), .r [] (.int .i64 p.2.2.2.2.2.2.2.2.2.2.2.2.1), .r [] (.int .i64 p.2.2.2.2.2.2.2.2.2.2.2.2.2.1), .r [] (.sl (.int .i64) p.2.2.2.2.2.2.2.2.2.2.2.2.2.2.1), .r [] (.sl (.int .i64) p.2.2.2.2.2.2.2.2.2.2.2.2.2.2.2.1)])], nid := 1, n := 228, gh := [] }
def yin : List Nat := [19, 20, 21]
def yio : List (Where × Co) := []
def yip : Ex → List Nat
  | .exit j => cond (Nat.beq j 7) [20] []
  | .ret => []
  | .normal => []
def yiq : Ex → List (Where × Co)
  | .exit j => cond (Nat.beq j 7) [] []
  | .ret => []
  | .normal => []
def yir (pv : (List Int) × (Int × Int)) : St := { slots := [(19, .own 0), (20, .r [] (.int .i64 pv.2.1)), (21, .r [] (.int .i64 pv.2.2))], heap := [(0, .arr none (.int .i64) pv.1)], nid := 1, n := 228, gh := [] }
def yis (nf : NF) : Option ((List Int) × (Int × Int)) := match nf with
  | ([.own 0, .r [] (.int .i64 w0), .r [] (.int .i64 w1)], [.arr none (.int .i64) w2], []) => some (w2, (w0, w1))
  | _ => none
theorem yit (nf : NF) (v : (List Int) × (Int × Int)) (h : yis nf = some v) : denorm yin 228 nf = yir v := by
  unfold yis at h
  split at h
  · cases h; rfl
  · cases h
def yiu (p : List Int) (x : Int) : St := { slots := [(20, .r [] (.int .i64 x))], heap := [], nid := 0, n := 228, gh := [] }
def yiv : List Nat := [22, 23, 24]
def yiw : List (Where × Co) := []
def yix : Ex → List Nat
  | .exit j => cond (Nat.beq j 9) [22, 23] []
  | .ret => []
  | .normal => []
def yiy : Ex → List (Where × Co)
  | .exit j => cond (Nat.beq j 9) [] []
  | .ret => []
  | .normal => []
def yiz (pv : (List Int) × (Int × Int)) : St := { slots := [(22, .own 0), (23, .r [] (.int .i64 pv.2.1)), (24, .r [] (.int .i64 pv.2.2))], heap := [(0, .arr none (.int .i64) pv.1)], nid := 1, n := 228, gh := [] }
def yj0 (nf : NF) : Option ((List Int) × (Int × Int)) := match nf with
  | ([.own 0, .r [] (.int .i64 w0), .r [] (.int .i64 w1)], [.arr none (.int .i64) w2], []) => some (w2, (w0, w1))
  | _ => none
theorem yj1 (nf : NF) (v : (List Int) × (Int × Int)) (h : yj0 nf = some v) : denorm yiv 228 nf = yiz v := by
  unfold yj0 at h
  split at h
  · cases h; rfl
  · cases h
def yj2 (p : List Int) (x : Int) : St := { slots := [(22, .own 0), (23, .r [] (.int .i64 x))], heap := [(0, .arr none (.int .i64) p)], nid := 1, n := 228, gh := [] }
def yj3 (ρ : Type) (k : Nat) : Nat → Ev ρ → Ev ρ := fun id f => cond (Nat.beq id 9) (loopOrc yiv yiw (fun n nf => cond (Nat.beq n 228) (yj0 nf) none) fun pv K => iter (fun v next => S_l03Item_g4 k pv.1 v next (fun x => K (.exit 9) (yj2 pv.1 x))) k pv.2) ((fun id f => cond (Nat.beq id 7) (loopOrc yin yio (fun n nf => cond (Nat.beq n 228) (yis nf) none) fun pv K => iter (fun v next => S_l03Item_g3 k pv.1 v next (fun x => K (.exit 7) (yiu pv.1 x))) k pv.2) ((fun id f => cond (Nat.beq id 1) (loopOrc yif yig (fun n nf => cond (Nat.beq n 228) (yik nf) none) fun pv K => iter (fun v next => S_l03Item_g0 k pv.1 v next (fun x => K (.exit 1) (yim pv.1 x))) k pv.2) ((fun id f => cond (Nat.beq id 3) (loopOrc yi7 yi8 (fun n nf => cond (Nat.beq n 228) (yic nf) none) fun pv K => iter (fun v next => S_l03Item_g1 k pv.1 v next (fun x => K (.exit 3) (yie pv.1 x))) k pv.2) ((fun id f => cond (Nat.beq id 5) (loopOrc yhz yi0 (fun n nf => cond (Nat.beq n 228) (yi4 nf) none) fun pv K => iter (fun v next => S_l03Item_g2 k pv.1 v next (fun x => K (.exit 5) (yi6 pv.1 x))) k pv.2) ((fun _ _ _ _ => none) id f)) id f)) id f)) id f)) id f)
theorem yj4 {ρ : Type} (k : Nat) (p : Int × Int × Int × Int × Int × Int × Int × Int × List Int × Int × Int × Int × Int × Int × Int × Int × List Int × List Int × Int × Int × Int) (v : Int × Int) (K K1 : Ex → St → Option ρ) : ev (yhr k) (yj3 ρ k) 5 yhw (yi3 (p, v)) (fun e st' => match e with
    | .normal => (normC yhz yi0 st').bind fun nf => K1 .normal (denorm yhz st'.n nf)
    | e => (normC (yi1 e) (yi2 e) st').bind fun nf => K e (denorm (yi1 e) st'.n nf)) = S_l03Item_g2 k p v (fun v' => K1 .normal (yi3 (p, v'))) (fun x => K (.exit 5) (yi6 p x)) := by kernel_rfl
theorem yj5 {ρ : Type} (k : Nat) : Sound Try.prog (.loop yhw) (yj3 ρ k 5 fun st K => ev (yhr k) (yj3 ρ k) 5 yhw st K) :=
  loop_ok (ev_sound (yhs k) yhw 5 (lpgood_none (by kernel_rfl))) yi1 yi2 k (g := fun p v next K => S_l03Item_g2 k p v next (fun x => K (.exit 5) (yi6 p x))) (dec_at yi5) (fun p v K K1 => yj4 k p v K K1)
theorem yj6 {ρ : Type} (k : Nat) (p : Int × Int × Int × Int × Int × Int × Int × List Int × Int × Int × Int × Int × Int × Int × Int × List Int × List Int × Int × Int × Int) (v : Int × Int) (K K1 : Ex → St → Option ρ) : ev (yhr k) (yj3 ρ k) 3 yhv (yib (p, v)) (fun e st' => match e with
    | .normal => (normC yi7 yi8 st').bind fun nf => K1 .normal (denorm yi7 st'.n nf)
    | e => (normC (yi9 e) (yia e) st').bind fun nf => K e (denorm (yi9 e) st'.n nf)) = S_l03Item_g1 k p v (fun v' => K1 .normal (yib (p, v'))) (fun x => K (.exit 3) (yie p x)) := by kernel_rfl
theorem yj7 {ρ : Type} (k : Nat) : Sound Try.prog (.loop yhv) (yj3 ρ k 3 fun st K => ev (yhr k) (yj3 ρ k) 3 yhv st K) :=
  loop_ok (ev_sound (yhs k) yhv 3 (lpgood_of (l := [(5, yhw)]) (by kernel_rfl) ⟨yj5 k, trivial⟩)) yi9 yia k (g := fun p v next K => S_l03Item_g1 k p v next (fun x => K (.exit 3) (yie p x))) (dec_at yid) (fun p v K K1 => yj6 k p v K K1)
theorem yj8 {ρ : Type} (k : Nat) (p : Int × Int × Int × Int × Int × Int × List Int × Int × Int × Int × Int × Int × Int × Int × List Int × List Int × Int × Int × Int) (v : Int × Int) (K K1 : Ex → St → Option ρ) : ev (yhr k) (yj3 ρ k) 1 yhu (yij (p, v)) (fun e st' => match e with
    | .normal => (normC yif yig st').bind fun nf => K1 .normal (denorm yif st'.n nf)
    | e => (normC (yih e) (yii e) st').bind fun nf => K e (denorm (yih e) st'.n nf)) = S_l03Item_g0 k p v (fun v' => K1 .normal (yij (p, v'))) (fun x => K (.exit 1) (yim p x)) := by kernel_rfl
theorem yj9 {ρ : Type} (k : Nat) : Sound Try.prog (.loop yhu) (yj3 ρ k 1 fun st K => ev (yhr k) (yj3 ρ k) 1 yhu st K) :=
  loop_ok (ev_sound (yhs k) yhu 1 (lpgood_of (l := [(3, yhv)]) (by kernel_rfl) ⟨yj7 k, trivial⟩)) yih yii k (g := fun p v next K => S_l03Item_g0 k p v next (fun x => K (.exit 1) (yim p x))) (dec_at yil) (fun p v K K1 => yj8 k p v K K1)
theorem yja {ρ : Type} (k : Nat) (p : List Int) (v : Int × Int) (K K1 : Ex → St → Option ρ) : ev (yhr k) (yj3 ρ k) 7 yhx (yir (p, v)) (fun e st' => match e with
    | .normal => (normC yin yio st').bind fun nf => K1 .normal (denorm yin st'.n nf)
    | e => (normC (yip e) (yiq e) st').bind fun nf => K e (denorm (yip e) st'.n nf)) = S_l03Item_g3 k p v (fun v' => K1 .normal (yir (p, v'))) (fun x => K (.exit 7) (yiu p x)) := by kernel_rfl
theorem yjb {ρ : Type} (k : Nat) : Sound Try.prog (.loop yhx) (yj3 ρ k 7 fun st K => ev (yhr k) (yj3 ρ k) 7 yhx st K) :=
  loop_ok (ev_sound (yhs k) yhx 7 (lpgood_none (by kernel_rfl))) yip yiq k (g := fun p v next K => S_l03Item_g3 k p v next (fun x => K (.exit 7) (yiu p x))) (dec_at yit) (fun p v K K1 => yja k p v K K1)
theorem yjc {ρ : Type} (k : Nat) (p : List Int) (v : Int × Int) (K K1 : Ex → St → Option ρ) : ev (yhr k) (yj3 ρ k) 9 yhy (yiz (p, v)) (fun e st' => match e with
    | .normal => (normC yiv yiw st').bind fun nf => K1 .normal (denorm yiv st'.n nf)
    | e => (normC (yix e) (yiy e) st').bind fun nf => K e (denorm (yix e) st'.n nf)) = S_l03Item_g4 k p v (fun v' => K1 .normal (yiz (p, v'))) (fun x => K (.exit 9) (yj2 p x)) := by kernel_rfl
theorem yjd {ρ : Type} (k : Nat) : Sound Try.prog (.loop yhy) (yj3 ρ k 9 fun st K => ev (yhr k) (yj3 ρ k) 9 yhy st K) :=
  loop_ok (ev_sound (yhs k) yhy 9 (lpgood_none (by kernel_rfl))) yix yiy k (g := fun p v next K => S_l03Item_g4 k p v next (fun x => K (.exit 9) (yj2 p x))) (dec_at yj1) (fun p v K K1 => yjc k p v K K1)
def yje (a : Tensor × Layer × Int × Int × Int) : List Arg := [.agg [.int .i64 a.1.sh.h, .int .i64 a.1.sh.w, .int .i64 a.1.sh.c, .sl (.int .i64) a.1.data], .agg [.int .i64 a.2.1.kind, .int .i64 a.2.1.out, .int .i64 a.2.1.size, .int .i64 a.2.1.step, .int .i64 a.2.1.mult, .int .i64 a.2.1.shift, .int .i64 a.2.1.zero, .sl (.int .i64) a.2.1.weights, .sl (.int .i64) a.2.1.bias], .one (.int .i64 a.2.2.1), .one (.int .i64 a.2.2.2.1), .one (.int .i64 a.2.2.2.2)]
def yjf (l : List Arg) : Option (Tensor × Layer × Int × Int × Int) := match l with
  | [.agg [.int .i64 b0_0, .int .i64 b0_1, .int .i64 b0_2, .sl (.int .i64) b0_3], .agg [.int .i64 b1_0, .int .i64 b1_1, .int .i64 b1_2, .int .i64 b1_3, .int .i64 b1_4, .int .i64 b1_5, .int .i64 b1_6, .sl (.int .i64) b1_7, .sl (.int .i64) b1_8], .one (.int .i64 b2), .one (.int .i64 b3), .one (.int .i64 b4)] => some ((⟨(⟨b0_0, b0_1, b0_2⟩ : Shape), b0_3⟩ : Tensor), (⟨b1_0, b1_1, b1_2, b1_3, b1_4, b1_5, b1_6, b1_7, b1_8⟩ : Layer), b2, b3, b4)
  | _ => none
def yjg (r : Int) : Out := (.r [] (.int .i64 r), [])
def yjh (o : Out) : Option (Int) := match o with
  | (.r [] (.int .i64 z1), []) => some z1
  | _ => none
def yji (k : Nat) : PG := fun _ l K => (yjf l).bind fun a => (S_l03Item k a.1 a.2.1 a.2.2.1 a.2.2.2.1 a.2.2.2.2).bind fun r => K (yjg r)
theorem yjj (k : Nat) (a : Tensor × Layer × Int × Int × Int) : ev (yhr k) (yj3 (Int) k) 0 yht (st0 Try.f62 (yje a)) (fin Try.prog Try.f62 (.sc) yjh) = S_l03Item k a.1 a.2.1 a.2.2.1 a.2.2.2.1 a.2.2.2.2 := by kernel_rfl
theorem yjk (k : Nat) : PureOk Try.prog 62 (yji k) :=
  pureOk_of_ev (yhs k) Try.func62 (by kernel_rfl) (by kernel_rfl) yje yjf
    (fun l a h => by unfold yjf at h; split at h <;> first | (cases h; rfl) | cases h) (fun a => rfl) (lpgood_of (l := [(1, yhu), (7, yhx), (9, yhy)]) (by kernel_rfl) ⟨yj9 k, ⟨yjb k, ⟨yjd k, trivial⟩⟩⟩)
    (fun o r h => by unfold yjh at h; split at h <;> first | (cases h; rfl) | cases h) (yjj k)
def yjl (k : Nat) : Orc := pureOrc [.agg [(.int .i64), (.int .i64), (.int .i64), (.sl (.int .i64))], .agg [(.int .i64), (.int .i64), (.int .i64), (.int .i64), (.int .i64), (.int .i64), (.int .i64), (.sl (.int .i64)), (.sl (.int .i64))], .one (.int .i64), .one (.int .i64), .one (.int .i64)] (yji k)
theorem yjm (k : Nat) : OrcOk Try.prog 62 (yjl k) := pureOrc_ok (yjk k)
noncomputable def yjn (k : Nat) : Env := { P := Try.prog, tt := tt, orc := fun g => cond (Nat.beq g 45) (ybe k) (cond (Nat.beq g 55) (y9n k) (cond (Nat.beq g 62) (yjl k) (noOrc))) }
theorem yjo (k : Nat) : EnvOk (yjn k) := fun g => (orc_cond (ybf k) (orc_cond (y9o k) (orc_cond (yjm k) (noOrc_ok _ _))))
noncomputable def yjp : Code := (Try.f47.body).getD .skip
noncomputable def yjq : Code := ((loopsIn 0 yjp).getD 0 (0, .skip)).2
noncomputable def yjr : Code := ((loopsIn 0 yjq).getD 0 (0, .skip)).2
noncomputable def yjs : Code := ((loopsIn 2 yjr).getD 0 (0, .skip)).2
def yjt : List Nat := [2, 3, 4, 6, 8, 9, 10, 11]
def yju : List (Where × Co) := []
def yjv : Ex → List Nat
  | .exit j => cond (Nat.beq j 4) [2, 3, 4, 6, 8, 9, 10] []
  | .ret => []
  | .normal => []
def yjw : Ex → List (Where × Co)
  | .exit j => cond (Nat.beq j 4) [] []
  | .ret => []
  | .normal => []
def yjx (pv : (Int × Int × Int × Int × Int × List Int × Int × Int × Int × Int × Int × Int × Int × List Int × List Int × Int × Int × Int × Int × Int × Int × Int × Int × Int) × (Int × List Int)) : St := { slots := [(2, .ptr 0 0 0), (3, .ptr 1 0 0), (4, .ptr 2 0 0), (6, .ptr 3 0 0), (8, .ptr 4 0 0), (9, .r [] (.int .i64 pv.1.1)), (10, .r [] (.int .i64 pv.1.2.1)), (11, .r [] (.int .i64 pv.2.1))], heap := [(0, .box [.r [] (.int .i64 pv.1.2.2.1), .r [] (.int .i64 pv.1.2.2.2.1), .r [] (.int .i64 pv.1.2.2.2.2.1), .r [] (.sl (.int .i64) pv.1.2.2.2.2.2.1)]), (1, .box [.r [] (.int .i64 pv.1.2.2.2.2.2.2.1), .r [] (.int .i64 pv.1.2.2.2.2.2.2.2.1), .r [] (.int .i64 pv.1.2.2.2.2.2.2.2.2.1), .r [] (.int .i64 pv.1.2.2.2.2.2.2.2.2.2.1), .r [] (.int .i64 pv.1.2.2.2.2.2.2.2.2.2.2.1), .r [] (.int .i64 pv.1.2.2.2.2.2.2.2.2.2.2.2.1), .r [] (.int .i64 pv.1.2.2.2.2.2.2.2.2.2.2.2.2.1), .r [] (.sl (.int .i64) pv.1.2.2.2.2.2.2.2.2.2.2.2.2.2.1), .r [] (.sl (.int .i64) pv.1.2.2.2.2.2.2.2.2.2.2.2.2.2.2.1)]), (2, .box [.r [] (.int .i64 pv.1.2.2.2.2.2.2.2.2.2.2.2.2.2.2.2.1), .r [] (.int .i64 pv.1.2.2.2.2.2.2.2.2.2.2.2.2.2.2.2.2.1), .r [] (.int .i64 pv.1.2.2.2.2.2.2.2.2.2.2.2.2.2.2.2.2.2.1), .nilS]), (3, .box [.r [] (.int .i64 pv.1.2.2.2.2.2.2.2.2.2.2.2.2.2.2.2.2.2.2.1), .r [] (.int .i64 pv.1.2.2.2.2.2.2.2.2.2.2.2.2.2.2.2.2.2.2.2.1), .r [] (.int .i64 pv.1.2.2.2.2.2.2.2.2.2.2.2.2.2.2.2.2.2.2.2.2.1)]), (4, .box [.r [] (.int .i64 pv.1.2.2.2.2.2.2.2.2.2.2.2.2.2.2.2.2.2.2.2.2.2.1), .r [] (.int .i64 pv.1.2.2.2.2.2.2.2.2.2.2.2.2.2.2.2.2.2.2.2.2.2.2.1), .r [] (.int .i64 pv.1.2.2.2.2.2.2.2.2.2.2.2.2.2.2.2.2.2.2.2.2.2.2.2), .own 5]), (5, .arr none (.int .i64) pv.2.2)], nid := 6, n := 58, gh := [] }
def yjy (nf : NF) : Option ((Int × Int × Int × Int × Int × List Int × Int × Int × Int × Int × Int × Int × Int × List Int × List Int × Int × Int × Int × Int × Int × Int × Int × Int × Int) × (Int × List Int)) := match nf with
  | ([.ptr 0 0 0, .ptr 1 0 0, .ptr 2 0 0, .ptr 3 0 0, .ptr 4 0 0, .r [] (.int .i64 w0), .r [] (.int .i64 w1), .r [] (.int .i64 w2)], [.box [.r [] (.int .i64 w3), .r [] (.int .i64 w4), .r [] (.int .i64 w5), .r [] (.sl (.int .i64) w6)], .box [.r [] (.int .i64 w7), .r [] (.int .i64 w8), .r [] (.int .i64 w9), .r [] (.int .i64 w10), .r [] (.int .i64 w11), .r [] (.int .i64 w12), .r [] (.int .i64 w13), .r [] (.sl (.int .i64) w14), .r [] (.sl (.int .i64) w15)], .box [.r [] (.int .i64 w16), .r [] (.int .i64 w17), .r [] (.int .i64 w18), .nilS], .box [.r [] (.int .i64 w19), .r [] (.int .i64 w20), .r [] (.int .i64 w21)], .box [.r [] (.int .i64 w22), .r [] (.int .i64 w23), .r [] (.int .i64 w24), .own 5], .arr none (.int .i64) w25], []) => some ((w0, w1, w3, w4, w5, w6, w7, w8, w9, w10, w11, w12, w13, w14, w15, w16, w17, w18, w19, w20, w21, w22, w23, w24), (w2, w25))
  | _ => none
theorem yjz (nf : NF) (v : (Int × Int × Int × Int × Int × List Int × Int × Int × Int × Int × Int × Int × Int × List Int × List Int × Int × Int × Int × Int × Int × Int × Int × Int × Int) × (Int × List Int)) (h : yjy nf = some v) : denorm yjt 58 nf = yjx v := by
  unfold yjy at h
  split at h
  · cases h; rfl
  · cases h
def yk0 (p : Int × Int × Int × Int × Int × List Int × Int × Int × Int × Int × Int × Int × Int × List Int × List Int × Int × Int × Int × Int × Int × Int × Int × Int × Int) (x : List Int) : St := { slots := [(2, .ptr 0 0 0), (3, .ptr 1 0 0), (4, .ptr 2 0 0), (6, .ptr 3 0 0), (8, .ptr 4 0 0), (9, .r [] (.int .i64 p.1)), (10, .r [] (.int .i64 p.2.1))], heap := [(0, .box [.r [] (.int .i64 p.2.2.1), .r [] (.int .i64 p.2.2.2.1), .r [] (.int .i64 p.2.2.2.2.1), .r [] (.sl (.int .i64) p.2.2.2.2.2.1)]), (1, .box [.r [] (.int .i64 p.2.2.2.2.2.2.1), .r [] (.int .i64 p.2.2.2.2.2.2.2.1), .r [] (.int .i64 p.2.2.2.2.2.2.2.2.1), .r [] (.int .i64 p.2.2.2.2.2.2.2.2.2.1), .r [] (.int .i64 p.2.2.2.2.2.2.2.2.2.2.1), .r [] (.int .i64 p.2.2.2.2.2.2.2.2.2.2.2.1), .r [] (.int .i64 p.2.2.2.2.2.2.2.2.2.2.2.2.1), .r [] (.sl (.int .i64) p.2.2.2.2.2.2.2.2.2.2.2.2.2.1), .r [] (.sl (.int .i64) p.2.2.2.2.2.2.2.2.2.2.2.2.2.2.1)]), (2, .box [.r [] (.int .i64 p.2.2.2.2.2.2.2.2.2.2.2.2.2.2.2.1), .r [] (.int .i64 p.2.2.2.2.2.2.2.2.2.2.2.2.2.2.2.2.1), .r [] (.int .i64 p.2.2.2.2.2.2.2.2.2.2.2.2.2.2.2.2.2.1), .nilS]), (3, .box [.r [] (.int .i64 p.2.2.2.2.2.2.2.2.2.2.2.2.2.2.2.2.2.2.1), .r [] (.int .i64 p.2.2.2.2.2.2.2.2.2.2.2.2.2.2.2.2.2.2.2.1), .r [] (.int .i64 p.2.2.2.2.2.2.2.2.2.2.2.2.2.2.2.2.2.2.2.2.1)]), (4, .box [.r [] (.int .i64 p.2.2.2.2.2.2.2.2.2.2.2.2.2.2.2.2.2.2.2.2.2.1), .r [] (.int .i64 p.2.2.2.2.2.2.2.2.2.2.2.2.2.2.2.2.2.2.2.2.2.2.1), .r [] (.int .i64 p.2.2.2.2.2.2.2.2.2.2.2.2.2.2.2.2.2.2.2.2.2.2.2), .own 5]), (5, .arr none (.int .i64) x)], nid := 6, n := 58, gh := [] }
def yk1 : List Nat := [2, 3, 4, 6, 8, 9, 10]
def yk2 : List (Where × Co) := []
def yk3 : Ex → List Nat
  | .exit j => cond (Nat.beq j 2) [2, 3, 4, 6, 8, 9] []
  | .ret => []
  | .normal => []
def yk4 : Ex → List (Where × Co)
  | .exit j => cond (Nat.beq j 2) [] []
  | .ret => []
  | .normal => []
def yk5 (pv : (Int × Int × Int × Int × List Int × Int × Int × Int × Int × Int × Int × Int × List Int × List Int × Int × Int × Int × Int × Int × Int × Int × Int × Int) × (Int × List Int)) : St := { slots := [(2, .ptr 0 0 0), (3, .ptr 1 0 0), (4, .ptr 2 0 0), (6, .ptr 3 0 0), (8, .ptr 4 0 0), (9, .r [] (.int .i64 pv.1.1)), (10, .r [] (.int .i64 pv.2.1))], heap := [(0, .box [.r [] (.int .i64 pv.1.2.1), .r [] (.int .i64 pv.1.2.2.1), .r [] (.int .i64 pv.1.2.2.2.1), .r [] (.sl (.int .i64) pv.1.2.2.2.2.1)]), (1, .box [.r [] (.int .i64 pv.1.2.2.2.2.2.1), .r [] (.int .i64 pv.1.2.2.2.2.2.2.1), .r [] (.int .i64 pv.1.2.2.2.2.2.2.2.1), .r [] (.int .i64 pv.1.2.2.2.2.2.2.2.2.1), .r [] (.int .i64 pv.1.2.2.2.2.2.2.2.2.2.1), .r [] (.int .i64 pv.1.2.2.2.2.2.2.2.2.2.2.1), .r [] (.int .i64 pv.1.2.2.2.2.2.2.2.2.2.2.2.1), .r [] (.sl (.int .i64) pv.1.2.2.2.2.2.2.2.2.2.2.2.2.1), .r [] (.sl (.int .i64) pv.1.2.2.2.2.2.2.2.2.2.2.2.2.2.1)]), (2, .box [.r [] (.int .i64 pv.1.2.2.2.2.2.2.2.2.2.2.2.2.2.2.1), .r [] (.int .i64 pv.1.2.2.2.2.2.2.2.2.2.2.2.2.2.2.2.1), .r [] (.int .i64 pv.1.2.2.2.2.2.2.2.2.2.2.2.2.2.2.2.2.1), .nilS]), (3, .box [.r [] (.int .i64 pv.1.2.2.2.2.2.2.2.2.2.2.2.2.2.2.2.2.2.1), .r [] (.int .i64 pv.1.2.2.2.2.2.2.2.2.2.2.2.2.2.2.2.2.2.2.1), .r [] (.int .i64 pv.1.2.2.2.2.2.2.2.2.2.2.2.2.2.2.2.2.2.2.2.1)]), (4, .box [.r [] (.int .i64 pv.1.2.2.2.2.2.2.2.2.2.2.2.2.2.2.2.2.2.2.2.2.1), .r [] (.int .i64 pv.1.2.2.2.2.2.2.2.2.2.2.2.2.2.2.2.2.2.2.2.2.2.1), .r [] (.int .i64 pv.1.2.2.2.2.2.2.2.2.2.2.2.2.2.2.2.2.2.2.2.2.2.2), .own 5]), (5, .arr none (.int .i64) pv.2.2)], nid := 6, n := 58, gh := [] }
def yk6 (nf : NF) : Option ((Int × Int × Int × Int × List Int × Int × Int × Int × Int × Int × Int × Int × List Int × List Int × Int × Int × Int × Int × Int × Int × Int × Int × Int) × (Int × List Int)) := match nf with
  | ([.ptr 0 0 0, .ptr 1 0 0, .ptr 2 0 0, .ptr 3 0 0, .ptr 4 0 0, .r [] (.int .i64 w0), .r [] (.int .i64 w1)], [.box [.r [] (.int .i64 w2), .r [] (.int .i64 w3), .r [] (.int .i64 w4), .r [] (.sl (.int .i64) w5)], .box [.r [] (.int .i64 w6), .r [] (.int .i64 w7), .r [] (.int .i64 w8), .r [] (.int .i64 w9), .r [] (.int .i64 w10), .r [] (.int .i64 w11), .r [] (.int .i64 w12), .r [] (.sl (.int .i64) w13), .r [] (.sl (.int .i64) w14)], .box [.r [] (.int .i64 w15), .r [] (.int .i64 w16), .r [] (.int .i64 w17), .nilS], .box [.r [] (.int .i64 w18), .r [] (.int .i64 w19), .r [] (.int .i64 w20)], .box [.r [] (.int .i64 w21), .r [] (.int .i64 w22), .r [] (.int .i64 w23), .own 5], .arr none (.int .i64) w24], []) => some ((w0, w2, w3, w4, w5, w6, w7, w8, w9, w10, w11, w12, w13, w14, w15, w16, w17, w18, w19, w20, w21, w22, w23), (w1, w24))
  | _ => none
theorem yk7 (nf : NF) (v : (Int × Int × Int × Int × List Int × Int × Int × Int × Int × Int × Int × Int × List Int × List Int × Int × Int × Int × Int × Int × Int × Int × Int × Int) × (Int × List Int)) (h : yk6 nf = some v) : denorm yk1 58 nf = yk5 v := by
  unfold yk6 at h
  split at h
  · cases h; rfl
  · cases h
def yk8 (p : Int × Int × Int × Int × List Int × Int × Int × Int × Int × Int × Int × Int × List Int × List Int × Int × Int × Int × Int × Int × Int × Int × Int × Int) (x : List Int) : St := { slots := [(2, .ptr 0 0 0), (3, .ptr 1 0 0), (4, .ptr 2 0 0), (6, .ptr 3 0 0), (8, .ptr 4 0 0), (9, .r [] (.int .i64 p.1))], heap := [(0, .box [.r [] (.int .i64 p.2.1), .r [] (.int .i64 p.2.2.1), .r [] (.int .i64 p.2.2.2.1), .r [] (.sl (.int .i64) p.2.2.2.2.1)]), (1, .box [.r [] (.int .i64 p.2.2.2.2.2.1), .r [] (.int .i64 p.2.2.2.2.2.2.1), .r [] (.int .i64 p.2.2.2.2.2.2.2.1), .r [] (.int .i64 p.2.2.2.2.2.2.2.2.1), .r [] (.int .i64 p.2.2.2.2.2.2.2.2.2.1), .r [] (.int .i64 p.2.2.2.2.2.2.2.2.2.2.1), .r [] (.int .i64 p.2.2.2.2.2.2.2.2.2.2.2.1), .r [] (.sl (.int .i64) p.2.2.2.2.2.2.2.2.2.2.2.2.1), .r [] (.sl (.int .i64) p.2.2.2.2.2.2.2.2.2.2.2.2.2.1)]), (2, .box [.r [] (.int .i64 p.2.2.2.2.2.2.2.2.2.2.2.2.2.2.1), .r [] (.int .i64 p.2.2.2.2.2.2.2.2.2.2.2.2.2.2.2.1), .r [] (.int .i64 p.2.2.2.2.2.2.2.2.2.2.2.2.2.2.2.2.1), .nilS]), (3, .box [.r [] (.int .i64 p.2.2.2.2.2.2.2.2.2.2.2.2.2.2.2.2.2.1), .r [] (.int .i64 p.2.2.2.2.2.2.2.2.2.2.2.2.2.2.2.2.2.2.1), .r [] (.int .i64 p.2.2.2.2.2.2.2.2.2.2.2.2.2.2.2.2.2.2.2.1)]), (4, .box [.r [] (.int .i64 p.2.2.2.2.2.2.2.2.2.2.2.2.2.2.2.2.2.2.2.2.1), .r [] (.int .i64 p.2.2.2.2.2.2.2.2.2.2.2.2.2.2.2.2.2.2.2.2.2.1), .r [] (.int .i64 p.2.2.2.2.2.2.2.2.2.2.2.2.2.2.2.2.2.2.2.2.2.2), .own 5]), (5, .arr none (.int .i64) x)], nid := 6, n := 58, gh := [] }
def yk9 : List Nat := [2, 3, 4, 6, 8, 9]
def yka : List (Where × Co) := [((.pbox 8 3), (.nilOwn false (.int .i64)))]
def ykb : Ex → List Nat
  | .exit j => cond (Nat.beq j 0) [4, 8] []
  | .ret => []
  | .normal => []
def ykc : Ex → List (Where × Co)
  | .exit j => cond (Nat.beq j 0) [] []
  | .ret => []
  | .normal => []
def ykd (pv : (Int × Int × Int × List Int × Int × Int × Int × Int × Int × Int × Int × List Int × List Int × Int × Int × Int × Int × Int × Int × Int × Int × Int) × (Int × List Int)) : St := { slots := [(2, .ptr 0 0 0), (3, .ptr 1 0 0), (4, .ptr 2 0 0), (6, .ptr 3 0 0), (8, .ptr 4 0 0), (9, .r [] (.int .i64 pv.2.1))], heap := [(0, .box [.r [] (.int .i64 pv.1.1), .r [] (.int .i64 pv.1.2.1), .r [] (.int .i64 pv.1.2.2.1), .r [] (.sl (.int .i64) pv.1.2.2.2.1)]), (1, .box [.r [] (.int .i64 pv.1.2.2.2.2.1), .r [] (.int .i64 pv.1.2.2.2.2.2.1), .r [] (.int .i64 pv.1.2.2.2.2.2.2.1), .r [] (.int .i64 pv.1.2.2.2.2.2.2.2.1), .r [] (.int .i64 pv.1.2.2.2.2.2.2.2.2.1), .r [] (.int .i64 pv.1.2.2.2.2.2.2.2.2.2.1), .r [] (.int .i64 pv.1.2.2.2.2.2.2.2.2.2.2.1), .r [] (.sl (.int .i64) pv.1.2.2.2.2.2.2.2.2.2.2.2.1), .r [] (.sl (.int .i64) pv.1.2.2.2.2.2.2.2.2.2.2.2.2.1)]), (2, .box [.r [] (.int .i64 pv.1.2.2.2.2.2.2.2.2.2.2.2.2.2.1), .r [] (.int .i64 pv.1.2.2.2.2.2.2.2.2.2.2.2.2.2.2.1), .r [] (.int .i64 pv.1.2.2.2.2.2.2.2.2.2.2.2.2.2.2.2.1), .nilS]), (3, .box [.r [] (.int .i64 pv.1.2.2.2.2.2.2.2.2.2.2.2.2.2.2.2.2.1), .r [] (.int .i64 pv.1.2.2.2.2.2.2.2.2.2.2.2.2.2.2.2.2.2.1), .r [] (.int .i64 pv.1.2.2.2.2.2.2.2.2.2.2.2.2.2.2.2.2.2.2.1)]), (4, .box [.r [] (.int .i64 pv.1.2.2.2.2.2.2.2.2.2.2.2.2.2.2.2.2.2.2.2.1), .r [] (.int .i64 pv.1.2.2.2.2.2.2.2.2.2.2.2.2.2.2.2.2.2.2.2.2.1), .r [] (.int .i64 pv.1.2.2.2.2.2.2.2.2.2.2.2.2.2.2.2.2.2.2.2.2.2), .own 5]), (5, .arr none (.int .i64) pv.2.2)], nid := 6, n := 58, gh := [] }
def yke (nf : NF) : Option ((Int × Int × Int × List Int × Int × Int × Int × Int × Int × Int × Int × List Int × List Int × Int × Int × Int × Int × Int × Int × Int × Int × Int) × (Int × List Int)) := match nf with
  | ([.ptr 0 0 0, .ptr 1 0 0, .ptr 2 0 0, .ptr 3 0 0, .ptr 4 0 0, .r [] (.int .i64 w0)], [.box [.r [] (.int .i64 w1), .r [] (.int .i64 w2), .r [] (.int .i64 w3), .r [] (.sl (.int .i64) w4)], .box [.r [] (.int .i64 w5), .r [] (.int .i64 w6), .r [] (.int .i64 w7), .r [] (.int .i64 w8), .r [] (.int .i64 w9), .r [] (.int .i64 w10), .r [] (.int .i64 w11), .r [] (.sl (.int .i64) w12), .r [] (.sl (.int .i64) w13)], .box [.r [] (.int .i64 w14), .r [] (.int .i64 w15), .r [] (.int .i64 w16), .nilS], .box [.r [] (.int .i64 w17), .r [] (.int .i64 w18), .r [] (.int .i64 w19)], .box [.r [] (.int .i64 w20), .r [] (.int .i64 w21), .r [] (.int .i64 w22), .own 5], .arr none (.int .i64) w23], []) => some ((w1, w2, w3, w4, w5, w6, w7, w8, w9, w10, w11, w12, w13, w14, w15, w16, w17, w18, w19, w20, w21, w22), (w0, w23))
  | _ => none
theorem ykf (nf : NF) (v : (Int × Int × Int × List Int × Int × Int × Int × Int × Int × Int × Int × List Int × List Int × Int × Int × Int × Int × Int × Int × Int × Int × Int) × (Int × List Int)) (h : yke nf = some v) : denorm yk9 58 nf = ykd v := by
  unfold yke at h
  split at h
  · cases h; rfl
  · cases h
def ykg (p : Int × Int × Int × List Int × Int × Int × Int × Int × Int × Int × Int × List Int × List Int × Int × Int × Int × Int × Int × Int × Int × Int × Int) (x : List Int) : St := { slots := [(4, .ptr 0 0 0), (8, .ptr 1 0 0)], heap := [(0, .box [.r [] (.int .i64 p.2.2.2.2.2.2.2.2.2.2.2.2.2.1), .r [] (.int .i64 p.2.2.2.2.2.2.2.2.2.2.2.2.2.2.1), .r [] (.int .i64 p.2.2.2.2.2.2.2.2.2.2.2.2.2.2.2.1), .nilS]), (1, .box [.r [] (.int .i64 p.2.2.2.2.2.2.2.2.2.2.2.2.2.2.2.2.2.2.2.1), .r [] (.int .i64 p.2.2.2.2.2.2.2.2.2.2.2.2.2.2.2.2.2.2.2.2.1), .r [] (.int .i64 p.2.2.2.2.2.2.2.2.2.2.2.2.2.2.2.2.2.2.2.2.2), .own 2]), (2, .arr none (.int .i64) x)], nid := 3, n := 58, gh := [] }
def ykh (ρ : Type) (k : Nat) : Nat → Ev ρ → Ev ρ := fun id f => cond (Nat.beq id 0) (loopOrc yk9 yka (fun n nf => cond (Nat.beq n 58) (yke nf) none) fun pv K => iter (fun v next => S_RunLayer_g0 k pv.1 v next (fun x => K (.exit 0) (ykg pv.1 x))) k pv.2) ((fun id f => cond (Nat.beq id 2) (loopOrc yk1 yk2 (fun n nf => cond (Nat.beq n 58) (yk6 nf) none) fun pv K => iter (fun v next => S_RunLayer_g1 k pv.1 v next (fun x => K (.exit 2) (yk8 pv.1 x))) k pv.2) ((fun id f => cond (Nat.beq id 4) (loopOrc yjt yju (fun n nf => cond (Nat.beq n 58) (yjy nf) none) fun pv K => iter (fun v next => S_RunLayer_g2 k pv.1 v next (fun x => K (.exit 4) (yk0 pv.1 x))) k pv.2) ((fun _ _ _ _ => none) id f)) id f)) id f)
theorem yki {ρ : Type} (k : Nat) (p : Int × Int × Int × Int × Int × List Int × Int × Int × Int × Int × Int × Int × Int × List Int × List Int × Int × Int × Int × Int × Int × Int × Int × Int × Int) (v : Int × List Int) (K K1 : Ex → St → Option ρ) : ev (yjn k) (ykh ρ k) 4 yjs (yjx (p, v)) (fun e st' => match e with
    | .normal => (normC yjt yju st').bind fun nf => K1 .normal (denorm yjt st'.n nf)
    | e => (normC (yjv e) (yjw e) st').bind fun nf => K e (denorm (yjv e) st'.n nf)) = S_RunLayer_g2 k p v (fun v' => K1 .normal (yjx (p, v'))) (fun x => K (.exit 4) (yk0 p x)) := by kernel_rfl
theorem ykj {ρ : Type} (k : Nat) : Sound Try.prog (.loop yjs) (ykh ρ k 4 fun st K => ev (yjn k) (ykh ρ k) 4 yjs st K) :=
  loop_ok (ev_sound (yjo k) yjs 4 (lpgood_none (by kernel_rfl))) yjv yjw k (g := fun p v next K => S_RunLayer_g2 k p v next (fun x => K (.exit 4) (yk0 p x))) (dec_at yjz) (fun p v K K1 => yki k p v K K1)
theorem ykk {ρ : Type} (k : Nat) (p : Int × Int × Int × Int × List Int × Int × Int × Int × Int × Int × Int × Int × List Int × List Int × Int × Int × Int × Int × Int × Int × Int × Int × Int) (v : Int × List Int) (K K1 : Ex → St → Option ρ) : ev (yjn k) (ykh ρ k) 2 yjr (yk5 (p, v)) (fun e st' => match e with
    | .normal => (normC yk1 yk2 st').bind fun nf => K1 .normal (denorm yk1 st'.n nf)
    | e => (normC (yk3 e) (yk4 e) st').bind fun nf => K e (denorm (yk3 e) st'.n nf)) = S_RunLayer_g1 k p v (fun v' => K1 .normal (yk5 (p, v'))) (fun x => K (.exit 2) (yk8 p x)) := by kernel_rfl
theorem ykl {ρ : Type} (k : Nat) : Sound Try.prog (.loop yjr) (ykh ρ k 2 fun st K => ev (yjn k) (ykh ρ k) 2 yjr st K) :=
  loop_ok (ev_sound (yjo k) yjr 2 (lpgood_of (l := [(4, yjs)]) (by kernel_rfl) ⟨ykj k, trivial⟩)) yk3 yk4 k (g := fun p v next K => S_RunLayer_g1 k p v next (fun x => K (.exit 2) (yk8 p x))) (dec_at yk7) (fun p v K K1 => ykk k p v K K1)
theorem ykm {ρ : Type} (k : Nat) (p : Int × Int × Int × List Int × Int × Int × Int × Int × Int × Int × Int × List Int × List Int × Int × Int × Int × Int × Int × Int × Int × Int × Int) (v : Int × List Int) (K K1 : Ex → St → Option ρ) : ev (yjn k) (ykh ρ k) 0 yjq (ykd (p, v)) (fun e st' => match e with
    | .normal => (normC yk9 yka st').bind fun nf => K1 .normal (denorm yk9 st'.n nf)
    | e => (normC (ykb e) (ykc e) st').bind fun nf => K e (denorm (ykb e) st'.n nf)) = S_RunLayer_g0 k p v (fun v' => K1 .normal (ykd (p, v'))) (fun x => K (.exit 0) (ykg p x)) := by kernel_rfl
theorem ykn {ρ : Type} (k : Nat) : Sound Try.prog (.loop yjq) (ykh ρ k 0 fun st K => ev (yjn k) (ykh ρ k) 0 yjq st K) :=
  loop_ok (ev_sound (yjo k) yjq 0 (lpgood_of (l := [(2, yjr)]) (by kernel_rfl) ⟨ykl k, trivial⟩)) ykb ykc k (g := fun p v next K => S_RunLayer_g0 k p v next (fun x => K (.exit 0) (ykg p x))) (dec_at ykf) (fun p v K K1 => ykm k p v K K1)
def yko (a : Tensor × Layer) : List Arg := [.agg [.int .i64 a.1.sh.h, .int .i64 a.1.sh.w, .int .i64 a.1.sh.c, .sl (.int .i64) a.1.data], .agg [.int .i64 a.2.kind, .int .i64 a.2.out, .int .i64 a.2.size, .int .i64 a.2.step, .int .i64 a.2.mult, .int .i64 a.2.shift, .int .i64 a.2.zero, .sl (.int .i64) a.2.weights, .sl (.int .i64) a.2.bias]]
def ykp (l : List Arg) : Option (Tensor × Layer) := match l with
  | [.agg [.int .i64 b0_0, .int .i64 b0_1, .int .i64 b0_2, .sl (.int .i64) b0_3], .agg [.int .i64 b1_0, .int .i64 b1_1, .int .i64 b1_2, .int .i64 b1_3, .int .i64 b1_4, .int .i64 b1_5, .int .i64 b1_6, .sl (.int .i64) b1_7, .sl (.int .i64) b1_8]] => some ((⟨(⟨b0_0, b0_1, b0_2⟩ : Shape), b0_3⟩ : Tensor), (⟨b1_0, b1_1, b1_2, b1_3, b1_4, b1_5, b1_6, b1_7, b1_8⟩ : Layer))
  | _ => none
def ykq (r : Tensor × Bool) : Out := (.tup [.agg [.r [] (.int .i64 r.1.sh.h), .r [] (.int .i64 r.1.sh.w), .r [] (.int .i64 r.1.sh.c), .own 0], .r [] (.bool r.2)], [.arr none (.int .i64) r.1.data])
def ykr (o : Out) : Option (Tensor × Bool) := match o with
  | (.tup [.agg [.r [] (.int .i64 z1), .r [] (.int .i64 z2), .r [] (.int .i64 z3), .own 0], .r [] (.bool z5)], [.arr none (.int .i64) z4]) => some ((⟨(⟨z1, z2, z3⟩ : Shape), z4⟩ : Tensor), z5)
  | _ => none
def yks (k : Nat) : PG := fun _ l K => (ykp l).bind fun a => (S_RunLayer k a.1 a.2).bind fun r => K (ykq r)
theorem ykt (k : Nat) (a : Tensor × Layer) : ev (yjn k) (ykh (Tensor × Bool) k) 0 yjp (st0 Try.f47 (yko a)) (fin Try.prog Try.f47 (.tup [.agg [.sc, .sc, .sc, .own (.int .i64)], .sc]) ykr) = S_RunLayer k a.1 a.2 := by kernel_rfl
theorem yku (k : Nat) : PureOk Try.prog 47 (yks k) :=
  pureOk_of_ev (yjo k) Try.func47 (by kernel_rfl) (by kernel_rfl) yko ykp
    (fun l a h => by unfold ykp at h; split at h <;> first | (cases h; rfl) | cases h) (fun a => rfl) (lpgood_of (l := [(0, yjq)]) (by kernel_rfl) ⟨ykn k, trivial⟩)
    (fun o r h => by unfold ykr at h; split at h <;> first | (cases h; rfl) | cases h) (ykt k)
def ykv (k : Nat) : Orc := pureOrc [.agg [(.int .i64), (.int .i64), (.int .i64), (.sl (.int .i64))], .agg [(.int .i64), (.int .i64), (.int .i64), (.int .i64), (.int .i64), (.int .i64), (.int .i64), (.sl (.int .i64)), (.sl (.int .i64))]] (yks k)
theorem ykw (k : Nat) : OrcOk Try.prog 47 (ykv k) := pureOrc_ok (yku k)
noncomputable def ykx (k : Nat) : Env := { P := Try.prog, tt := tt, orc := fun g => cond (Nat.beq g 35) (yap k) (cond (Nat.beq g 45) (ybe k) (cond (Nat.beq g 46) (ycf k) (cond (Nat.beq g 47) (ykv k) (noOrc)))) }
theorem yky (k : Nat) : EnvOk (ykx k) := fun g => (orc_cond (yaq k) (orc_cond (ybf k) (orc_cond (ycg k) (orc_cond (ykw k) (noOrc_ok _ _)))))
noncomputable def ykz : Code := (Try.f22.body).getD .skip
noncomputable def yl0 : Code := ((loopsIn 0 ykz).getD 0 (0, .skip)).2
def yl1 : List Nat := [2, 4, 6, 7]
def yl2 : List (Where × Co) := []
def yl3 : Ex → List Nat
  | .exit j => cond (Nat.beq j 0) [4, 6] []
  | .ret => []
  | .normal => []
def yl4 : Ex → List (Where × Co)
  | .exit j => cond (Nat.beq j 0) [] []
  | .ret => []
  | .normal => []
def yl5 (pv : (Int × Int × Int × List Layer × Int × Int × Int) × (Int × Int × Int × Int × List Int)) : St := { slots := [(2, .ptr 0 0 0), (4, .ptr 1 0 0), (6, .ptr 2 0 0), (7, .r [] (.int .i64 pv.2.1))], heap := [(0, .box [.r [] (.int .i64 pv.1.1), .r [] (.int .i64 pv.1.2.1), .r [] (.int .i64 pv.1.2.2.1), .r [] (.sl (.st .layer) pv.1.2.2.2.1)]), (1, .box [.r [] (.int .i64 pv.1.2.2.2.2.1), .r [] (.int .i64 pv.1.2.2.2.2.2.1), .r [] (.int .i64 pv.1.2.2.2.2.2.2), .nilS]), (2, .box [.r [] (.int .i64 pv.2.2.1), .r [] (.int .i64 pv.2.2.2.1), .r [] (.int .i64 pv.2.2.2.2.1), .own 3]), (3, .arr none (.int .i64) pv.2.2.2.2.2)], nid := 4, n := 44, gh := [] }
def yl6 (nf : NF) : Option ((Int × Int × Int × List Layer × Int × Int × Int) × (Int × Int × Int × Int × List Int)) := match nf with
  | ([.ptr 0 0 0, .ptr 1 0 0, .ptr 2 0 0, .r [] (.int .i64 w0)], [.box [.r [] (.int .i64 w1), .r [] (.int .i64 w2), .r [] (.int .i64 w3), .r [] (.sl (.st .layer) w4)], .box [.r [] (.int .i64 w5), .r [] (.int .i64 w6), .r [] (.int .i64 w7), .nilS], .box [.r [] (.int .i64 w8), .r [] (.int .i64 w9), .r [] (.int .i64 w10), .own 3], .arr none (.int .i64) w11], []) => some ((w1, w2, w3, w4, w5, w6, w7), (w0, w8, w9, w10, w11))
  | _ => none
theorem yl7 (nf : NF) (v : (Int × Int × Int × List Layer × Int × Int × Int) × (Int × Int × Int × Int × List Int)) (h : yl6 nf = some v) : denorm yl1 44 nf = yl5 v := by
  unfold yl6 at h
  split at h
  · cases h; rfl
  · cases h
def yl8 (p : Int × Int × Int × List Layer × Int × Int × Int) (x : Int × Int × Int × List Int) : St := { slots := [(4, .ptr 0 0 0), (6, .ptr 1 0 0)], heap := [(0, .box [.r [] (.int .i64 p.2.2.2.2.1), .r [] (.int .i64 p.2.2.2.2.2.1), .r [] (.int .i64 p.2.2.2.2.2.2), .nilS]), (1, .box [.r [] (.int .i64 x.1), .r [] (.int .i64 x.2.1), .r [] (.int .i64 x.2.2.1), .own 2]), (2, .arr none (.int .i64) x.2.2.2)], nid := 3, n := 44, gh := [] }
def yl9 (ρ : Type) (k : Nat) : Nat → Ev ρ → Ev ρ := fun id f => cond (Nat.beq id 0) (loopOrc yl1 yl2 (fun n nf => cond (Nat.beq n 44) (yl6 nf) none) fun pv K => iter (fun v next => S_EvalModel_g0 k pv.1 v next (fun x => K (.exit 0) (yl8 pv.1 x))) k pv.2) ((fun _ _ _ _ => none) id f)
theorem yla {ρ : Type} (k : Nat) (p : Int × Int × Int × List Layer × Int × Int × Int) (v : Int × Int × Int × Int × List Int) (K K1 : Ex → St → Option ρ) : ev (ykx k) (yl9 ρ k) 0 yl0 (yl5 (p, v)) (fun e st' => match e with
    | .normal => (normC yl1 yl2 st').bind fun nf => K1 .normal (denorm yl1 st'.n nf)
    | e => (normC (yl3 e) (yl4 e) st').bind fun nf => K e (denorm (yl3 e) st'.n nf)) = S_EvalModel_g0 k p v (fun v' => K1 .normal (yl5 (p, v'))) (fun x => K (.exit 0) (yl8 p x)) := by kernel_rfl
theorem ylb {ρ : Type} (k : Nat) : Sound Try.prog (.loop yl0) (yl9 ρ k 0 fun st K => ev (ykx k) (yl9 ρ k) 0 yl0 st K) :=
  loop_ok (ev_sound (yky k) yl0 0 (lpgood_none (by kernel_rfl))) yl3 yl4 k (g := fun p v next K => S_EvalModel_g0 k p v next (fun x => K (.exit 0) (yl8 p x))) (dec_at yl7) (fun p v K K1 => yla k p v K K1)
def ylc (a : Model × Tensor) : List Arg := [.agg [.int .i64 a.1.inp.h, .int .i64 a.1.inp.w, .int .i64 a.1.inp.c, .sl (.st .layer) a.1.layers], .agg [.int .i64 a.2.sh.h, .int .i64 a.2.sh.w, .int .i64 a.2.sh.c, .sl (.int .i64) a.2.data]]
def yld (l : List Arg) : Option (Model × Tensor) := match l with
  | [.agg [.int .i64 b0_0, .int .i64 b0_1, .int .i64 b0_2, .sl (.st .layer) b0_3], .agg [.int .i64 b1_0, .int .i64 b1_1, .int .i64 b1_2, .sl (.int .i64) b1_3]] => some ((⟨(⟨b0_0, b0_1, b0_2⟩ : Shape), b0_3⟩ : Model), (⟨(⟨b1_0, b1_1, b1_2⟩ : Shape), b1_3⟩ : Tensor))
  | _ => none
def yle (r : Tensor × Bool) : Out := (.tup [.agg [.r [] (.int .i64 r.1.sh.h), .r [] (.int .i64 r.1.sh.w), .r [] (.int .i64 r.1.sh.c), .own 0], .r [] (.bool r.2)], [.arr none (.int .i64) r.1.data])
def ylf (o : Out) : Option (Tensor × Bool) := match o with
  | (.tup [.agg [.r [] (.int .i64 z1), .r [] (.int .i64 z2), .r [] (.int .i64 z3), .own 0], .r [] (.bool z5)], [.arr none (.int .i64) z4]) => some ((⟨(⟨z1, z2, z3⟩ : Shape), z4⟩ : Tensor), z5)
  | _ => none
def ylg (k : Nat) : PG := fun _ l K => (yld l).bind fun a => (S_EvalModel k a.1 a.2).bind fun r => K (yle r)
theorem ylh (k : Nat) (a : Model × Tensor) : ev (ykx k) (yl9 (Tensor × Bool) k) 0 ykz (st0 Try.f22 (ylc a)) (fin Try.prog Try.f22 (.tup [.agg [.sc, .sc, .sc, .own (.int .i64)], .sc]) ylf) = S_EvalModel k a.1 a.2 := by kernel_rfl
theorem yli (k : Nat) : PureOk Try.prog 22 (ylg k) :=
  pureOk_of_ev (yky k) Try.func22 (by kernel_rfl) (by kernel_rfl) ylc yld
    (fun l a h => by unfold yld at h; split at h <;> first | (cases h; rfl) | cases h) (fun a => rfl) (lpgood_of (l := [(0, yl0)]) (by kernel_rfl) ⟨ylb k, trivial⟩)
    (fun o r h => by unfold ylf at h; split at h <;> first | (cases h; rfl) | cases h) (ylh k)
def ylj (k : Nat) : Orc := pureOrc [.agg [(.int .i64), (.int .i64), (.int .i64), (.sl (.st .layer))], .agg [(.int .i64), (.int .i64), (.int .i64), (.sl (.int .i64))]] (ylg k)
theorem ylk (k : Nat) : OrcOk Try.prog 22 (ylj k) := pureOrc_ok (yli k)
noncomputable def yll (k : Nat) : Env := { P := Try.prog, tt := tt, orc := fun g => cond (Nat.beq g 21) (y76 k) (cond (Nat.beq g 22) (ylj k) (noOrc)) }
theorem ylm (k : Nat) : EnvOk (yll k) := fun g => (orc_cond (y77 k) (orc_cond (ylk k) (noOrc_ok _ _)))
noncomputable def yln : Code := (Try.f7.body).getD .skip
noncomputable def ylo : Code := ((loopsIn 0 yln).getD 0 (0, .skip)).2
def ylp : List Nat := [1, 2, 6, 7]
def ylq : List (Where × Co) := []
def ylr : Ex → List Nat
  | .exit j => cond (Nat.beq j 0) [6] []
  | .ret => [4, 5]
  | .normal => []
def yls : Ex → List (Where × Co)
  | .exit j => cond (Nat.beq j 0) [] []
  | .ret => []
  | .normal => []
def ylt (pv : (List Tensor × Int × Int × Int × List Layer) × (Int × List Tensor)) : St := { slots := [(1, .r [] (.sl (.st .tensor) pv.1.1)), (2, .ptr 0 0 0), (6, .own 1), (7, .r [] (.int .i64 pv.2.1))], heap := [(0, .box [.r [] (.int .i64 pv.1.2.1), .r [] (.int .i64 pv.1.2.2.1), .r [] (.int .i64 pv.1.2.2.2.1), .r [] (.sl (.st .layer) pv.1.2.2.2.2)]), (1, .arr none (.st .tensor) pv.2.2)], nid := 2, n := 37, gh := [] }
def ylu (nf : NF) : Option ((List Tensor × Int × Int × Int × List Layer) × (Int × List Tensor)) := match nf with
  | ([.r [] (.sl (.st .tensor) w0), .ptr 0 0 0, .own 1, .r [] (.int .i64 w1)], [.box [.r [] (.int .i64 w2), .r [] (.int .i64 w3), .r [] (.int .i64 w4), .r [] (.sl (.st .layer) w5)], .arr none (.st .tensor) w6], []) => some ((w0, w2, w3, w4, w5), (w1, w6))
  | _ => none
theorem ylv (nf : NF) (v : (List Tensor × Int × Int × Int × List Layer) × (Int × List Tensor)) (h : ylu nf = some v) : denorm ylp 37 nf = ylt v := by
  unfold ylu at h
  split at h
  · cases h; rfl
  · cases h
def ylw (p : List Tensor × Int × Int × Int × List Layer) (x : List Tensor) : St := { slots := [(6, .own 0)], heap := [(0, .arr none (.st .tensor) x)], nid := 1, n := 37, gh := [] }
def ylx (p : List Tensor × Int × Int × Int × List Layer) (x : Bool) : St := { slots := [(4, .nilS), (5, .r [] (.bool x))], heap := [], nid := 0, n := 37, gh := [] }
def yly (ρ : Type) (k : Nat) : Nat → Ev ρ → Ev ρ := fun id f => cond (Nat.beq id 0) (loopOrc ylp ylq (fun n nf => cond (Nat.beq n 37) (ylu nf) none) fun pv K => iter (fun v next => S_EvalBatch_g0 k pv.1 v next (fun x => K (.exit 0) (ylw pv.1 x)) (fun x => K .ret (ylx pv.1 x))) k pv.2) ((fun _ _ _ _ => none) id f)
theorem ylz {ρ : Type} (k : Nat) (p : List Tensor × Int × Int × Int × List Layer) (v : Int × List Tensor) (K K1 : Ex → St → Option ρ) : ev (yll k) (yly ρ k) 0 ylo (ylt (p, v)) (fun e st' => match e with
    | .normal => (normC ylp ylq st').bind fun nf => K1 .normal (denorm ylp st'.n nf)
    | e => (normC (ylr e) (yls e) st').bind fun nf => K e (denorm (ylr e) st'.n nf)) = S_EvalBatch_g0 k p v (fun v' => K1 .normal (ylt (p, v'))) (fun x => K (.exit 0) (ylw p x)) (fun x => K .ret (ylx p x)) := by kernel_rfl
theorem ym0 {ρ : Type} (k : Nat) : Sound Try.prog (.loop ylo) (yly ρ k 0 fun st K => ev (yll k) (yly ρ k) 0 ylo st K) :=
  loop_ok (ev_sound (ylm k) ylo 0 (lpgood_none (by kernel_rfl))) ylr yls k (g := fun p v next K => S_EvalBatch_g0 k p v next (fun x => K (.exit 0) (ylw p x)) (fun x => K .ret (ylx p x))) (dec_at ylv) (fun p v K K1 => ylz k p v K K1)
def ym1 (a : Model × List Tensor) : List Arg := [.agg [.int .i64 a.1.inp.h, .int .i64 a.1.inp.w, .int .i64 a.1.inp.c, .sl (.st .layer) a.1.layers], .one (.sl (.st .tensor) a.2)]
def ym2 (l : List Arg) : Option (Model × List Tensor) := match l with
  | [.agg [.int .i64 b0_0, .int .i64 b0_1, .int .i64 b0_2, .sl (.st .layer) b0_3], .one (.sl (.st .tensor) b1)] => some ((⟨(⟨b0_0, b0_1, b0_2⟩ : Shape), b0_3⟩ : Model), b1)
  | _ => none
def ym3 (r : List Tensor × Bool) : Out := (.tup [.own 0, .r [] (.bool r.2)], [.arr none (.st .tensor) r.1])
def ym4 (o : Out) : Option (List Tensor × Bool) := match o with
  | (.tup [.own 0, .r [] (.bool z2)], [.arr none (.st .tensor) z1]) => some (z1, z2)
  | _ => none
def ym5 (k : Nat) : PG := fun _ l K => (ym2 l).bind fun a => (S_EvalBatch k a.1 a.2).bind fun r => K (ym3 r)
theorem ym6 (k : Nat) (a : Model × List Tensor) : ev (yll k) (yly (List Tensor × Bool) k) 0 yln (st0 Try.f7 (ym1 a)) (fin Try.prog Try.f7 (.tup [.own (.st .tensor), .sc]) ym4) = S_EvalBatch k a.1 a.2 := by kernel_rfl
theorem ym7 (k : Nat) : PureOk Try.prog 7 (ym5 k) :=
  pureOk_of_ev (ylm k) Try.func7 (by kernel_rfl) (by kernel_rfl) ym1 ym2
    (fun l a h => by unfold ym2 at h; split at h <;> first | (cases h; rfl) | cases h) (fun a => rfl) (lpgood_of (l := [(0, ylo)]) (by kernel_rfl) ⟨ym0 k, trivial⟩)
    (fun o r h => by unfold ym4 at h; split at h <;> first | (cases h; rfl) | cases h) (ym6 k)
def ym8 (k : Nat) : Orc := pureOrc [.agg [(.int .i64), (.int .i64), (.int .i64), (.sl (.st .layer))], .one (.sl (.st .tensor))] (ym5 k)
theorem ym9 (k : Nat) : OrcOk Try.prog 7 (ym8 k) := pureOrc_ok (ym7 k)
noncomputable def E_I_in (k : Nat) : Env := { P := Try.prog, tt := tt, orc := fun g => noOrc }
theorem yma (k : Nat) : EnvOk (E_I_in k) := fun g => (noOrc_ok _ _)
noncomputable def c_I_in : Code := (Try.f26.body).getD .skip
def ymb (ρ : Type) (k : Nat) : Nat → Ev ρ → Ev ρ := fun _ _ _ _ => none
def ymc (a : Int × Int × Int) : List Arg := [.one (.int .i64 a.1), .one (.int .i64 a.2.1), .one (.int .i64 a.2.2)]
def ymd (l : List Arg) : Option (Int × Int × Int) := match l with
  | [.one (.int .i64 b0), .one (.int .i64 b1), .one (.int .i64 b2)] => some (b0, b1, b2)
  | _ => none
def yme (r : Bool) : Out := (.r [] (.bool r), [])
def ymf (o : Out) : Option (Bool) := match o with
  | (.r [] (.bool z1), []) => some z1
  | _ => none
def I_in_G (k : Nat) : PG := fun _ l K => (ymd l).bind fun a => (I_in k a.1 a.2.1 a.2.2).bind fun r => K (yme r)
theorem ymg (k : Nat) (a : Int × Int × Int) : ev (E_I_in k) (ymb (Bool) k) 0 c_I_in (st0 Try.f26 (ymc a)) (fin Try.prog Try.f26 (.sc) ymf) = I_in k a.1 a.2.1 a.2.2 := by kernel_rfl
theorem ymh (k : Nat) : PureOk Try.prog 26 (I_in_G k) :=
  pureOk_of_ev (yma k) Try.func26 (by kernel_rfl) (by kernel_rfl) ymc ymd
    (fun l a h => by unfold ymd at h; split at h <;> first | (cases h; rfl) | cases h) (fun a => rfl) (lpgood_none (by kernel_rfl))
    (fun o r h => by unfold ymf at h; split at h <;> first | (cases h; rfl) | cases h) (ymg k)
def o_I_in (k : Nat) : Orc := pureOrc [.one (.int .i64), .one (.int .i64), .one (.int .i64)] (I_in_G k)
theorem ymi (k : Nat) : OrcOk Try.prog 26 (o_I_in k) := pureOrc_ok (ymh k)
noncomputable def ymj (k : Nat) : Env := { P := Try.prog, tt := tt, orc := fun g => cond (Nat.beq g 26) (o_I_in k) (noOrc) }
theorem ymk (k : Nat) : EnvOk (ymj k) := fun g => (orc_cond (ymi k) (noOrc_ok _ _))
noncomputable def yml : Code := (Try.f63.body).getD .skip
def ymm (ρ : Type) (k : Nat) : Nat → Ev ρ → Ev ρ := fun _ _ _ _ => none
def ymn (a : Shape) : List Arg := [.agg [.int .i64 a.h, .int .i64 a.w, .int .i64 a.c]]
def ymo (l : List Arg) : Option (Shape) := match l with
  | [.agg [.int .i64 b0_0, .int .i64 b0_1, .int .i64 b0_2]] => some (⟨b0_0, b0_1, b0_2⟩ : Shape)
  | _ => none
def ymp (r : Bool) : Out := (.r [] (.bool r), [])
def ymq (o : Out) : Option (Bool) := match o with
  | (.r [] (.bool z1), []) => some z1
  | _ => none
def ymr (k : Nat) : PG := fun _ l K => (ymo l).bind fun a => (I_ShapeOk k a).bind fun r => K (ymp r)
theorem yms (k : Nat) (a : Shape) : ev (ymj k) (ymm (Bool) k) 0 yml (st0 Try.f63 (ymn a)) (fin Try.prog Try.f63 (.sc) ymq) = I_ShapeOk k a := by kernel_rfl
theorem ymt (k : Nat) : PureOk Try.prog 63 (ymr k) :=
  pureOk_of_ev (ymk k) Try.func63 (by kernel_rfl) (by kernel_rfl) ymn ymo
    (fun l a h => by unfold ymo at h; split at h <;> first | (cases h; rfl) | cases h) (fun a => rfl) (lpgood_none (by kernel_rfl))
    (fun o r h => by unfold ymq at h; split at h <;> first | (cases h; rfl) | cases h) (yms k)
def ymu (k : Nat) : Orc := pureOrc [.agg [(.int .i64), (.int .i64), (.int .i64)]] (ymr k)
theorem ymv (k : Nat) : OrcOk Try.prog 63 (ymu k) := pureOrc_ok (ymt k)
noncomputable def ymw (k : Nat) : Env := { P := Try.prog, tt := tt, orc := fun g => cond (Nat.beq g 63) (ymu k) (noOrc) }
theorem ymx (k : Nat) : EnvOk (ymw k) := fun g => (orc_cond (ymv k) (noOrc_ok _ _))
noncomputable def ymy : Code := (Try.f64.body).getD .skip
def ymz (ρ : Type) (k : Nat) : Nat → Ev ρ → Ev ρ := fun _ _ _ _ => none
def yn0 (a : Shape) : List Arg := [.agg [.int .i64 a.h, .int .i64 a.w, .int .i64 a.c]]
def yn1 (l : List Arg) : Option (Shape) := match l with
  | [.agg [.int .i64 b0_0, .int .i64 b0_1, .int .i64 b0_2]] => some (⟨b0_0, b0_1, b0_2⟩ : Shape)
  | _ => none
def yn2 (r : Int) : Out := (.r [] (.int .i64 r), [])
def yn3 (o : Out) : Option (Int) := match o with
  | (.r [] (.int .i64 z1), []) => some z1
  | _ => none
def yn4 (k : Nat) : PG := fun _ l K => (yn1 l).bind fun a => (I_SizeOf k a).bind fun r => K (yn2 r)
theorem yn5 (k : Nat) (a : Shape) : ev (ymw k) (ymz (Int) k) 0 ymy (st0 Try.f64 (yn0 a)) (fin Try.prog Try.f64 (.sc) yn3) = I_SizeOf k a := by kernel_rfl
theorem yn6 (k : Nat) : PureOk Try.prog 64 (yn4 k) :=
  pureOk_of_ev (ymx k) Try.func64 (by kernel_rfl) (by kernel_rfl) yn0 yn1
    (fun l a h => by unfold yn1 at h; split at h <;> first | (cases h; rfl) | cases h) (fun a => rfl) (lpgood_none (by kernel_rfl))
    (fun o r h => by unfold yn3 at h; split at h <;> first | (cases h; rfl) | cases h) (yn5 k)
def yn7 (k : Nat) : Orc := pureOrc [.agg [(.int .i64), (.int .i64), (.int .i64)]] (yn4 k)
theorem yn8 (k : Nat) : OrcOk Try.prog 64 (yn7 k) := pureOrc_ok (yn6 k)
noncomputable def yn9 (k : Nat) : Env := { P := Try.prog, tt := tt, orc := fun g => noOrc }
theorem yna (k : Nat) : EnvOk (yn9 k) := fun g => (noOrc_ok _ _)
noncomputable def ynb : Code := (Try.f77.body).getD .skip
def ync (ρ : Type) (k : Nat) : Nat → Ev ρ → Ev ρ := fun _ _ _ _ => none
def ynd (a : Layer) : List Arg := [.agg [.int .i64 a.kind, .int .i64 a.out, .int .i64 a.size, .int .i64 a.step, .int .i64 a.mult, .int .i64 a.shift, .int .i64 a.zero, .sl (.int .i64) a.weights, .sl (.int .i64) a.bias]]
def yne (l : List Arg) : Option (Layer) := match l with
  | [.agg [.int .i64 b0_0, .int .i64 b0_1, .int .i64 b0_2, .int .i64 b0_3, .int .i64 b0_4, .int .i64 b0_5, .int .i64 b0_6, .sl (.int .i64) b0_7, .sl (.int .i64) b0_8]] => some (⟨b0_0, b0_1, b0_2, b0_3, b0_4, b0_5, b0_6, b0_7, b0_8⟩ : Layer)
  | _ => none
end
end Go.Proofs.Ev
