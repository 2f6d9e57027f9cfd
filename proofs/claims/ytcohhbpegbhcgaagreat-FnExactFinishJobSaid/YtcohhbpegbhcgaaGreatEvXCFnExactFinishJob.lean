/- Text of this claim. -/
import Derived.Test.YtcohhbpegbhcgaaGreatEvK5
import Derived.Test.YtcohhbpegbhcgaaGreatProg
import Derived.Test.YtcohhbpegbhcgaaGreatEvD1
import Derived.Test.YtcohhbpegbhcgaaGreatEvD3
import Derived.Test.YtcohhbpegbhcgaaGreatEvD5
import Derived.Test.YtcohhbpegbhcgaaGreatEvD9
set_option linter.unusedVariables false
set_option linter.unusedSimpArgs false
set_option linter.unusedVariables false
set_option linter.unusedSimpArgs false
set_option maxRecDepth 100000
set_option maxHeartbeats 4000000
namespace Go.Proofs.Ev
noncomputable section
variable [Tok]
set_option linter.unusedSectionVars false
def tt : TT := look [(2, (.int .i64)), (3, (.int .i64)), (4, .bool), (5, (.int .u8)), (6, (.int .u8)), (9, .str), (10, .str), (11, .str), (12, (.int .u64)), (21, (.int .i32)), (23, (.st .shape)), (24, (.sl (.st .layer))), (26, (.st .model)), (27, (.sl (.int .i64))), (29, (.st .tensor)), (33, (.st .shape)), (35, (.st .tensor)), (38, (.sl (.st .layer))), (40, (.st .model)), (69, (.st .layer)), (72, (.sl (.st .shape))), (96, (.st .layer)), (123, (.int .u64)), (131, (.int .u32)), (132, (.int .u8)), (133, (.int .u8)), (136, (.int .i32)), (137, (.int .i32))]
noncomputable def ya (k : Nat) : Env := { P := Tryz.prog, tt := tt, orc := fun g => noOrc }
theorem yb (k : Nat) : EnvOk (ya k) := fun g => (noOrc_ok _ _)
noncomputable def yc : Code := (Tryz.f42.body).getD .skip
def yd (ρ : Type) (k : Nat) : Nat → Ev ρ → Ev ρ := fun _ _ _ _ => none
def ye (a : List Int × Int) : List Arg := [.one (.sl (.int .i64) a.1), .one (.int .i64 a.2)]
def yf (l : List Arg) : Option (List Int × Int) := match l with
  | [.one (.sl (.int .i64) b0), .one (.int .i64 b1)] => some (b0, b1)
  | _ => none
def yg (r : Int) : Out := (.r [] (.int .i64 r), [])
def yh (o : Out) : Option (Int) := match o with
  | (.r [] (.int .i64 z1), []) => some z1
  | _ => none
def yi (k : Nat) : PG := fun _ l K => (yf l).bind fun a => (L_szIntS k a.1 a.2).bind fun r => K (yg r)
theorem yj (k : Nat) (a : List Int × Int) : ev (ya k) (yd (Int) k) 0 yc (st0 Tryz.f42 (ye a)) (fin Tryz.prog Tryz.f42 (.sc) yh) = L_szIntS k a.1 a.2 := by kernel_rfl
theorem yk (k : Nat) : PureOk Tryz.prog 42 (yi k) :=
  pureOk_of_ev (yb k) Tryz.func42 (by kernel_rfl) (by kernel_rfl) ye yf
    (fun l a h => by unfold yf at h; split at h <;> first | (cases h; rfl) | cases h) (fun a => rfl) (lpgood_none (by kernel_rfl))
    (fun o r h => by unfold yh at h; split at h <;> first | (cases h; rfl) | cases h) (yj k)
def yl (k : Nat) : Orc := pureOrc [.one (.sl (.int .i64)), .one (.int .i64)] (yi k)
theorem ym (k : Nat) : OrcOk Tryz.prog 42 (yl k) := pureOrc_ok (yk k)
noncomputable def yn (k : Nat) : Env := { P := Tryz.prog, tt := tt, orc := fun g => cond (Nat.beq g 42) (yl k) (noOrc) }
theorem yo (k : Nat) : EnvOk (yn k) := fun g => (orc_cond (ym k) (noOrc_ok _ _))
noncomputable def yp : Code := (Tryz.f68.body).getD .skip
def yq (ρ : Type) (k : Nat) : Nat → Ev ρ → Ev ρ := fun _ _ _ _ => none
def yr (a : Layer × Int) : List Arg := [.agg [.int .i64 a.1.kind, .int .i64 a.1.out, .int .i64 a.1.size, .int .i64 a.1.step, .int .i64 a.1.mult, .int .i64 a.1.shift, .int .i64 a.1.zero, .sl (.int .i64) a.1.weights, .sl (.int .i64) a.1.bias], .one (.int .i64 a.2)]
def yt (l : List Arg) : Option (Layer × Int) := match l with
  | [.agg [.int .i64 b0_0, .int .i64 b0_1, .int .i64 b0_2, .int .i64 b0_3, .int .i64 b0_4, .int .i64 b0_5, .int .i64 b0_6, .sl (.int .i64) b0_7, .sl (.int .i64) b0_8], .one (.int .i64 b1)] => some ((⟨b0_0, b0_1, b0_2, b0_3, b0_4, b0_5, b0_6, b0_7, b0_8⟩ : Layer), b1)
  | _ => none
def yu (r : Int) : Out := (.r [] (.int .i64 r), [])
def yv (o : Out) : Option (Int) := match o with
  | (.r [] (.int .i64 z1), []) => some z1
  | _ => none
def yw (k : Nat) : PG := fun _ l K => (yt l).bind fun a => (L_szLayer k a.1 a.2).bind fun r => K (yu r)
theorem yx (k : Nat) (a : Layer × Int) : ev (yn k) (yq (Int) k) 0 yp (st0 Tryz.f68 (yr a)) (fin Tryz.prog Tryz.f68 (.sc) yv) = L_szLayer k a.1 a.2 := by kernel_rfl
theorem yy (k : Nat) : PureOk Tryz.prog 68 (yw k) :=
  pureOk_of_ev (yo k) Tryz.func68 (by kernel_rfl) (by kernel_rfl) yr yt
    (fun l a h => by unfold yt at h; split at h <;> first | (cases h; rfl) | cases h) (fun a => rfl) (lpgood_none (by kernel_rfl))
    (fun o r h => by unfold yv at h; split at h <;> first | (cases h; rfl) | cases h) (yx k)
def yz (k : Nat) : Orc := pureOrc [.agg [(.int .i64), (.int .i64), (.int .i64), (.int .i64), (.int .i64), (.int .i64), (.int .i64), (.sl (.int .i64)), (.sl (.int .i64))], .one (.int .i64)] (yw k)
theorem y10 (k : Nat) : OrcOk Tryz.prog 68 (yz k) := pureOrc_ok (yy k)
noncomputable def y14 (k : Nat) : Env := { P := Tryz.prog, tt := tt, orc := fun g => cond (Nat.beq g 68) (yz k) (noOrc) }
theorem y16 (k : Nat) : EnvOk (y14 k) := fun g => (orc_cond (y10 k) (noOrc_ok _ _))
noncomputable def y17 : Code := (Tryz.f41.body).getD .skip
noncomputable def y18 : Code := ((loopsIn 0 y17).getD 0 (0, .skip)).2
def y19 : List Nat := [0, 1, 5]
def y1a : List (Where × Co) := []
def y1b : Ex → List Nat
  | .exit j => cond (Nat.beq j 0) [1] []
  | .ret => [4]
  | .normal => []
def y1c : Ex → List (Where × Co)
  | .exit j => cond (Nat.beq j 0) [] []
  | .ret => []
  | .normal => []
def y1d (pv : (List Layer) × (Int × Int)) : St := { slots := [(0, .r [] (.sl (.st .layer) pv.1)), (1, .r [] (.int .i64 pv.2.1)), (5, .r [] (.int .i64 pv.2.2))], heap := [], nid := 0, n := 27, gh := [] }
def y1e (nf : NF) : Option ((List Layer) × (Int × Int)) := match nf with
  | ([.r [] (.sl (.st .layer) w0), .r [] (.int .i64 w1), .r [] (.int .i64 w2)], [], []) => some (w0, (w1, w2))
  | _ => none
theorem y1f (nf : NF) (v : (List Layer) × (Int × Int)) (h : y1e nf = some v) : denorm y19 27 nf = y1d v := by
  unfold y1e at h
  split at h
  · cases h; rfl
  · cases h
def y1g (p : List Layer) (x : Int) : St := { slots := [(1, .r [] (.int .i64 x))], heap := [], nid := 0, n := 27, gh := [] }
def y1h (p : List Layer) (x : Int) : St := { slots := [(4, .r [] (.int .i64 x))], heap := [], nid := 0, n := 27, gh := [] }
def y1i (ρ : Type) (k : Nat) : Nat → Ev ρ → Ev ρ := fun id f => cond (Nat.beq id 0) (loopOrc y19 y1a (fun n nf => cond (Nat.beq n 27) (y1e nf) none) fun pv K => iter (fun v next => L_szLayerS_g0 k pv.1 v next (fun x => K (.exit 0) (y1g pv.1 x)) (fun x => K .ret (y1h pv.1 x))) k pv.2) ((fun _ _ _ _ => none) id f)
theorem y1j {ρ : Type} (k : Nat) (p : List Layer) (v : Int × Int) (K K1 : Ex → St → Option ρ) : ev (y14 k) (y1i ρ k) 0 y18 (y1d (p, v)) (fun e st' => match e with
    | .normal => (normC y19 y1a st').bind fun nf => K1 .normal (denorm y19 st'.n nf)
    | e => (normC (y1b e) (y1c e) st').bind fun nf => K e (denorm (y1b e) st'.n nf)) = L_szLayerS_g0 k p v (fun v' => K1 .normal (y1d (p, v'))) (fun x => K (.exit 0) (y1g p x)) (fun x => K .ret (y1h p x)) := by kernel_rfl
theorem y1k {ρ : Type} (k : Nat) : Sound Tryz.prog (.loop y18) (y1i ρ k 0 fun st K => ev (y14 k) (y1i ρ k) 0 y18 st K) :=
  loop_ok (ev_sound (y16 k) y18 0 (lpgood_none (by kernel_rfl))) y1b y1c k (g := fun p v next K => L_szLayerS_g0 k p v next (fun x => K (.exit 0) (y1g p x)) (fun x => K .ret (y1h p x))) (dec_at y1f) (fun p v K K1 => y1j k p v K K1)
def y1l (a : List Layer × Int) : List Arg := [.one (.sl (.st .layer) a.1), .one (.int .i64 a.2)]
def y1m (l : List Arg) : Option (List Layer × Int) := match l with
  | [.one (.sl (.st .layer) b0), .one (.int .i64 b1)] => some (b0, b1)
  | _ => none
def y1n (r : Int) : Out := (.r [] (.int .i64 r), [])
def y1o (o : Out) : Option (Int) := match o with
  | (.r [] (.int .i64 z1), []) => some z1
  | _ => none
def y1p (k : Nat) : PG := fun _ l K => (y1m l).bind fun a => (L_szLayerS k a.1 a.2).bind fun r => K (y1n r)
theorem y1q (k : Nat) (a : List Layer × Int) : ev (y14 k) (y1i (Int) k) 0 y17 (st0 Tryz.f41 (y1l a)) (fin Tryz.prog Tryz.f41 (.sc) y1o) = L_szLayerS k a.1 a.2 := by kernel_rfl
theorem y1r (k : Nat) : PureOk Tryz.prog 41 (y1p k) :=
  pureOk_of_ev (y16 k) Tryz.func41 (by kernel_rfl) (by kernel_rfl) y1l y1m
    (fun l a h => by unfold y1m at h; split at h <;> first | (cases h; rfl) | cases h) (fun a => rfl) (lpgood_of (l := [(0, y18)]) (by kernel_rfl) ⟨y1k k, trivial⟩)
    (fun o r h => by unfold y1o at h; split at h <;> first | (cases h; rfl) | cases h) (y1q k)
def y1s (k : Nat) : Orc := pureOrc [.one (.sl (.st .layer)), .one (.int .i64)] (y1p k)
theorem y1t (k : Nat) : OrcOk Tryz.prog 41 (y1s k) := pureOrc_ok (y1r k)
noncomputable def y1u (k : Nat) : Env := { P := Tryz.prog, tt := tt, orc := fun g => cond (Nat.beq g 41) (y1s k) (noOrc) }
theorem y1v (k : Nat) : EnvOk (y1u k) := fun g => (orc_cond (y1t k) (noOrc_ok _ _))
noncomputable def y1w : Code := (Tryz.f20.body).getD .skip
def y1x (ρ : Type) (k : Nat) : Nat → Ev ρ → Ev ρ := fun _ _ _ _ => none
def y1y (a : Model × Int) : List Arg := [.agg [.int .i64 a.1.inp.h, .int .i64 a.1.inp.w, .int .i64 a.1.inp.c, .sl (.st .layer) a.1.layers], .one (.int .i64 a.2)]
def y1z (l : List Arg) : Option (Model × Int) := match l with
  | [.agg [.int .i64 b0_0, .int .i64 b0_1, .int .i64 b0_2, .sl (.st .layer) b0_3], .one (.int .i64 b1)] => some ((⟨(⟨b0_0, b0_1, b0_2⟩ : Shape), b0_3⟩ : Model), b1)
  | _ => none
def y20 (r : Int) : Out := (.r [] (.int .i64 r), [])
def y21 (o : Out) : Option (Int) := match o with
  | (.r [] (.int .i64 z1), []) => some z1
  | _ => none
def y23 (k : Nat) : PG := fun _ l K => (y1z l).bind fun a => (L_szModel k a.1 a.2).bind fun r => K (y20 r)
theorem y25 (k : Nat) (a : Model × Int) : ev (y1u k) (y1x (Int) k) 0 y1w (st0 Tryz.f20 (y1y a)) (fin Tryz.prog Tryz.f20 (.sc) y21) = L_szModel k a.1 a.2 := by kernel_rfl
theorem y29 (k : Nat) : PureOk Tryz.prog 20 (y23 k) :=
  pureOk_of_ev (y1v k) Tryz.func20 (by kernel_rfl) (by kernel_rfl) y1y y1z
    (fun l a h => by unfold y1z at h; split at h <;> first | (cases h; rfl) | cases h) (fun a => rfl) (lpgood_none (by kernel_rfl))
    (fun o r h => by unfold y21 at h; split at h <;> first | (cases h; rfl) | cases h) (y25 k)
def y2a (k : Nat) : Orc := pureOrc [.agg [(.int .i64), (.int .i64), (.int .i64), (.sl (.st .layer))], .one (.int .i64)] (y23 k)
theorem y2b (k : Nat) : OrcOk Tryz.prog 20 (y2a k) := pureOrc_ok (y29 k)
noncomputable def y2c (k : Nat) : Env := { P := Tryz.prog, tt := tt, orc := fun g => cond (Nat.beq g 42) (yl k) (noOrc) }
theorem y2d (k : Nat) : EnvOk (y2c k) := fun g => (orc_cond (ym k) (noOrc_ok _ _))
noncomputable def y2e : Code := (Tryz.f21.body).getD .skip
def y2f (ρ : Type) (k : Nat) : Nat → Ev ρ → Ev ρ := fun _ _ _ _ => none
def y2g (a : Tensor × Int) : List Arg := [.agg [.int .i64 a.1.sh.h, .int .i64 a.1.sh.w, .int .i64 a.1.sh.c, .sl (.int .i64) a.1.data], .one (.int .i64 a.2)]
def y2h (l : List Arg) : Option (Tensor × Int) := match l with
  | [.agg [.int .i64 b0_0, .int .i64 b0_1, .int .i64 b0_2, .sl (.int .i64) b0_3], .one (.int .i64 b1)] => some ((⟨(⟨b0_0, b0_1, b0_2⟩ : Shape), b0_3⟩ : Tensor), b1)
  | _ => none
def y2i (r : Int) : Out := (.r [] (.int .i64 r), [])
def y2j (o : Out) : Option (Int) := match o with
  | (.r [] (.int .i64 z1), []) => some z1
  | _ => none
def y2k (k : Nat) : PG := fun _ l K => (y2h l).bind fun a => (L_szTensor k a.1 a.2).bind fun r => K (y2i r)
theorem y2l (k : Nat) (a : Tensor × Int) : ev (y2c k) (y2f (Int) k) 0 y2e (st0 Tryz.f21 (y2g a)) (fin Tryz.prog Tryz.f21 (.sc) y2j) = L_szTensor k a.1 a.2 := by kernel_rfl
theorem y2m (k : Nat) : PureOk Tryz.prog 21 (y2k k) :=
  pureOk_of_ev (y2d k) Tryz.func21 (by kernel_rfl) (by kernel_rfl) y2g y2h
    (fun l a h => by unfold y2h at h; split at h <;> first | (cases h; rfl) | cases h) (fun a => rfl) (lpgood_none (by kernel_rfl))
    (fun o r h => by unfold y2j at h; split at h <;> first | (cases h; rfl) | cases h) (y2l k)
def y2n (k : Nat) : Orc := pureOrc [.agg [(.int .i64), (.int .i64), (.int .i64), (.sl (.int .i64))], .one (.int .i64)] (y2k k)
theorem y2o (k : Nat) : OrcOk Tryz.prog 21 (y2n k) := pureOrc_ok (y2m k)
noncomputable def y2p (k : Nat) : Env := { P := Tryz.prog, tt := tt, orc := fun g => cond (Nat.beq g 20) (y2a k) (cond (Nat.beq g 21) (y2n k) (noOrc)) }
theorem y2q (k : Nat) : EnvOk (y2p k) := fun g => (orc_cond (y2b k) (orc_cond (y2o k) (noOrc_ok _ _)))
noncomputable def y2r : Code := (Tryz.f6.body).getD .skip
def y2s (ρ : Type) (k : Nat) : Nat → Ev ρ → Ev ρ := fun _ _ _ _ => none
def y2t (a : Job × Int) : List Arg := [.agg [.int .i64 a.1.model.inp.h, .int .i64 a.1.model.inp.w, .int .i64 a.1.model.inp.c, .sl (.st .layer) a.1.model.layers, .int .i64 a.1.at_, .int .i64 a.1.act.sh.h, .int .i64 a.1.act.sh.w, .int .i64 a.1.act.sh.c, .sl (.int .i64) a.1.act.data, .int .i64 a.1.spent], .one (.int .i64 a.2)]
def y2u (l : List Arg) : Option (Job × Int) := match l with
  | [.agg [.int .i64 b0_0, .int .i64 b0_1, .int .i64 b0_2, .sl (.st .layer) b0_3, .int .i64 b0_4, .int .i64 b0_5, .int .i64 b0_6, .int .i64 b0_7, .sl (.int .i64) b0_8, .int .i64 b0_9], .one (.int .i64 b1)] => some ((⟨(⟨(⟨b0_0, b0_1, b0_2⟩ : Shape), b0_3⟩ : Model), b0_4, (⟨(⟨b0_5, b0_6, b0_7⟩ : Shape), b0_8⟩ : Tensor), b0_9⟩ : Job), b1)
  | _ => none
def y2v (r : Int) : Out := (.r [] (.int .i64 r), [])
def y2w (o : Out) : Option (Int) := match o with
  | (.r [] (.int .i64 z1), []) => some z1
  | _ => none
def y2x (k : Nat) : PG := fun _ l K => (y2u l).bind fun a => (L_szJob k a.1 a.2).bind fun r => K (y2v r)
theorem y2y (k : Nat) (a : Job × Int) : ev (y2p k) (y2s (Int) k) 0 y2r (st0 Tryz.f6 (y2t a)) (fin Tryz.prog Tryz.f6 (.sc) y2w) = L_szJob k a.1 a.2 := by kernel_rfl
theorem y2z (k : Nat) : PureOk Tryz.prog 6 (y2x k) :=
  pureOk_of_ev (y2q k) Tryz.func6 (by kernel_rfl) (by kernel_rfl) y2t y2u
    (fun l a h => by unfold y2u at h; split at h <;> first | (cases h; rfl) | cases h) (fun a => rfl) (lpgood_none (by kernel_rfl))
    (fun o r h => by unfold y2w at h; split at h <;> first | (cases h; rfl) | cases h) (y2y k)
def y31 (k : Nat) : Orc := pureOrc [.agg [(.int .i64), (.int .i64), (.int .i64), (.sl (.st .layer)), (.int .i64), (.int .i64), (.int .i64), (.int .i64), (.sl (.int .i64)), (.int .i64)], .one (.int .i64)] (y2x k)
theorem y32 (k : Nat) : OrcOk Tryz.prog 6 (y31 k) := pureOrc_ok (y2z k)
noncomputable def y33 (k : Nat) : Env := { P := Tryz.prog, tt := tt, orc := fun g => noOrc }
theorem y34 (k : Nat) : EnvOk (y33 k) := fun g => (noOrc_ok _ _)
noncomputable def y35 : Code := (Tryz.f49.body).getD .skip
def y36 (ρ : Type) (k : Nat) : Nat → Ev ρ → Ev ρ := fun _ _ _ _ => none
def y37 (a : Shape) : List Arg := [.agg [.int .i64 a.h, .int .i64 a.w, .int .i64 a.c]]
def y38 (l : List Arg) : Option (Shape) := match l with
  | [.agg [.int .i64 b0_0, .int .i64 b0_1, .int .i64 b0_2]] => some (⟨b0_0, b0_1, b0_2⟩ : Shape)
  | _ => none
def y39 (r : Shape) : Out := (.agg [.r [] (.int .i64 r.h), .r [] (.int .i64 r.w), .r [] (.int .i64 r.c)], [])
def y3a (o : Out) : Option (Shape) := match o with
  | (.agg [.r [] (.int .i64 z1), .r [] (.int .i64 z2), .r [] (.int .i64 z3)], []) => some (⟨z1, z2, z3⟩ : Shape)
  | _ => none
def y3b (k : Nat) : PG := fun _ l K => (y38 l).bind fun a => (L_toShape k a).bind fun r => K (y39 r)
theorem y3c (k : Nat) (a : Shape) : ev (y33 k) (y36 (Shape) k) 0 y35 (st0 Tryz.f49 (y37 a)) (fin Tryz.prog Tryz.f49 (.agg [.sc, .sc, .sc]) y3a) = L_toShape k a := by kernel_rfl
theorem y3d (k : Nat) : PureOk Tryz.prog 49 (y3b k) :=
  pureOk_of_ev (y34 k) Tryz.func49 (by kernel_rfl) (by kernel_rfl) y37 y38
    (fun l a h => by unfold y38 at h; split at h <;> first | (cases h; rfl) | cases h) (fun a => rfl) (lpgood_none (by kernel_rfl))
    (fun o r h => by unfold y3a at h; split at h <;> first | (cases h; rfl) | cases h) (y3c k)
def y3e (k : Nat) : Orc := pureOrc [.agg [(.int .i64), (.int .i64), (.int .i64)]] (y3b k)
theorem y3f (k : Nat) : OrcOk Tryz.prog 49 (y3e k) := pureOrc_ok (y3d k)
noncomputable def y3g (k : Nat) : Env := { P := Tryz.prog, tt := tt, orc := fun g => noOrc }
theorem y3h (k : Nat) : EnvOk (y3g k) := fun g => (noOrc_ok _ _)
noncomputable def y3i : Code := (Tryz.f51.body).getD .skip
noncomputable def y3j : Code := ((loopsIn 0 y3i).getD 0 (0, .skip)).2
def y3k : List Nat := [0, 3, 4]
def y3l : List (Where × Co) := []
def y3m : Ex → List Nat
  | .exit j => cond (Nat.beq j 0) [3] []
  | .ret => []
  | .normal => []
def y3n : Ex → List (Where × Co)
  | .exit j => cond (Nat.beq j 0) [] []
  | .ret => []
  | .normal => []
def y3o (pv : (List Int) × (Int × List Int)) : St := { slots := [(0, .r [] (.sl (.int .i64) pv.1)), (3, .own 0), (4, .r [] (.int .i64 pv.2.1))], heap := [(0, .arr none (.int .i64) pv.2.2)], nid := 1, n := 22, gh := [] }
def y3p (nf : NF) : Option ((List Int) × (Int × List Int)) := match nf with
  | ([.r [] (.sl (.int .i64) w0), .own 0, .r [] (.int .i64 w1)], [.arr none (.int .i64) w2], []) => some (w0, (w1, w2))
  | _ => none
theorem y3q (nf : NF) (v : (List Int) × (Int × List Int)) (h : y3p nf = some v) : denorm y3k 22 nf = y3o v := by
  unfold y3p at h
  split at h
  · cases h; rfl
  · cases h
def y3r (p : List Int) (x : List Int) : St := { slots := [(3, .own 0)], heap := [(0, .arr none (.int .i64) x)], nid := 1, n := 22, gh := [] }
def y3s (ρ : Type) (k : Nat) : Nat → Ev ρ → Ev ρ := fun id f => cond (Nat.beq id 0) (loopOrc y3k y3l (fun n nf => cond (Nat.beq n 22) (y3p nf) none) fun pv K => iter (fun v next => L_toIntS_g0 k pv.1 v next (fun x => K (.exit 0) (y3r pv.1 x))) k pv.2) ((fun _ _ _ _ => none) id f)
theorem y3t {ρ : Type} (k : Nat) (p : List Int) (v : Int × List Int) (K K1 : Ex → St → Option ρ) : ev (y3g k) (y3s ρ k) 0 y3j (y3o (p, v)) (fun e st' => match e with
    | .normal => (normC y3k y3l st').bind fun nf => K1 .normal (denorm y3k st'.n nf)
    | e => (normC (y3m e) (y3n e) st').bind fun nf => K e (denorm (y3m e) st'.n nf)) = L_toIntS_g0 k p v (fun v' => K1 .normal (y3o (p, v'))) (fun x => K (.exit 0) (y3r p x)) := by kernel_rfl
theorem y3u {ρ : Type} (k : Nat) : Sound Tryz.prog (.loop y3j) (y3s ρ k 0 fun st K => ev (y3g k) (y3s ρ k) 0 y3j st K) :=
  loop_ok (ev_sound (y3h k) y3j 0 (lpgood_none (by kernel_rfl))) y3m y3n k (g := fun p v next K => L_toIntS_g0 k p v next (fun x => K (.exit 0) (y3r p x))) (dec_at y3q) (fun p v K K1 => y3t k p v K K1)
def y3v (a : List Int) : List Arg := [.one (.sl (.int .i64) a)]
def y3w (l : List Arg) : Option (List Int) := match l with
  | [.one (.sl (.int .i64) b0)] => some b0
  | _ => none
def y3x (r : List Int) : Out := (.own 0, [.arr none (.int .i64) r])
def y3y (o : Out) : Option (List Int) := match o with
  | (.own 0, [.arr none (.int .i64) z1]) => some z1
  | _ => none
def y3z (k : Nat) : PG := fun _ l K => (y3w l).bind fun a => (L_toIntS k a).bind fun r => K (y3x r)
theorem y40 (k : Nat) (a : List Int) : ev (y3g k) (y3s (List Int) k) 0 y3i (st0 Tryz.f51 (y3v a)) (fin Tryz.prog Tryz.f51 (.own (.int .i64)) y3y) = L_toIntS k a := by kernel_rfl
theorem y41 (k : Nat) : PureOk Tryz.prog 51 (y3z k) :=
  pureOk_of_ev (y3h k) Tryz.func51 (by kernel_rfl) (by kernel_rfl) y3v y3w
    (fun l a h => by unfold y3w at h; split at h <;> first | (cases h; rfl) | cases h) (fun a => rfl) (lpgood_of (l := [(0, y3j)]) (by kernel_rfl) ⟨y3u k, trivial⟩)
    (fun o r h => by unfold y3y at h; split at h <;> first | (cases h; rfl) | cases h) (y40 k)
def y42 (k : Nat) : Orc := pureOrc [.one (.sl (.int .i64))] (y3z k)
theorem y43 (k : Nat) : OrcOk Tryz.prog 51 (y42 k) := pureOrc_ok (y41 k)
noncomputable def y44 (k : Nat) : Env := { P := Tryz.prog, tt := tt, orc := fun g => cond (Nat.beq g 51) (y42 k) (noOrc) }
theorem y45 (k : Nat) : EnvOk (y44 k) := fun g => (orc_cond (y43 k) (noOrc_ok _ _))
noncomputable def y46 : Code := (Tryz.f75.body).getD .skip
def y47 (ρ : Type) (k : Nat) : Nat → Ev ρ → Ev ρ := fun _ _ _ _ => none
def y48 (a : Layer) : List Arg := [.agg [.int .i64 a.kind, .int .i64 a.out, .int .i64 a.size, .int .i64 a.step, .int .i64 a.mult, .int .i64 a.shift, .int .i64 a.zero, .sl (.int .i64) a.weights, .sl (.int .i64) a.bias]]
def y49 (l : List Arg) : Option (Layer) := match l with
  | [.agg [.int .i64 b0_0, .int .i64 b0_1, .int .i64 b0_2, .int .i64 b0_3, .int .i64 b0_4, .int .i64 b0_5, .int .i64 b0_6, .sl (.int .i64) b0_7, .sl (.int .i64) b0_8]] => some (⟨b0_0, b0_1, b0_2, b0_3, b0_4, b0_5, b0_6, b0_7, b0_8⟩ : Layer)
  | _ => none
def y4a (r : Layer) : Out := (.agg [.r [] (.int .i64 r.kind), .r [] (.int .i64 r.out), .r [] (.int .i64 r.size), .r [] (.int .i64 r.step), .r [] (.int .i64 r.mult), .r [] (.int .i64 r.shift), .r [] (.int .i64 r.zero), .own 0, .own 1], [.arr none (.int .i64) r.weights, .arr none (.int .i64) r.bias])
def y4b (o : Out) : Option (Layer) := match o with
  | (.agg [.r [] (.int .i64 z1), .r [] (.int .i64 z2), .r [] (.int .i64 z3), .r [] (.int .i64 z4), .r [] (.int .i64 z5), .r [] (.int .i64 z6), .r [] (.int .i64 z7), .own 0, .own 1], [.arr none (.int .i64) z8, .arr none (.int .i64) z9]) => some (⟨z1, z2, z3, z4, z5, z6, z7, z8, z9⟩ : Layer)
  | _ => none
def y4c (k : Nat) : PG := fun _ l K => (y49 l).bind fun a => (L_toLayer k a).bind fun r => K (y4a r)
theorem y4d (k : Nat) (a : Layer) : ev (y44 k) (y47 (Layer) k) 0 y46 (st0 Tryz.f75 (y48 a)) (fin Tryz.prog Tryz.f75 (.agg [.sc, .sc, .sc, .sc, .sc, .sc, .sc, .own (.int .i64), .own (.int .i64)]) y4b) = L_toLayer k a := by kernel_rfl
theorem y4e (k : Nat) : PureOk Tryz.prog 75 (y4c k) :=
  pureOk_of_ev (y45 k) Tryz.func75 (by kernel_rfl) (by kernel_rfl) y48 y49
    (fun l a h => by unfold y49 at h; split at h <;> first | (cases h; rfl) | cases h) (fun a => rfl) (lpgood_none (by kernel_rfl))
    (fun o r h => by unfold y4b at h; split at h <;> first | (cases h; rfl) | cases h) (y4d k)
def y4f (k : Nat) : Orc := pureOrc [.agg [(.int .i64), (.int .i64), (.int .i64), (.int .i64), (.int .i64), (.int .i64), (.int .i64), (.sl (.int .i64)), (.sl (.int .i64))]] (y4c k)
theorem y4g (k : Nat) : OrcOk Tryz.prog 75 (y4f k) := pureOrc_ok (y4e k)
noncomputable def y4h (k : Nat) : Env := { P := Tryz.prog, tt := tt, orc := fun g => cond (Nat.beq g 75) (y4f k) (noOrc) }
theorem y4i (k : Nat) : EnvOk (y4h k) := fun g => (orc_cond (y4g k) (noOrc_ok _ _))
noncomputable def y4j : Code := (Tryz.f50.body).getD .skip
noncomputable def y4k : Code := ((loopsIn 0 y4j).getD 0 (0, .skip)).2
def y4l : List Nat := [0, 3, 4]
def y4m : List (Where × Co) := []
def y4n : Ex → List Nat
  | .exit j => cond (Nat.beq j 0) [3] []
  | .ret => []
  | .normal => []
def y4o : Ex → List (Where × Co)
  | .exit j => cond (Nat.beq j 0) [] []
  | .ret => []
  | .normal => []
def y4p (pv : (List Layer) × (Int × List Layer)) : St := { slots := [(0, .r [] (.sl (.st .layer) pv.1)), (3, .own 0), (4, .r [] (.int .i64 pv.2.1))], heap := [(0, .arr none (.st .layer) pv.2.2)], nid := 1, n := 23, gh := [] }
def y4q (nf : NF) : Option ((List Layer) × (Int × List Layer)) := match nf with
  | ([.r [] (.sl (.st .layer) w0), .own 0, .r [] (.int .i64 w1)], [.arr none (.st .layer) w2], []) => some (w0, (w1, w2))
  | _ => none
theorem y4r (nf : NF) (v : (List Layer) × (Int × List Layer)) (h : y4q nf = some v) : denorm y4l 23 nf = y4p v := by
  unfold y4q at h
  split at h
  · cases h; rfl
  · cases h
def y4s (p : List Layer) (x : List Layer) : St := { slots := [(3, .own 0)], heap := [(0, .arr none (.st .layer) x)], nid := 1, n := 23, gh := [] }
def y4t (ρ : Type) (k : Nat) : Nat → Ev ρ → Ev ρ := fun id f => cond (Nat.beq id 0) (loopOrc y4l y4m (fun n nf => cond (Nat.beq n 23) (y4q nf) none) fun pv K => iter (fun v next => L_toLayerS_g0 k pv.1 v next (fun x => K (.exit 0) (y4s pv.1 x))) k pv.2) ((fun _ _ _ _ => none) id f)
theorem y4u {ρ : Type} (k : Nat) (p : List Layer) (v : Int × List Layer) (K K1 : Ex → St → Option ρ) : ev (y4h k) (y4t ρ k) 0 y4k (y4p (p, v)) (fun e st' => match e with
    | .normal => (normC y4l y4m st').bind fun nf => K1 .normal (denorm y4l st'.n nf)
    | e => (normC (y4n e) (y4o e) st').bind fun nf => K e (denorm (y4n e) st'.n nf)) = L_toLayerS_g0 k p v (fun v' => K1 .normal (y4p (p, v'))) (fun x => K (.exit 0) (y4s p x)) := by kernel_rfl
theorem y4v {ρ : Type} (k : Nat) : Sound Tryz.prog (.loop y4k) (y4t ρ k 0 fun st K => ev (y4h k) (y4t ρ k) 0 y4k st K) :=
  loop_ok (ev_sound (y4i k) y4k 0 (lpgood_none (by kernel_rfl))) y4n y4o k (g := fun p v next K => L_toLayerS_g0 k p v next (fun x => K (.exit 0) (y4s p x))) (dec_at y4r) (fun p v K K1 => y4u k p v K K1)
def y4w (a : List Layer) : List Arg := [.one (.sl (.st .layer) a)]
def y4x (l : List Arg) : Option (List Layer) := match l with
  | [.one (.sl (.st .layer) b0)] => some b0
  | _ => none
def y4y (r : List Layer) : Out := (.own 0, [.arr none (.st .layer) r])
def y4z (o : Out) : Option (List Layer) := match o with
  | (.own 0, [.arr none (.st .layer) z1]) => some z1
  | _ => none
def y50 (k : Nat) : PG := fun _ l K => (y4x l).bind fun a => (L_toLayerS k a).bind fun r => K (y4y r)
theorem y51 (k : Nat) (a : List Layer) : ev (y4h k) (y4t (List Layer) k) 0 y4j (st0 Tryz.f50 (y4w a)) (fin Tryz.prog Tryz.f50 (.own (.st .layer)) y4z) = L_toLayerS k a := by kernel_rfl
theorem y52 (k : Nat) : PureOk Tryz.prog 50 (y50 k) :=
  pureOk_of_ev (y4i k) Tryz.func50 (by kernel_rfl) (by kernel_rfl) y4w y4x
    (fun l a h => by unfold y4x at h; split at h <;> first | (cases h; rfl) | cases h) (fun a => rfl) (lpgood_of (l := [(0, y4k)]) (by kernel_rfl) ⟨y4v k, trivial⟩)
    (fun o r h => by unfold y4z at h; split at h <;> first | (cases h; rfl) | cases h) (y51 k)
def y53 (k : Nat) : Orc := pureOrc [.one (.sl (.st .layer))] (y50 k)
theorem y54 (k : Nat) : OrcOk Tryz.prog 50 (y53 k) := pureOrc_ok (y52 k)
noncomputable def y55 (k : Nat) : Env := { P := Tryz.prog, tt := tt, orc := fun g => cond (Nat.beq g 49) (y3e k) (cond (Nat.beq g 50) (y53 k) (noOrc)) }
theorem y56 (k : Nat) : EnvOk (y55 k) := fun g => (orc_cond (y3f k) (orc_cond (y54 k) (noOrc_ok _ _)))
noncomputable def y57 : Code := (Tryz.f25.body).getD .skip
def y58 (ρ : Type) (k : Nat) : Nat → Ev ρ → Ev ρ := fun _ _ _ _ => none
def y59 (a : Model) : List Arg := [.agg [.int .i64 a.inp.h, .int .i64 a.inp.w, .int .i64 a.inp.c, .sl (.st .layer) a.layers]]
def y5a (l : List Arg) : Option (Model) := match l with
  | [.agg [.int .i64 b0_0, .int .i64 b0_1, .int .i64 b0_2, .sl (.st .layer) b0_3]] => some (⟨(⟨b0_0, b0_1, b0_2⟩ : Shape), b0_3⟩ : Model)
  | _ => none
def y5b (r : Model) : Out := (.agg [.r [] (.int .i64 r.inp.h), .r [] (.int .i64 r.inp.w), .r [] (.int .i64 r.inp.c), .own 0], [.arr none (.st .layer) r.layers])
def y5c (o : Out) : Option (Model) := match o with
  | (.agg [.r [] (.int .i64 z1), .r [] (.int .i64 z2), .r [] (.int .i64 z3), .own 0], [.arr none (.st .layer) z4]) => some (⟨(⟨z1, z2, z3⟩ : Shape), z4⟩ : Model)
  | _ => none
def y5d (k : Nat) : PG := fun _ l K => (y5a l).bind fun a => (L_toModel k a).bind fun r => K (y5b r)
theorem y5e (k : Nat) (a : Model) : ev (y55 k) (y58 (Model) k) 0 y57 (st0 Tryz.f25 (y59 a)) (fin Tryz.prog Tryz.f25 (.agg [.sc, .sc, .sc, .own (.st .layer)]) y5c) = L_toModel k a := by kernel_rfl
theorem y5f (k : Nat) : PureOk Tryz.prog 25 (y5d k) :=
  pureOk_of_ev (y56 k) Tryz.func25 (by kernel_rfl) (by kernel_rfl) y59 y5a
    (fun l a h => by unfold y5a at h; split at h <;> first | (cases h; rfl) | cases h) (fun a => rfl) (lpgood_none (by kernel_rfl))
    (fun o r h => by unfold y5c at h; split at h <;> first | (cases h; rfl) | cases h) (y5e k)
def y5g (k : Nat) : Orc := pureOrc [.agg [(.int .i64), (.int .i64), (.int .i64), (.sl (.st .layer))]] (y5d k)
theorem y5h (k : Nat) : OrcOk Tryz.prog 25 (y5g k) := pureOrc_ok (y5f k)
noncomputable def y5i (k : Nat) : Env := { P := Tryz.prog, tt := tt, orc := fun g => cond (Nat.beq g 49) (y3e k) (cond (Nat.beq g 51) (y42 k) (noOrc)) }
theorem y5j (k : Nat) : EnvOk (y5i k) := fun g => (orc_cond (y3f k) (orc_cond (y43 k) (noOrc_ok _ _)))
noncomputable def y5k : Code := (Tryz.f26.body).getD .skip
def y5l (ρ : Type) (k : Nat) : Nat → Ev ρ → Ev ρ := fun _ _ _ _ => none
def y5m (a : Tensor) : List Arg := [.agg [.int .i64 a.sh.h, .int .i64 a.sh.w, .int .i64 a.sh.c, .sl (.int .i64) a.data]]
def y5n (l : List Arg) : Option (Tensor) := match l with
  | [.agg [.int .i64 b0_0, .int .i64 b0_1, .int .i64 b0_2, .sl (.int .i64) b0_3]] => some (⟨(⟨b0_0, b0_1, b0_2⟩ : Shape), b0_3⟩ : Tensor)
  | _ => none
def y5o (r : Tensor) : Out := (.agg [.r [] (.int .i64 r.sh.h), .r [] (.int .i64 r.sh.w), .r [] (.int .i64 r.sh.c), .own 0], [.arr none (.int .i64) r.data])
def y5p (o : Out) : Option (Tensor) := match o with
  | (.agg [.r [] (.int .i64 z1), .r [] (.int .i64 z2), .r [] (.int .i64 z3), .own 0], [.arr none (.int .i64) z4]) => some (⟨(⟨z1, z2, z3⟩ : Shape), z4⟩ : Tensor)
  | _ => none
def y5q (k : Nat) : PG := fun _ l K => (y5n l).bind fun a => (L_toTensor k a).bind fun r => K (y5o r)
theorem y5r (k : Nat) (a : Tensor) : ev (y5i k) (y5l (Tensor) k) 0 y5k (st0 Tryz.f26 (y5m a)) (fin Tryz.prog Tryz.f26 (.agg [.sc, .sc, .sc, .own (.int .i64)]) y5p) = L_toTensor k a := by kernel_rfl
theorem y5s (k : Nat) : PureOk Tryz.prog 26 (y5q k) :=
  pureOk_of_ev (y5j k) Tryz.func26 (by kernel_rfl) (by kernel_rfl) y5m y5n
    (fun l a h => by unfold y5n at h; split at h <;> first | (cases h; rfl) | cases h) (fun a => rfl) (lpgood_none (by kernel_rfl))
    (fun o r h => by unfold y5p at h; split at h <;> first | (cases h; rfl) | cases h) (y5r k)
def y5t (k : Nat) : Orc := pureOrc [.agg [(.int .i64), (.int .i64), (.int .i64), (.sl (.int .i64))]] (y5q k)
theorem y5u (k : Nat) : OrcOk Tryz.prog 26 (y5t k) := pureOrc_ok (y5s k)
noncomputable def y5v (k : Nat) : Env := { P := Tryz.prog, tt := tt, orc := fun g => cond (Nat.beq g 25) (y5g k) (cond (Nat.beq g 26) (y5t k) (noOrc)) }
theorem y5w (k : Nat) : EnvOk (y5v k) := fun g => (orc_cond (y5h k) (orc_cond (y5u k) (noOrc_ok _ _)))
noncomputable def y5x : Code := (Tryz.f8.body).getD .skip
def y5y (ρ : Type) (k : Nat) : Nat → Ev ρ → Ev ρ := fun _ _ _ _ => none
def y5z (a : Job) : List Arg := [.agg [.int .i64 a.model.inp.h, .int .i64 a.model.inp.w, .int .i64 a.model.inp.c, .sl (.st .layer) a.model.layers, .int .i64 a.at_, .int .i64 a.act.sh.h, .int .i64 a.act.sh.w, .int .i64 a.act.sh.c, .sl (.int .i64) a.act.data, .int .i64 a.spent]]
def y60 (l : List Arg) : Option (Job) := match l with
  | [.agg [.int .i64 b0_0, .int .i64 b0_1, .int .i64 b0_2, .sl (.st .layer) b0_3, .int .i64 b0_4, .int .i64 b0_5, .int .i64 b0_6, .int .i64 b0_7, .sl (.int .i64) b0_8, .int .i64 b0_9]] => some (⟨(⟨(⟨b0_0, b0_1, b0_2⟩ : Shape), b0_3⟩ : Model), b0_4, (⟨(⟨b0_5, b0_6, b0_7⟩ : Shape), b0_8⟩ : Tensor), b0_9⟩ : Job)
  | _ => none
def y61 (r : Job) : Out := (.agg [.r [] (.int .i64 r.model.inp.h), .r [] (.int .i64 r.model.inp.w), .r [] (.int .i64 r.model.inp.c), .own 0, .r [] (.int .i64 r.at_), .r [] (.int .i64 r.act.sh.h), .r [] (.int .i64 r.act.sh.w), .r [] (.int .i64 r.act.sh.c), .own 1, .r [] (.int .i64 r.spent)], [.arr none (.st .layer) r.model.layers, .arr none (.int .i64) r.act.data])
def y62 (o : Out) : Option (Job) := match o with
  | (.agg [.r [] (.int .i64 z1), .r [] (.int .i64 z2), .r [] (.int .i64 z3), .own 0, .r [] (.int .i64 z5), .r [] (.int .i64 z6), .r [] (.int .i64 z7), .r [] (.int .i64 z8), .own 1, .r [] (.int .i64 z10)], [.arr none (.st .layer) z4, .arr none (.int .i64) z9]) => some (⟨(⟨(⟨z1, z2, z3⟩ : Shape), z4⟩ : Model), z5, (⟨(⟨z6, z7, z8⟩ : Shape), z9⟩ : Tensor), z10⟩ : Job)
  | _ => none
def y63 (k : Nat) : PG := fun _ l K => (y60 l).bind fun a => (L_toJob k a).bind fun r => K (y61 r)
theorem y64 (k : Nat) (a : Job) : ev (y5v k) (y5y (Job) k) 0 y5x (st0 Tryz.f8 (y5z a)) (fin Tryz.prog Tryz.f8 (.agg [.sc, .sc, .sc, .own (.st .layer), .sc, .sc, .sc, .sc, .own (.int .i64), .sc]) y62) = L_toJob k a := by kernel_rfl
theorem y65 (k : Nat) : PureOk Tryz.prog 8 (y63 k) :=
  pureOk_of_ev (y5w k) Tryz.func8 (by kernel_rfl) (by kernel_rfl) y5z y60
    (fun l a h => by unfold y60 at h; split at h <;> first | (cases h; rfl) | cases h) (fun a => rfl) (lpgood_none (by kernel_rfl))
    (fun o r h => by unfold y62 at h; split at h <;> first | (cases h; rfl) | cases h) (y64 k)
def y66 (k : Nat) : Orc := pureOrc [.agg [(.int .i64), (.int .i64), (.int .i64), (.sl (.st .layer)), (.int .i64), (.int .i64), (.int .i64), (.int .i64), (.sl (.int .i64)), (.int .i64)]] (y63 k)
theorem y67 (k : Nat) : OrcOk Tryz.prog 8 (y66 k) := pureOrc_ok (y65 k)
noncomputable def y68 (k : Nat) : Env := { P := Tryz.prog, tt := tt, orc := fun g => noOrc }
theorem y69 (k : Nat) : EnvOk (y68 k) := fun g => (noOrc_ok _ _)
noncomputable def y6a : Code := (Tryz.f44.body).getD .skip
def y6b (ρ : Type) (k : Nat) : Nat → Ev ρ → Ev ρ := fun _ _ _ _ => none
def y6c (a : Int × Int × Int) : List Arg := [.one (.int .i64 a.1), .one (.int .i64 a.2.1), .one (.int .i64 a.2.2)]
def y6d (l : List Arg) : Option (Int × Int × Int) := match l with
  | [.one (.int .i64 b0), .one (.int .i64 b1), .one (.int .i64 b2)] => some (b0, b1, b2)
  | _ => none
def y6e (r : Bool) : Out := (.r [] (.bool r), [])
def y6f (o : Out) : Option (Bool) := match o with
  | (.r [] (.bool z1), []) => some z1
  | _ => none
def y6g (k : Nat) : PG := fun _ l K => (y6d l).bind fun a => (S_l01In k a.1 a.2.1 a.2.2).bind fun r => K (y6e r)
theorem y6h (k : Nat) (a : Int × Int × Int) : ev (y68 k) (y6b (Bool) k) 0 y6a (st0 Tryz.f44 (y6c a)) (fin Tryz.prog Tryz.f44 (.sc) y6f) = S_l01In k a.1 a.2.1 a.2.2 := by kernel_rfl
theorem y6i (k : Nat) : PureOk Tryz.prog 44 (y6g k) :=
  pureOk_of_ev (y69 k) Tryz.func44 (by kernel_rfl) (by kernel_rfl) y6c y6d
    (fun l a h => by unfold y6d at h; split at h <;> first | (cases h; rfl) | cases h) (fun a => rfl) (lpgood_none (by kernel_rfl))
    (fun o r h => by unfold y6f at h; split at h <;> first | (cases h; rfl) | cases h) (y6h k)
def y6j (k : Nat) : Orc := pureOrc [.one (.int .i64), .one (.int .i64), .one (.int .i64)] (y6g k)
theorem y6k (k : Nat) : OrcOk Tryz.prog 44 (y6j k) := pureOrc_ok (y6i k)
noncomputable def y6l (k : Nat) : Env := { P := Tryz.prog, tt := tt, orc := fun g => cond (Nat.beq g 44) (y6j k) (noOrc) }
theorem y6m (k : Nat) : EnvOk (y6l k) := fun g => (orc_cond (y6k k) (noOrc_ok _ _))
noncomputable def y6n : Code := (Tryz.f69.body).getD .skip
def y6o (ρ : Type) (k : Nat) : Nat → Ev ρ → Ev ρ := fun _ _ _ _ => none
def y6p (a : Shape) : List Arg := [.agg [.int .i64 a.h, .int .i64 a.w, .int .i64 a.c]]
def y6q (l : List Arg) : Option (Shape) := match l with
  | [.agg [.int .i64 b0_0, .int .i64 b0_1, .int .i64 b0_2]] => some (⟨b0_0, b0_1, b0_2⟩ : Shape)
  | _ => none
def y6r (r : Bool) : Out := (.r [] (.bool r), [])
def y6s (o : Out) : Option (Bool) := match o with
  | (.r [] (.bool z1), []) => some z1
  | _ => none
def y6t (k : Nat) : PG := fun _ l K => (y6q l).bind fun a => (S_ShapeOk k a).bind fun r => K (y6r r)
theorem y6u (k : Nat) (a : Shape) : ev (y6l k) (y6o (Bool) k) 0 y6n (st0 Tryz.f69 (y6p a)) (fin Tryz.prog Tryz.f69 (.sc) y6s) = S_ShapeOk k a := by kernel_rfl
theorem y6v (k : Nat) : PureOk Tryz.prog 69 (y6t k) :=
  pureOk_of_ev (y6m k) Tryz.func69 (by kernel_rfl) (by kernel_rfl) y6p y6q
    (fun l a h => by unfold y6q at h; split at h <;> first | (cases h; rfl) | cases h) (fun a => rfl) (lpgood_none (by kernel_rfl))
    (fun o r h => by unfold y6s at h; split at h <;> first | (cases h; rfl) | cases h) (y6u k)
def y6w (k : Nat) : Orc := pureOrc [.agg [(.int .i64), (.int .i64), (.int .i64)]] (y6t k)
theorem y6x (k : Nat) : OrcOk Tryz.prog 69 (y6w k) := pureOrc_ok (y6v k)
noncomputable def y6y (k : Nat) : Env := { P := Tryz.prog, tt := tt, orc := fun g => cond (Nat.beq g 44) (y6j k) (noOrc) }
theorem y6z (k : Nat) : EnvOk (y6y k) := fun g => (orc_cond (y6k k) (noOrc_ok _ _))
noncomputable def y70 : Code := (Tryz.f71.body).getD .skip
def y71 (ρ : Type) (k : Nat) : Nat → Ev ρ → Ev ρ := fun _ _ _ _ => none
def y72 (a : Int) : List Arg := [.one (.int .i64 a)]
def y73 (l : List Arg) : Option (Int) := match l with
  | [.one (.int .i64 b0)] => some b0
  | _ => none
def y74 (r : Bool) : Out := (.r [] (.bool r), [])
def y75 (o : Out) : Option (Bool) := match o with
  | (.r [] (.bool z1), []) => some z1
  | _ => none
def y76 (k : Nat) : PG := fun _ l K => (y73 l).bind fun a => (S_l02Int8 k a).bind fun r => K (y74 r)
theorem y77 (k : Nat) (a : Int) : ev (y6y k) (y71 (Bool) k) 0 y70 (st0 Tryz.f71 (y72 a)) (fin Tryz.prog Tryz.f71 (.sc) y75) = S_l02Int8 k a := by kernel_rfl
theorem y78 (k : Nat) : PureOk Tryz.prog 71 (y76 k) :=
  pureOk_of_ev (y6z k) Tryz.func71 (by kernel_rfl) (by kernel_rfl) y72 y73
    (fun l a h => by unfold y73 at h; split at h <;> first | (cases h; rfl) | cases h) (fun a => rfl) (lpgood_none (by kernel_rfl))
    (fun o r h => by unfold y75 at h; split at h <;> first | (cases h; rfl) | cases h) (y77 k)
def y79 (k : Nat) : Orc := pureOrc [.one (.int .i64)] (y76 k)
theorem y7a (k : Nat) : OrcOk Tryz.prog 71 (y79 k) := pureOrc_ok (y78 k)
noncomputable def y7b (k : Nat) : Env := { P := Tryz.prog, tt := tt, orc := fun g => cond (Nat.beq g 44) (y6j k) (cond (Nat.beq g 71) (y79 k) (noOrc)) }
theorem y7c (k : Nat) : EnvOk (y7b k) := fun g => (orc_cond (y6k k) (orc_cond (y7a k) (noOrc_ok _ _)))
noncomputable def y7d : Code := (Tryz.f86.body).getD .skip
noncomputable def y7e : Code := ((loopsIn 0 y7d).getD 0 (0, .skip)).2
noncomputable def y7f : Code := ((loopsIn 0 y7d).getD 1 (0, .skip)).2
def y7g : List Nat := [3, 7]
def y7h : List (Where × Co) := []
def y7i : Ex → List Nat
  | .exit j => cond (Nat.beq j 0) [3] []
  | .ret => [6]
  | .normal => []
def y7j : Ex → List (Where × Co)
  | .exit j => cond (Nat.beq j 0) [] []
  | .ret => []
  | .normal => []
def y7k (pv : (Int × Int × Int × Int × Int × Int × Int × List Int × List Int) × (Int)) : St := { slots := [(3, .ptr 0 0 0), (7, .r [] (.int .i64 pv.2))], heap := [(0, .box [.r [] (.int .i64 pv.1.1), .r [] (.int .i64 pv.1.2.1), .r [] (.int .i64 pv.1.2.2.1), .r [] (.int .i64 pv.1.2.2.2.1), .r [] (.int .i64 pv.1.2.2.2.2.1), .r [] (.int .i64 pv.1.2.2.2.2.2.1), .r [] (.int .i64 pv.1.2.2.2.2.2.2.1), .r [] (.sl (.int .i64) pv.1.2.2.2.2.2.2.2.1), .r [] (.sl (.int .i64) pv.1.2.2.2.2.2.2.2.2)])], nid := 1, n := 121, gh := [] }
def y7l (nf : NF) : Option ((Int × Int × Int × Int × Int × Int × Int × List Int × List Int) × (Int)) := match nf with
  | ([.ptr 0 0 0, .r [] (.int .i64 w0)], [.box [.r [] (.int .i64 w1), .r [] (.int .i64 w2), .r [] (.int .i64 w3), .r [] (.int .i64 w4), .r [] (.int .i64 w5), .r [] (.int .i64 w6), .r [] (.int .i64 w7), .r [] (.sl (.int .i64) w8), .r [] (.sl (.int .i64) w9)]], []) => some ((w1, w2, w3, w4, w5, w6, w7, w8, w9), w0)
  | _ => none
theorem y7m (nf : NF) (v : (Int × Int × Int × Int × Int × Int × Int × List Int × List Int) × (Int)) (h : y7l nf = some v) : denorm y7g 121 nf = y7k v := by
  unfold y7l at h
  split at h
  · cases h; rfl
  · cases h
def y7n (p : Int × Int × Int × Int × Int × Int × Int × List Int × List Int) (x : Unit) : St := { slots := [(3, .ptr 0 0 0)], heap := [(0, .box [.r [] (.int .i64 p.1), .r [] (.int .i64 p.2.1), .r [] (.int .i64 p.2.2.1), .r [] (.int .i64 p.2.2.2.1), .r [] (.int .i64 p.2.2.2.2.1), .r [] (.int .i64 p.2.2.2.2.2.1), .r [] (.int .i64 p.2.2.2.2.2.2.1), .r [] (.sl (.int .i64) p.2.2.2.2.2.2.2.1), .r [] (.sl (.int .i64) p.2.2.2.2.2.2.2.2)])], nid := 1, n := 121, gh := [] }
def y7o (p : Int × Int × Int × Int × Int × Int × Int × List Int × List Int) (x : Bool) : St := { slots := [(6, .r [] (.bool x))], heap := [], nid := 0, n := 121, gh := [] }
def y7p : List Nat := [3, 8]
def y7q : List (Where × Co) := []
def y7r : Ex → List Nat
  | .exit j => cond (Nat.beq j 2) [] []
  | .ret => [6]
  | .normal => []
def y7s : Ex → List (Where × Co)
  | .exit j => cond (Nat.beq j 2) [] []
  | .ret => []
  | .normal => []
def y7t (pv : (Int × Int × Int × Int × Int × Int × Int × List Int × List Int) × (Int)) : St := { slots := [(3, .ptr 0 0 0), (8, .r [] (.int .i64 pv.2))], heap := [(0, .box [.r [] (.int .i64 pv.1.1), .r [] (.int .i64 pv.1.2.1), .r [] (.int .i64 pv.1.2.2.1), .r [] (.int .i64 pv.1.2.2.2.1), .r [] (.int .i64 pv.1.2.2.2.2.1), .r [] (.int .i64 pv.1.2.2.2.2.2.1), .r [] (.int .i64 pv.1.2.2.2.2.2.2.1), .r [] (.sl (.int .i64) pv.1.2.2.2.2.2.2.2.1), .r [] (.sl (.int .i64) pv.1.2.2.2.2.2.2.2.2)])], nid := 1, n := 121, gh := [] }
def y7u (nf : NF) : Option ((Int × Int × Int × Int × Int × Int × Int × List Int × List Int) × (Int)) := match nf with
  | ([.ptr 0 0 0, .r [] (.int .i64 w0)], [.box [.r [] (.int .i64 w1), .r [] (.int .i64 w2), .r [] (.int .i64 w3), .r [] (.int .i64 w4), .r [] (.int .i64 w5), .r [] (.int .i64 w6), .r [] (.int .i64 w7), .r [] (.sl (.int .i64) w8), .r [] (.sl (.int .i64) w9)]], []) => some ((w1, w2, w3, w4, w5, w6, w7, w8, w9), w0)
  | _ => none
theorem y7v (nf : NF) (v : (Int × Int × Int × Int × Int × Int × Int × List Int × List Int) × (Int)) (h : y7u nf = some v) : denorm y7p 121 nf = y7t v := by
  unfold y7u at h
  split at h
  · cases h; rfl
  · cases h
def y7w (p : Int × Int × Int × Int × Int × Int × Int × List Int × List Int) (x : Unit) : St := { slots := [], heap := [], nid := 0, n := 121, gh := [] }
def y7x (p : Int × Int × Int × Int × Int × Int × Int × List Int × List Int) (x : Bool) : St := { slots := [(6, .r [] (.bool x))], heap := [], nid := 0, n := 121, gh := [] }
def y7y (ρ : Type) (k : Nat) : Nat → Ev ρ → Ev ρ := fun id f => cond (Nat.beq id 2) (loopOrc y7p y7q (fun n nf => cond (Nat.beq n 121) (y7u nf) none) fun pv K => iter (fun v next => S_l03Plain_g1 k pv.1 v next (fun x => K (.exit 2) (y7w pv.1 x)) (fun x => K .ret (y7x pv.1 x))) k pv.2) ((fun id f => cond (Nat.beq id 0) (loopOrc y7g y7h (fun n nf => cond (Nat.beq n 121) (y7l nf) none) fun pv K => iter (fun v next => S_l03Plain_g0 k pv.1 v next (fun x => K (.exit 0) (y7n pv.1 x)) (fun x => K .ret (y7o pv.1 x))) k pv.2) ((fun _ _ _ _ => none) id f)) id f)
theorem y7z {ρ : Type} (k : Nat) (p : Int × Int × Int × Int × Int × Int × Int × List Int × List Int) (v : Int) (K K1 : Ex → St → Option ρ) : ev (y7b k) (y7y ρ k) 0 y7e (y7k (p, v)) (fun e st' => match e with
    | .normal => (normC y7g y7h st').bind fun nf => K1 .normal (denorm y7g st'.n nf)
    | e => (normC (y7i e) (y7j e) st').bind fun nf => K e (denorm (y7i e) st'.n nf)) = S_l03Plain_g0 k p v (fun v' => K1 .normal (y7k (p, v'))) (fun x => K (.exit 0) (y7n p x)) (fun x => K .ret (y7o p x)) := by kernel_rfl
theorem y80 {ρ : Type} (k : Nat) : Sound Tryz.prog (.loop y7e) (y7y ρ k 0 fun st K => ev (y7b k) (y7y ρ k) 0 y7e st K) :=
  loop_ok (ev_sound (y7c k) y7e 0 (lpgood_none (by kernel_rfl))) y7i y7j k (g := fun p v next K => S_l03Plain_g0 k p v next (fun x => K (.exit 0) (y7n p x)) (fun x => K .ret (y7o p x))) (dec_at y7m) (fun p v K K1 => y7z k p v K K1)
theorem y81 {ρ : Type} (k : Nat) (p : Int × Int × Int × Int × Int × Int × Int × List Int × List Int) (v : Int) (K K1 : Ex → St → Option ρ) : ev (y7b k) (y7y ρ k) 2 y7f (y7t (p, v)) (fun e st' => match e with
    | .normal => (normC y7p y7q st').bind fun nf => K1 .normal (denorm y7p st'.n nf)
    | e => (normC (y7r e) (y7s e) st').bind fun nf => K e (denorm (y7r e) st'.n nf)) = S_l03Plain_g1 k p v (fun v' => K1 .normal (y7t (p, v'))) (fun x => K (.exit 2) (y7w p x)) (fun x => K .ret (y7x p x)) := by kernel_rfl
theorem y82 {ρ : Type} (k : Nat) : Sound Tryz.prog (.loop y7f) (y7y ρ k 2 fun st K => ev (y7b k) (y7y ρ k) 2 y7f st K) :=
  loop_ok (ev_sound (y7c k) y7f 2 (lpgood_none (by kernel_rfl))) y7r y7s k (g := fun p v next K => S_l03Plain_g1 k p v next (fun x => K (.exit 2) (y7w p x)) (fun x => K .ret (y7x p x))) (dec_at y7v) (fun p v K K1 => y81 k p v K K1)
def y83 (a : Layer × Bool × Bool) : List Arg := [.agg [.int .i64 a.1.kind, .int .i64 a.1.out, .int .i64 a.1.size, .int .i64 a.1.step, .int .i64 a.1.mult, .int .i64 a.1.shift, .int .i64 a.1.zero, .sl (.int .i64) a.1.weights, .sl (.int .i64) a.1.bias], .one (.bool a.2.1), .one (.bool a.2.2)]
def y84 (l : List Arg) : Option (Layer × Bool × Bool) := match l with
  | [.agg [.int .i64 b0_0, .int .i64 b0_1, .int .i64 b0_2, .int .i64 b0_3, .int .i64 b0_4, .int .i64 b0_5, .int .i64 b0_6, .sl (.int .i64) b0_7, .sl (.int .i64) b0_8], .one (.bool b1), .one (.bool b2)] => some ((⟨b0_0, b0_1, b0_2, b0_3, b0_4, b0_5, b0_6, b0_7, b0_8⟩ : Layer), b1, b2)
  | _ => none
def y85 (r : Bool) : Out := (.r [] (.bool r), [])
def y86 (o : Out) : Option (Bool) := match o with
  | (.r [] (.bool z1), []) => some z1
  | _ => none
def y87 (k : Nat) : PG := fun _ l K => (y84 l).bind fun a => (S_l03Plain k a.1 a.2.1 a.2.2).bind fun r => K (y85 r)
theorem y88 (k : Nat) (a : Layer × Bool × Bool) : ev (y7b k) (y7y (Bool) k) 0 y7d (st0 Tryz.f86 (y83 a)) (fin Tryz.prog Tryz.f86 (.sc) y86) = S_l03Plain k a.1 a.2.1 a.2.2 := by kernel_rfl
theorem y89 (k : Nat) : PureOk Tryz.prog 86 (y87 k) :=
  pureOk_of_ev (y7c k) Tryz.func86 (by kernel_rfl) (by kernel_rfl) y83 y84
    (fun l a h => by unfold y84 at h; split at h <;> first | (cases h; rfl) | cases h) (fun a => rfl) (lpgood_of (l := [(0, y7e), (2, y7f)]) (by kernel_rfl) ⟨y80 k, ⟨y82 k, trivial⟩⟩)
    (fun o r h => by unfold y86 at h; split at h <;> first | (cases h; rfl) | cases h) (y88 k)
def y8a (k : Nat) : Orc := pureOrc [.agg [(.int .i64), (.int .i64), (.int .i64), (.int .i64), (.int .i64), (.int .i64), (.int .i64), (.sl (.int .i64)), (.sl (.int .i64))], .one .bool, .one .bool] (y87 k)
theorem y8b (k : Nat) : OrcOk Tryz.prog 86 (y8a k) := pureOrc_ok (y89 k)
noncomputable def y8c (k : Nat) : Env := { P := Tryz.prog, tt := tt, orc := fun g => cond (Nat.beq g 69) (y6w k) (noOrc) }
theorem y8d (k : Nat) : EnvOk (y8c k) := fun g => (orc_cond (y6x k) (noOrc_ok _ _))
noncomputable def y8e : Code := (Tryz.f70.body).getD .skip
def y8f (ρ : Type) (k : Nat) : Nat → Ev ρ → Ev ρ := fun _ _ _ _ => none
def y8g (a : Shape) : List Arg := [.agg [.int .i64 a.h, .int .i64 a.w, .int .i64 a.c]]
def y8h (l : List Arg) : Option (Shape) := match l with
  | [.agg [.int .i64 b0_0, .int .i64 b0_1, .int .i64 b0_2]] => some (⟨b0_0, b0_1, b0_2⟩ : Shape)
  | _ => none
def y8i (r : Int) : Out := (.r [] (.int .i64 r), [])
def y8j (o : Out) : Option (Int) := match o with
  | (.r [] (.int .i64 z1), []) => some z1
  | _ => none
def y8k (k : Nat) : PG := fun _ l K => (y8h l).bind fun a => (S_SizeOf k a).bind fun r => K (y8i r)
theorem y8l (k : Nat) (a : Shape) : ev (y8c k) (y8f (Int) k) 0 y8e (st0 Tryz.f70 (y8g a)) (fin Tryz.prog Tryz.f70 (.sc) y8j) = S_SizeOf k a := by kernel_rfl
theorem y8m (k : Nat) : PureOk Tryz.prog 70 (y8k k) :=
  pureOk_of_ev (y8d k) Tryz.func70 (by kernel_rfl) (by kernel_rfl) y8g y8h
    (fun l a h => by unfold y8h at h; split at h <;> first | (cases h; rfl) | cases h) (fun a => rfl) (lpgood_none (by kernel_rfl))
    (fun o r h => by unfold y8j at h; split at h <;> first | (cases h; rfl) | cases h) (y8l k)
def y8n (k : Nat) : Orc := pureOrc [.agg [(.int .i64), (.int .i64), (.int .i64)]] (y8k k)
theorem y8o (k : Nat) : OrcOk Tryz.prog 70 (y8n k) := pureOrc_ok (y8m k)
noncomputable def y8p (k : Nat) : Env := { P := Tryz.prog, tt := tt, orc := fun g => cond (Nat.beq g 44) (y6j k) (cond (Nat.beq g 69) (y6w k) (cond (Nat.beq g 70) (y8n k) (cond (Nat.beq g 86) (y8a k) (noOrc)))) }
theorem y8q (k : Nat) : EnvOk (y8p k) := fun g => (orc_cond (y6k k) (orc_cond (y6x k) (orc_cond (y8o k) (orc_cond (y8b k) (noOrc_ok _ _)))))
noncomputable def y8r : Code := (Tryz.f63.body).getD .skip
def y8s (ρ : Type) (k : Nat) : Nat → Ev ρ → Ev ρ := fun _ _ _ _ => none
def y8t (a : Shape × Layer) : List Arg := [.agg [.int .i64 a.1.h, .int .i64 a.1.w, .int .i64 a.1.c], .agg [.int .i64 a.2.kind, .int .i64 a.2.out, .int .i64 a.2.size, .int .i64 a.2.step, .int .i64 a.2.mult, .int .i64 a.2.shift, .int .i64 a.2.zero, .sl (.int .i64) a.2.weights, .sl (.int .i64) a.2.bias]]
def y8u (l : List Arg) : Option (Shape × Layer) := match l with
  | [.agg [.int .i64 b0_0, .int .i64 b0_1, .int .i64 b0_2], .agg [.int .i64 b1_0, .int .i64 b1_1, .int .i64 b1_2, .int .i64 b1_3, .int .i64 b1_4, .int .i64 b1_5, .int .i64 b1_6, .sl (.int .i64) b1_7, .sl (.int .i64) b1_8]] => some ((⟨b0_0, b0_1, b0_2⟩ : Shape), (⟨b1_0, b1_1, b1_2, b1_3, b1_4, b1_5, b1_6, b1_7, b1_8⟩ : Layer))
  | _ => none
def y8v (r : Shape × Bool) : Out := (.tup [.agg [.r [] (.int .i64 r.1.h), .r [] (.int .i64 r.1.w), .r [] (.int .i64 r.1.c)], .r [] (.bool r.2)], [])
def y8w (o : Out) : Option (Shape × Bool) := match o with
  | (.tup [.agg [.r [] (.int .i64 z1), .r [] (.int .i64 z2), .r [] (.int .i64 z3)], .r [] (.bool z4)], []) => some ((⟨z1, z2, z3⟩ : Shape), z4)
  | _ => none
def y8x (k : Nat) : PG := fun _ l K => (y8u l).bind fun a => (S_OutShape k a.1 a.2).bind fun r => K (y8v r)
theorem y8y (k : Nat) (a : Shape × Layer) : ev (y8p k) (y8s (Shape × Bool) k) 0 y8r (st0 Tryz.f63 (y8t a)) (fin Tryz.prog Tryz.f63 (.tup [.agg [.sc, .sc, .sc], .sc]) y8w) = S_OutShape k a.1 a.2 := by kernel_rfl
theorem y8z (k : Nat) : PureOk Tryz.prog 63 (y8x k) :=
  pureOk_of_ev (y8q k) Tryz.func63 (by kernel_rfl) (by kernel_rfl) y8t y8u
    (fun l a h => by unfold y8u at h; split at h <;> first | (cases h; rfl) | cases h) (fun a => rfl) (lpgood_none (by kernel_rfl))
    (fun o r h => by unfold y8w at h; split at h <;> first | (cases h; rfl) | cases h) (y8y k)
def y90 (k : Nat) : Orc := pureOrc [.agg [(.int .i64), (.int .i64), (.int .i64)], .agg [(.int .i64), (.int .i64), (.int .i64), (.int .i64), (.int .i64), (.int .i64), (.int .i64), (.sl (.int .i64)), (.sl (.int .i64))]] (y8x k)
theorem y91 (k : Nat) : OrcOk Tryz.prog 63 (y90 k) := pureOrc_ok (y8z k)
noncomputable def y92 (k : Nat) : Env := { P := Tryz.prog, tt := tt, orc := fun g => cond (Nat.beq g 44) (y6j k) (cond (Nat.beq g 63) (y90 k) (cond (Nat.beq g 69) (y6w k) (noOrc))) }
theorem y93 (k : Nat) : EnvOk (y92 k) := fun g => (orc_cond (y6k k) (orc_cond (y91 k) (orc_cond (y6x k) (noOrc_ok _ _))))
noncomputable def y94 : Code := (Tryz.f43.body).getD .skip
noncomputable def y95 : Code := ((loopsIn 0 y94).getD 0 (0, .skip)).2
def y96 : List Nat := [1, 4, 5]
def y97 : List (Where × Co) := []
def y98 : Ex → List Nat
  | .exit j => cond (Nat.beq j 0) [4] []
  | .ret => [2, 3]
  | .normal => []
def y99 : Ex → List (Where × Co)
  | .exit j => cond (Nat.beq j 0) [] []
  | .ret => []
  | .normal => []
def y9a (pv : (Int × Int × Int × List Layer) × (Int × List Shape)) : St := { slots := [(1, .ptr 0 0 0), (4, .own 1), (5, .r [] (.int .i64 pv.2.1))], heap := [(0, .box [.r [] (.int .i64 pv.1.1), .r [] (.int .i64 pv.1.2.1), .r [] (.int .i64 pv.1.2.2.1), .r [] (.sl (.st .layer) pv.1.2.2.2)]), (1, .arr none (.st .shape) pv.2.2)], nid := 2, n := 49, gh := [] }
def y9b (nf : NF) : Option ((Int × Int × Int × List Layer) × (Int × List Shape)) := match nf with
  | ([.ptr 0 0 0, .own 1, .r [] (.int .i64 w0)], [.box [.r [] (.int .i64 w1), .r [] (.int .i64 w2), .r [] (.int .i64 w3), .r [] (.sl (.st .layer) w4)], .arr none (.st .shape) w5], []) => some ((w1, w2, w3, w4), (w0, w5))
  | _ => none
theorem y9c (nf : NF) (v : (Int × Int × Int × List Layer) × (Int × List Shape)) (h : y9b nf = some v) : denorm y96 49 nf = y9a v := by
  unfold y9b at h
  split at h
  · cases h; rfl
  · cases h
def y9d (p : Int × Int × Int × List Layer) (x : List Shape) : St := { slots := [(4, .own 0)], heap := [(0, .arr none (.st .shape) x)], nid := 1, n := 49, gh := [] }
def y9e (p : Int × Int × Int × List Layer) (x : Bool) : St := { slots := [(2, .nilS), (3, .r [] (.bool x))], heap := [], nid := 0, n := 49, gh := [] }
def y9f (ρ : Type) (k : Nat) : Nat → Ev ρ → Ev ρ := fun id f => cond (Nat.beq id 0) (loopOrc y96 y97 (fun n nf => cond (Nat.beq n 49) (y9b nf) none) fun pv K => iter (fun v next => S_l04Shapes_g0 k pv.1 v next (fun x => K (.exit 0) (y9d pv.1 x)) (fun x => K .ret (y9e pv.1 x))) k pv.2) ((fun _ _ _ _ => none) id f)
theorem y9g {ρ : Type} (k : Nat) (p : Int × Int × Int × List Layer) (v : Int × List Shape) (K K1 : Ex → St → Option ρ) : ev (y92 k) (y9f ρ k) 0 y95 (y9a (p, v)) (fun e st' => match e with
    | .normal => (normC y96 y97 st').bind fun nf => K1 .normal (denorm y96 st'.n nf)
    | e => (normC (y98 e) (y99 e) st').bind fun nf => K e (denorm (y98 e) st'.n nf)) = S_l04Shapes_g0 k p v (fun v' => K1 .normal (y9a (p, v'))) (fun x => K (.exit 0) (y9d p x)) (fun x => K .ret (y9e p x)) := by kernel_rfl
theorem y9h {ρ : Type} (k : Nat) : Sound Tryz.prog (.loop y95) (y9f ρ k 0 fun st K => ev (y92 k) (y9f ρ k) 0 y95 st K) :=
  loop_ok (ev_sound (y93 k) y95 0 (lpgood_none (by kernel_rfl))) y98 y99 k (g := fun p v next K => S_l04Shapes_g0 k p v next (fun x => K (.exit 0) (y9d p x)) (fun x => K .ret (y9e p x))) (dec_at y9c) (fun p v K K1 => y9g k p v K K1)
def y9i (a : Model) : List Arg := [.agg [.int .i64 a.inp.h, .int .i64 a.inp.w, .int .i64 a.inp.c, .sl (.st .layer) a.layers]]
def y9j (l : List Arg) : Option (Model) := match l with
  | [.agg [.int .i64 b0_0, .int .i64 b0_1, .int .i64 b0_2, .sl (.st .layer) b0_3]] => some (⟨(⟨b0_0, b0_1, b0_2⟩ : Shape), b0_3⟩ : Model)
  | _ => none
def y9k (r : List Shape × Bool) : Out := (.tup [.own 0, .r [] (.bool r.2)], [.arr none (.st .shape) r.1])
def y9l (o : Out) : Option (List Shape × Bool) := match o with
  | (.tup [.own 0, .r [] (.bool z2)], [.arr none (.st .shape) z1]) => some (z1, z2)
  | _ => none
def y9m (k : Nat) : PG := fun _ l K => (y9j l).bind fun a => (S_l04Shapes k a).bind fun r => K (y9k r)
theorem y9n (k : Nat) (a : Model) : ev (y92 k) (y9f (List Shape × Bool) k) 0 y94 (st0 Tryz.f43 (y9i a)) (fin Tryz.prog Tryz.f43 (.tup [.own (.st .shape), .sc]) y9l) = S_l04Shapes k a := by kernel_rfl
theorem y9o (k : Nat) : PureOk Tryz.prog 43 (y9m k) :=
  pureOk_of_ev (y93 k) Tryz.func43 (by kernel_rfl) (by kernel_rfl) y9i y9j
    (fun l a h => by unfold y9j at h; split at h <;> first | (cases h; rfl) | cases h) (fun a => rfl) (lpgood_of (l := [(0, y95)]) (by kernel_rfl) ⟨y9h k, trivial⟩)
    (fun o r h => by unfold y9l at h; split at h <;> first | (cases h; rfl) | cases h) (y9n k)
def y9p (k : Nat) : Orc := pureOrc [.agg [(.int .i64), (.int .i64), (.int .i64), (.sl (.st .layer))]] (y9m k)
theorem y9q (k : Nat) : OrcOk Tryz.prog 43 (y9p k) := pureOrc_ok (y9o k)
noncomputable def y9r (k : Nat) : Env := { P := Tryz.prog, tt := tt, orc := fun g => cond (Nat.beq g 69) (y6w k) (cond (Nat.beq g 70) (y8n k) (cond (Nat.beq g 71) (y79 k) (noOrc))) }
theorem y9s (k : Nat) : EnvOk (y9r k) := fun g => (orc_cond (y6x k) (orc_cond (y8o k) (orc_cond (y7a k) (noOrc_ok _ _))))
noncomputable def y9t : Code := (Tryz.f45.body).getD .skip
noncomputable def y9u : Code := ((loopsIn 0 y9t).getD 0 (0, .skip)).2
def y9v : List Nat := [1, 3]
def y9w : List (Where × Co) := []
def y9x : Ex → List Nat
  | .exit j => cond (Nat.beq j 0) [] []
  | .ret => [2]
  | .normal => []
def y9y : Ex → List (Where × Co)
  | .exit j => cond (Nat.beq j 0) [] []
  | .ret => []
  | .normal => []
def y9z (pv : (Int × Int × Int × List Int) × (Int)) : St := { slots := [(1, .ptr 0 0 0), (3, .r [] (.int .i64 pv.2))], heap := [(0, .box [.r [] (.int .i64 pv.1.1), .r [] (.int .i64 pv.1.2.1), .r [] (.int .i64 pv.1.2.2.1), .r [] (.sl (.int .i64) pv.1.2.2.2)])], nid := 1, n := 31, gh := [] }
def ya0 (nf : NF) : Option ((Int × Int × Int × List Int) × (Int)) := match nf with
  | ([.ptr 0 0 0, .r [] (.int .i64 w0)], [.box [.r [] (.int .i64 w1), .r [] (.int .i64 w2), .r [] (.int .i64 w3), .r [] (.sl (.int .i64) w4)]], []) => some ((w1, w2, w3, w4), w0)
  | _ => none
theorem ya1 (nf : NF) (v : (Int × Int × Int × List Int) × (Int)) (h : ya0 nf = some v) : denorm y9v 31 nf = y9z v := by
  unfold ya0 at h
  split at h
  · cases h; rfl
  · cases h
def ya2 (p : Int × Int × Int × List Int) (x : Unit) : St := { slots := [], heap := [], nid := 0, n := 31, gh := [] }
def ya3 (p : Int × Int × Int × List Int) (x : Bool) : St := { slots := [(2, .r [] (.bool x))], heap := [], nid := 0, n := 31, gh := [] }
def ya4 (ρ : Type) (k : Nat) : Nat → Ev ρ → Ev ρ := fun id f => cond (Nat.beq id 0) (loopOrc y9v y9w (fun n nf => cond (Nat.beq n 31) (ya0 nf) none) fun pv K => iter (fun v next => S_TensorOk_g0 k pv.1 v next (fun x => K (.exit 0) (ya2 pv.1 x)) (fun x => K .ret (ya3 pv.1 x))) k pv.2) ((fun _ _ _ _ => none) id f)
theorem ya5 {ρ : Type} (k : Nat) (p : Int × Int × Int × List Int) (v : Int) (K K1 : Ex → St → Option ρ) : ev (y9r k) (ya4 ρ k) 0 y9u (y9z (p, v)) (fun e st' => match e with
    | .normal => (normC y9v y9w st').bind fun nf => K1 .normal (denorm y9v st'.n nf)
    | e => (normC (y9x e) (y9y e) st').bind fun nf => K e (denorm (y9x e) st'.n nf)) = S_TensorOk_g0 k p v (fun v' => K1 .normal (y9z (p, v'))) (fun x => K (.exit 0) (ya2 p x)) (fun x => K .ret (ya3 p x)) := by kernel_rfl
theorem ya6 {ρ : Type} (k : Nat) : Sound Tryz.prog (.loop y9u) (ya4 ρ k 0 fun st K => ev (y9r k) (ya4 ρ k) 0 y9u st K) :=
  loop_ok (ev_sound (y9s k) y9u 0 (lpgood_none (by kernel_rfl))) y9x y9y k (g := fun p v next K => S_TensorOk_g0 k p v next (fun x => K (.exit 0) (ya2 p x)) (fun x => K .ret (ya3 p x))) (dec_at ya1) (fun p v K K1 => ya5 k p v K K1)
def ya7 (a : Tensor) : List Arg := [.agg [.int .i64 a.sh.h, .int .i64 a.sh.w, .int .i64 a.sh.c, .sl (.int .i64) a.data]]
def ya8 (l : List Arg) : Option (Tensor) := match l with
  | [.agg [.int .i64 b0_0, .int .i64 b0_1, .int .i64 b0_2, .sl (.int .i64) b0_3]] => some (⟨(⟨b0_0, b0_1, b0_2⟩ : Shape), b0_3⟩ : Tensor)
  | _ => none
def ya9 (r : Bool) : Out := (.r [] (.bool r), [])
def yaa (o : Out) : Option (Bool) := match o with
  | (.r [] (.bool z1), []) => some z1
  | _ => none
def yab (k : Nat) : PG := fun _ l K => (ya8 l).bind fun a => (S_TensorOk k a).bind fun r => K (ya9 r)
theorem yac (k : Nat) (a : Tensor) : ev (y9r k) (ya4 (Bool) k) 0 y9t (st0 Tryz.f45 (ya7 a)) (fin Tryz.prog Tryz.f45 (.sc) yaa) = S_TensorOk k a := by kernel_rfl
theorem yad (k : Nat) : PureOk Tryz.prog 45 (yab k) :=
  pureOk_of_ev (y9s k) Tryz.func45 (by kernel_rfl) (by kernel_rfl) ya7 ya8
    (fun l a h => by unfold ya8 at h; split at h <;> first | (cases h; rfl) | cases h) (fun a => rfl) (lpgood_of (l := [(0, y9u)]) (by kernel_rfl) ⟨ya6 k, trivial⟩)
    (fun o r h => by unfold yaa at h; split at h <;> first | (cases h; rfl) | cases h) (yac k)
def yae (k : Nat) : Orc := pureOrc [.agg [(.int .i64), (.int .i64), (.int .i64), (.sl (.int .i64))]] (yab k)
theorem yaf (k : Nat) : OrcOk Tryz.prog 45 (yae k) := pureOrc_ok (yad k)
noncomputable def yag (k : Nat) : Env := { P := Tryz.prog, tt := tt, orc := fun g => cond (Nat.beq g 63) (y90 k) (cond (Nat.beq g 70) (y8n k) (noOrc)) }
theorem yah (k : Nat) : EnvOk (yag k) := fun g => (orc_cond (y91 k) (orc_cond (y8o k) (noOrc_ok _ _)))
noncomputable def yai : Code := (Tryz.f72.body).getD .skip
def yaj (ρ : Type) (k : Nat) : Nat → Ev ρ → Ev ρ := fun _ _ _ _ => none
def yak (a : Shape × Layer) : List Arg := [.agg [.int .i64 a.1.h, .int .i64 a.1.w, .int .i64 a.1.c], .agg [.int .i64 a.2.kind, .int .i64 a.2.out, .int .i64 a.2.size, .int .i64 a.2.step, .int .i64 a.2.mult, .int .i64 a.2.shift, .int .i64 a.2.zero, .sl (.int .i64) a.2.weights, .sl (.int .i64) a.2.bias]]
def yal (l : List Arg) : Option (Shape × Layer) := match l with
  | [.agg [.int .i64 b0_0, .int .i64 b0_1, .int .i64 b0_2], .agg [.int .i64 b1_0, .int .i64 b1_1, .int .i64 b1_2, .int .i64 b1_3, .int .i64 b1_4, .int .i64 b1_5, .int .i64 b1_6, .sl (.int .i64) b1_7, .sl (.int .i64) b1_8]] => some ((⟨b0_0, b0_1, b0_2⟩ : Shape), (⟨b1_0, b1_1, b1_2, b1_3, b1_4, b1_5, b1_6, b1_7, b1_8⟩ : Layer))
  | _ => none
def yam (r : Int) : Out := (.r [] (.int .i64 r), [])
def yan (o : Out) : Option (Int) := match o with
  | (.r [] (.int .i64 z1), []) => some z1
  | _ => none
def yao (k : Nat) : PG := fun _ l K => (yal l).bind fun a => (S_CostOf k a.1 a.2).bind fun r => K (yam r)
theorem yap (k : Nat) (a : Shape × Layer) : ev (yag k) (yaj (Int) k) 0 yai (st0 Tryz.f72 (yak a)) (fin Tryz.prog Tryz.f72 (.sc) yan) = S_CostOf k a.1 a.2 := by kernel_rfl
theorem yaq (k : Nat) : PureOk Tryz.prog 72 (yao k) :=
  pureOk_of_ev (yah k) Tryz.func72 (by kernel_rfl) (by kernel_rfl) yak yal
    (fun l a h => by unfold yal at h; split at h <;> first | (cases h; rfl) | cases h) (fun a => rfl) (lpgood_none (by kernel_rfl))
    (fun o r h => by unfold yan at h; split at h <;> first | (cases h; rfl) | cases h) (yap k)
def yar (k : Nat) : Orc := pureOrc [.agg [(.int .i64), (.int .i64), (.int .i64)], .agg [(.int .i64), (.int .i64), (.int .i64), (.int .i64), (.int .i64), (.int .i64), (.int .i64), (.sl (.int .i64)), (.sl (.int .i64))]] (yao k)
theorem yas (k : Nat) : OrcOk Tryz.prog 72 (yar k) := pureOrc_ok (yaq k)
noncomputable def yat (k : Nat) : Env := { P := Tryz.prog, tt := tt, orc := fun g => cond (Nat.beq g 43) (y9p k) (cond (Nat.beq g 72) (yar k) (noOrc)) }
theorem yau (k : Nat) : EnvOk (yat k) := fun g => (orc_cond (y9q k) (orc_cond (yas k) (noOrc_ok _ _)))
noncomputable def yav : Code := (Tryz.f46.body).getD .skip
noncomputable def yaw : Code := ((loopsIn 0 yav).getD 0 (0, .skip)).2
def yax : List Nat := [1, 3, 4, 6]
def yay : List (Where × Co) := []
def yaz : Ex → List Nat
  | .exit j => cond (Nat.beq j 0) [3] []
  | .ret => []
  | .normal => []
def yb0 : Ex → List (Where × Co)
  | .exit j => cond (Nat.beq j 0) [] []
  | .ret => []
  | .normal => []
def yb1 (pv : (Int × Int × Int × List Layer × List Shape) × (Int × List Int)) : St := { slots := [(1, .ptr 0 0 0), (3, .own 1), (4, .own 2), (6, .r [] (.int .i64 pv.2.1))], heap := [(0, .box [.r [] (.int .i64 pv.1.1), .r [] (.int .i64 pv.1.2.1), .r [] (.int .i64 pv.1.2.2.1), .r [] (.sl (.st .layer) pv.1.2.2.2.1)]), (1, .arr none (.int .i64) pv.2.2), (2, .arr none (.st .shape) pv.1.2.2.2.2)], nid := 3, n := 36, gh := [] }
def yb2 (nf : NF) : Option ((Int × Int × Int × List Layer × List Shape) × (Int × List Int)) := match nf with
  | ([.ptr 0 0 0, .own 1, .own 2, .r [] (.int .i64 w0)], [.box [.r [] (.int .i64 w1), .r [] (.int .i64 w2), .r [] (.int .i64 w3), .r [] (.sl (.st .layer) w4)], .arr none (.int .i64) w5, .arr none (.st .shape) w6], []) => some ((w1, w2, w3, w4, w6), (w0, w5))
  | _ => none
theorem yb3 (nf : NF) (v : (Int × Int × Int × List Layer × List Shape) × (Int × List Int)) (h : yb2 nf = some v) : denorm yax 36 nf = yb1 v := by
  unfold yb2 at h
  split at h
  · cases h; rfl
  · cases h
def yb4 (p : Int × Int × Int × List Layer × List Shape) (x : List Int) : St := { slots := [(3, .own 0)], heap := [(0, .arr none (.int .i64) x)], nid := 1, n := 36, gh := [] }
def yb5 (ρ : Type) (k : Nat) : Nat → Ev ρ → Ev ρ := fun id f => cond (Nat.beq id 0) (loopOrc yax yay (fun n nf => cond (Nat.beq n 36) (yb2 nf) none) fun pv K => iter (fun v next => S_CostsOf_g0 k pv.1 v next (fun x => K (.exit 0) (yb4 pv.1 x))) k pv.2) ((fun _ _ _ _ => none) id f)
theorem yb6 {ρ : Type} (k : Nat) (p : Int × Int × Int × List Layer × List Shape) (v : Int × List Int) (K K1 : Ex → St → Option ρ) : ev (yat k) (yb5 ρ k) 0 yaw (yb1 (p, v)) (fun e st' => match e with
    | .normal => (normC yax yay st').bind fun nf => K1 .normal (denorm yax st'.n nf)
    | e => (normC (yaz e) (yb0 e) st').bind fun nf => K e (denorm (yaz e) st'.n nf)) = S_CostsOf_g0 k p v (fun v' => K1 .normal (yb1 (p, v'))) (fun x => K (.exit 0) (yb4 p x)) := by kernel_rfl
theorem yb7 {ρ : Type} (k : Nat) : Sound Tryz.prog (.loop yaw) (yb5 ρ k 0 fun st K => ev (yat k) (yb5 ρ k) 0 yaw st K) :=
  loop_ok (ev_sound (yau k) yaw 0 (lpgood_none (by kernel_rfl))) yaz yb0 k (g := fun p v next K => S_CostsOf_g0 k p v next (fun x => K (.exit 0) (yb4 p x))) (dec_at yb3) (fun p v K K1 => yb6 k p v K K1)
def yb8 (a : Model) : List Arg := [.agg [.int .i64 a.inp.h, .int .i64 a.inp.w, .int .i64 a.inp.c, .sl (.st .layer) a.layers]]
def yb9 (l : List Arg) : Option (Model) := match l with
  | [.agg [.int .i64 b0_0, .int .i64 b0_1, .int .i64 b0_2, .sl (.st .layer) b0_3]] => some (⟨(⟨b0_0, b0_1, b0_2⟩ : Shape), b0_3⟩ : Model)
  | _ => none
def yba (r : List Int) : Out := (.own 0, [.arr none (.int .i64) r])
def ybb (o : Out) : Option (List Int) := match o with
  | (.own 0, [.arr none (.int .i64) z1]) => some z1
  | _ => none
def ybc (k : Nat) : PG := fun _ l K => (yb9 l).bind fun a => (S_CostsOf k a).bind fun r => K (yba r)
theorem ybd (k : Nat) (a : Model) : ev (yat k) (yb5 (List Int) k) 0 yav (st0 Tryz.f46 (yb8 a)) (fin Tryz.prog Tryz.f46 (.own (.int .i64)) ybb) = S_CostsOf k a := by kernel_rfl
theorem ybe (k : Nat) : PureOk Tryz.prog 46 (ybc k) :=
  pureOk_of_ev (yau k) Tryz.func46 (by kernel_rfl) (by kernel_rfl) yb8 yb9
    (fun l a h => by unfold yb9 at h; split at h <;> first | (cases h; rfl) | cases h) (fun a => rfl) (lpgood_of (l := [(0, yaw)]) (by kernel_rfl) ⟨yb7 k, trivial⟩)
    (fun o r h => by unfold ybb at h; split at h <;> first | (cases h; rfl) | cases h) (ybd k)
def ybf (k : Nat) : Orc := pureOrc [.agg [(.int .i64), (.int .i64), (.int .i64), (.sl (.st .layer))]] (ybc k)
theorem ybg (k : Nat) : OrcOk Tryz.prog 46 (ybf k) := pureOrc_ok (ybe k)
noncomputable def ybh (k : Nat) : Env := { P := Tryz.prog, tt := tt, orc := fun g => cond (Nat.beq g 43) (y9p k) (cond (Nat.beq g 44) (y6j k) (cond (Nat.beq g 45) (yae k) (cond (Nat.beq g 46) (ybf k) (noOrc)))) }
theorem ybi (k : Nat) : EnvOk (ybh k) := fun g => (orc_cond (y9q k) (orc_cond (y6k k) (orc_cond (yaf k) (orc_cond (ybg k) (noOrc_ok _ _)))))
noncomputable def ybj : Code := (Tryz.f22.body).getD .skip
noncomputable def ybk : Code := ((loopsIn 0 ybj).getD 0 (0, .skip)).2
def ybl : List Nat := [1, 5, 6, 7]
def ybm : List (Where × Co) := []
def ybn : Ex → List Nat
  | .exit j => cond (Nat.beq j 0) [1, 6] []
  | .ret => []
  | .normal => []
def ybo : Ex → List (Where × Co)
  | .exit j => cond (Nat.beq j 0) [] []
  | .ret => []
  | .normal => []
def ybp (pv : (Int × Int × Int × List Layer × Int × Int × Int × Int × List Int × Int × List Int) × (Int × Int)) : St := { slots := [(1, .ptr 0 0 0), (5, .own 1), (6, .r [] (.int .i64 pv.2.1)), (7, .r [] (.int .i64 pv.2.2))], heap := [(0, .box [.r [] (.int .i64 pv.1.1), .r [] (.int .i64 pv.1.2.1), .r [] (.int .i64 pv.1.2.2.1), .r [] (.sl (.st .layer) pv.1.2.2.2.1), .r [] (.int .i64 pv.1.2.2.2.2.1), .r [] (.int .i64 pv.1.2.2.2.2.2.1), .r [] (.int .i64 pv.1.2.2.2.2.2.2.1), .r [] (.int .i64 pv.1.2.2.2.2.2.2.2.1), .r [] (.sl (.int .i64) pv.1.2.2.2.2.2.2.2.2.1), .r [] (.int .i64 pv.1.2.2.2.2.2.2.2.2.2.1)]), (1, .arr none (.int .i64) pv.1.2.2.2.2.2.2.2.2.2.2)], nid := 2, n := 62, gh := [] }
def ybq (nf : NF) : Option ((Int × Int × Int × List Layer × Int × Int × Int × Int × List Int × Int × List Int) × (Int × Int)) := match nf with
  | ([.ptr 0 0 0, .own 1, .r [] (.int .i64 w0), .r [] (.int .i64 w1)], [.box [.r [] (.int .i64 w2), .r [] (.int .i64 w3), .r [] (.int .i64 w4), .r [] (.sl (.st .layer) w5), .r [] (.int .i64 w6), .r [] (.int .i64 w7), .r [] (.int .i64 w8), .r [] (.int .i64 w9), .r [] (.sl (.int .i64) w10), .r [] (.int .i64 w11)], .arr none (.int .i64) w12], []) => some ((w2, w3, w4, w5, w6, w7, w8, w9, w10, w11, w12), (w0, w1))
  | _ => none
theorem ybr (nf : NF) (v : (Int × Int × Int × List Layer × Int × Int × Int × Int × List Int × Int × List Int) × (Int × Int)) (h : ybq nf = some v) : denorm ybl 62 nf = ybp v := by
  unfold ybq at h
  split at h
  · cases h; rfl
  · cases h
def ybs (p : Int × Int × Int × List Layer × Int × Int × Int × Int × List Int × Int × List Int) (x : Int) : St := { slots := [(1, .ptr 0 0 0), (6, .r [] (.int .i64 x))], heap := [(0, .box [.r [] (.int .i64 p.1), .r [] (.int .i64 p.2.1), .r [] (.int .i64 p.2.2.1), .r [] (.sl (.st .layer) p.2.2.2.1), .r [] (.int .i64 p.2.2.2.2.1), .r [] (.int .i64 p.2.2.2.2.2.1), .r [] (.int .i64 p.2.2.2.2.2.2.1), .r [] (.int .i64 p.2.2.2.2.2.2.2.1), .r [] (.sl (.int .i64) p.2.2.2.2.2.2.2.2.1), .r [] (.int .i64 p.2.2.2.2.2.2.2.2.2.1)])], nid := 1, n := 62, gh := [] }
def ybt (ρ : Type) (k : Nat) : Nat → Ev ρ → Ev ρ := fun id f => cond (Nat.beq id 0) (loopOrc ybl ybm (fun n nf => cond (Nat.beq n 62) (ybq nf) none) fun pv K => iter (fun v next => S_JobOk_g0 k pv.1 v next (fun x => K (.exit 0) (ybs pv.1 x))) k pv.2) ((fun _ _ _ _ => none) id f)
theorem ybu {ρ : Type} (k : Nat) (p : Int × Int × Int × List Layer × Int × Int × Int × Int × List Int × Int × List Int) (v : Int × Int) (K K1 : Ex → St → Option ρ) : ev (ybh k) (ybt ρ k) 0 ybk (ybp (p, v)) (fun e st' => match e with
    | .normal => (normC ybl ybm st').bind fun nf => K1 .normal (denorm ybl st'.n nf)
    | e => (normC (ybn e) (ybo e) st').bind fun nf => K e (denorm (ybn e) st'.n nf)) = S_JobOk_g0 k p v (fun v' => K1 .normal (ybp (p, v'))) (fun x => K (.exit 0) (ybs p x)) := by kernel_rfl
theorem ybv {ρ : Type} (k : Nat) : Sound Tryz.prog (.loop ybk) (ybt ρ k 0 fun st K => ev (ybh k) (ybt ρ k) 0 ybk st K) :=
  loop_ok (ev_sound (ybi k) ybk 0 (lpgood_none (by kernel_rfl))) ybn ybo k (g := fun p v next K => S_JobOk_g0 k p v next (fun x => K (.exit 0) (ybs p x))) (dec_at ybr) (fun p v K K1 => ybu k p v K K1)
def ybw (a : Job) : List Arg := [.agg [.int .i64 a.model.inp.h, .int .i64 a.model.inp.w, .int .i64 a.model.inp.c, .sl (.st .layer) a.model.layers, .int .i64 a.at_, .int .i64 a.act.sh.h, .int .i64 a.act.sh.w, .int .i64 a.act.sh.c, .sl (.int .i64) a.act.data, .int .i64 a.spent]]
def ybx (l : List Arg) : Option (Job) := match l with
  | [.agg [.int .i64 b0_0, .int .i64 b0_1, .int .i64 b0_2, .sl (.st .layer) b0_3, .int .i64 b0_4, .int .i64 b0_5, .int .i64 b0_6, .int .i64 b0_7, .sl (.int .i64) b0_8, .int .i64 b0_9]] => some (⟨(⟨(⟨b0_0, b0_1, b0_2⟩ : Shape), b0_3⟩ : Model), b0_4, (⟨(⟨b0_5, b0_6, b0_7⟩ : Shape), b0_8⟩ : Tensor), b0_9⟩ : Job)
  | _ => none
def yby (r : Bool) : Out := (.r [] (.bool r), [])
def ybz (o : Out) : Option (Bool) := match o with
  | (.r [] (.bool z1), []) => some z1
  | _ => none
def yc0 (k : Nat) : PG := fun _ l K => (ybx l).bind fun a => (S_JobOk k a).bind fun r => K (yby r)
theorem yc1 (k : Nat) (a : Job) : ev (ybh k) (ybt (Bool) k) 0 ybj (st0 Tryz.f22 (ybw a)) (fin Tryz.prog Tryz.f22 (.sc) ybz) = S_JobOk k a := by kernel_rfl
theorem yc2 (k : Nat) : PureOk Tryz.prog 22 (yc0 k) :=
  pureOk_of_ev (ybi k) Tryz.func22 (by kernel_rfl) (by kernel_rfl) ybw ybx
    (fun l a h => by unfold ybx at h; split at h <;> first | (cases h; rfl) | cases h) (fun a => rfl) (lpgood_of (l := [(0, ybk)]) (by kernel_rfl) ⟨ybv k, trivial⟩)
    (fun o r h => by unfold ybz at h; split at h <;> first | (cases h; rfl) | cases h) (yc1 k)
def yc3 (k : Nat) : Orc := pureOrc [.agg [(.int .i64), (.int .i64), (.int .i64), (.sl (.st .layer)), (.int .i64), (.int .i64), (.int .i64), (.int .i64), (.sl (.int .i64)), (.int .i64)]] (yc0 k)
theorem yc4 (k : Nat) : OrcOk Tryz.prog 22 (yc3 k) := pureOrc_ok (yc2 k)
noncomputable def yc5 (k : Nat) : Env := { P := Tryz.prog, tt := tt, orc := fun g => noOrc }
theorem yc6 (k : Nat) : EnvOk (yc5 k) := fun g => (noOrc_ok _ _)
noncomputable def yc7 : Code := (Tryz.f74.body).getD .skip
noncomputable def yc8 : Code := ((loopsIn 0 yc7).getD 0 (0, .skip)).2
def yc9 : List Nat := [0, 3, 4]
def yca : List (Where × Co) := []
def ycb : Ex → List Nat
  | .exit j => cond (Nat.beq j 0) [3] []
  | .ret => []
  | .normal => []
def ycc : Ex → List (Where × Co)
  | .exit j => cond (Nat.beq j 0) [] []
  | .ret => []
  | .normal => []
def ycd (pv : (List Int) × (Int × List Int)) : St := { slots := [(0, .r [] (.sl (.int .i64) pv.1)), (3, .own 0), (4, .r [] (.int .i64 pv.2.1))], heap := [(0, .arr none (.int .i64) pv.2.2)], nid := 1, n := 20, gh := [] }
def yce (nf : NF) : Option ((List Int) × (Int × List Int)) := match nf with
  | ([.r [] (.sl (.int .i64) w0), .own 0, .r [] (.int .i64 w1)], [.arr none (.int .i64) w2], []) => some (w0, (w1, w2))
  | _ => none
theorem ycf (nf : NF) (v : (List Int) × (Int × List Int)) (h : yce nf = some v) : denorm yc9 20 nf = ycd v := by
  unfold yce at h
  split at h
  · cases h; rfl
  · cases h
def ycg (p : List Int) (x : List Int) : St := { slots := [(3, .own 0)], heap := [(0, .arr none (.int .i64) x)], nid := 1, n := 20, gh := [] }
def ych (ρ : Type) (k : Nat) : Nat → Ev ρ → Ev ρ := fun id f => cond (Nat.beq id 0) (loopOrc yc9 yca (fun n nf => cond (Nat.beq n 20) (yce nf) none) fun pv K => iter (fun v next => S_l01Copy_g0 k pv.1 v next (fun x => K (.exit 0) (ycg pv.1 x))) k pv.2) ((fun _ _ _ _ => none) id f)
theorem yci {ρ : Type} (k : Nat) (p : List Int) (v : Int × List Int) (K K1 : Ex → St → Option ρ) : ev (yc5 k) (ych ρ k) 0 yc8 (ycd (p, v)) (fun e st' => match e with
    | .normal => (normC yc9 yca st').bind fun nf => K1 .normal (denorm yc9 st'.n nf)
    | e => (normC (ycb e) (ycc e) st').bind fun nf => K e (denorm (ycb e) st'.n nf)) = S_l01Copy_g0 k p v (fun v' => K1 .normal (ycd (p, v'))) (fun x => K (.exit 0) (ycg p x)) := by kernel_rfl
theorem ycj {ρ : Type} (k : Nat) : Sound Tryz.prog (.loop yc8) (ych ρ k 0 fun st K => ev (yc5 k) (ych ρ k) 0 yc8 st K) :=
  loop_ok (ev_sound (yc6 k) yc8 0 (lpgood_none (by kernel_rfl))) ycb ycc k (g := fun p v next K => S_l01Copy_g0 k p v next (fun x => K (.exit 0) (ycg p x))) (dec_at ycf) (fun p v K K1 => yci k p v K K1)
def yck (a : List Int) : List Arg := [.one (.sl (.int .i64) a)]
def ycl (l : List Arg) : Option (List Int) := match l with
  | [.one (.sl (.int .i64) b0)] => some b0
  | _ => none
def ycm (r : List Int) : Out := (.own 0, [.arr none (.int .i64) r])
def ycn (o : Out) : Option (List Int) := match o with
  | (.own 0, [.arr none (.int .i64) z1]) => some z1
  | _ => none
def yco (k : Nat) : PG := fun _ l K => (ycl l).bind fun a => (S_l01Copy k a).bind fun r => K (ycm r)
theorem ycp (k : Nat) (a : List Int) : ev (yc5 k) (ych (List Int) k) 0 yc7 (st0 Tryz.f74 (yck a)) (fin Tryz.prog Tryz.f74 (.own (.int .i64)) ycn) = S_l01Copy k a := by kernel_rfl
theorem ycq (k : Nat) : PureOk Tryz.prog 74 (yco k) :=
  pureOk_of_ev (yc6 k) Tryz.func74 (by kernel_rfl) (by kernel_rfl) yck ycl
    (fun l a h => by unfold ycl at h; split at h <;> first | (cases h; rfl) | cases h) (fun a => rfl) (lpgood_of (l := [(0, yc8)]) (by kernel_rfl) ⟨ycj k, trivial⟩)
    (fun o r h => by unfold ycn at h; split at h <;> first | (cases h; rfl) | cases h) (ycp k)
def ycr (k : Nat) : Orc := pureOrc [.one (.sl (.int .i64))] (yco k)
theorem ycs (k : Nat) : OrcOk Tryz.prog 74 (ycr k) := pureOrc_ok (ycq k)
noncomputable def yct (k : Nat) : Env := { P := Tryz.prog, tt := tt, orc := fun g => cond (Nat.beq g 74) (ycr k) (noOrc) }
theorem ycu (k : Nat) : EnvOk (yct k) := fun g => (orc_cond (ycs k) (noOrc_ok _ _))
noncomputable def ycv : Code := (Tryz.f73.body).getD .skip
def ycw (ρ : Type) (k : Nat) : Nat → Ev ρ → Ev ρ := fun _ _ _ _ => none
def ycx (a : Layer) : List Arg := [.agg [.int .i64 a.kind, .int .i64 a.out, .int .i64 a.size, .int .i64 a.step, .int .i64 a.mult, .int .i64 a.shift, .int .i64 a.zero, .sl (.int .i64) a.weights, .sl (.int .i64) a.bias]]
def ycy (l : List Arg) : Option (Layer) := match l with
  | [.agg [.int .i64 b0_0, .int .i64 b0_1, .int .i64 b0_2, .int .i64 b0_3, .int .i64 b0_4, .int .i64 b0_5, .int .i64 b0_6, .sl (.int .i64) b0_7, .sl (.int .i64) b0_8]] => some (⟨b0_0, b0_1, b0_2, b0_3, b0_4, b0_5, b0_6, b0_7, b0_8⟩ : Layer)
  | _ => none
def ycz (r : Layer) : Out := (.agg [.r [] (.int .i64 r.kind), .r [] (.int .i64 r.out), .r [] (.int .i64 r.size), .r [] (.int .i64 r.step), .r [] (.int .i64 r.mult), .r [] (.int .i64 r.shift), .r [] (.int .i64 r.zero), .own 0, .own 1], [.arr none (.int .i64) r.weights, .arr none (.int .i64) r.bias])
def yd0 (o : Out) : Option (Layer) := match o with
  | (.agg [.r [] (.int .i64 z1), .r [] (.int .i64 z2), .r [] (.int .i64 z3), .r [] (.int .i64 z4), .r [] (.int .i64 z5), .r [] (.int .i64 z6), .r [] (.int .i64 z7), .own 0, .own 1], [.arr none (.int .i64) z8, .arr none (.int .i64) z9]) => some (⟨z1, z2, z3, z4, z5, z6, z7, z8, z9⟩ : Layer)
  | _ => none
def yd1 (k : Nat) : PG := fun _ l K => (ycy l).bind fun a => (S_l03Copy k a).bind fun r => K (ycz r)
theorem yd2 (k : Nat) (a : Layer) : ev (yct k) (ycw (Layer) k) 0 ycv (st0 Tryz.f73 (ycx a)) (fin Tryz.prog Tryz.f73 (.agg [.sc, .sc, .sc, .sc, .sc, .sc, .sc, .own (.int .i64), .own (.int .i64)]) yd0) = S_l03Copy k a := by kernel_rfl
theorem yd3 (k : Nat) : PureOk Tryz.prog 73 (yd1 k) :=
  pureOk_of_ev (ycu k) Tryz.func73 (by kernel_rfl) (by kernel_rfl) ycx ycy
    (fun l a h => by unfold ycy at h; split at h <;> first | (cases h; rfl) | cases h) (fun a => rfl) (lpgood_none (by kernel_rfl))
    (fun o r h => by unfold yd0 at h; split at h <;> first | (cases h; rfl) | cases h) (yd2 k)
def yd4 (k : Nat) : Orc := pureOrc [.agg [(.int .i64), (.int .i64), (.int .i64), (.int .i64), (.int .i64), (.int .i64), (.int .i64), (.sl (.int .i64)), (.sl (.int .i64))]] (yd1 k)
theorem yd5 (k : Nat) : OrcOk Tryz.prog 73 (yd4 k) := pureOrc_ok (yd3 k)
noncomputable def yd6 (k : Nat) : Env := { P := Tryz.prog, tt := tt, orc := fun g => cond (Nat.beq g 73) (yd4 k) (noOrc) }
theorem yd7 (k : Nat) : EnvOk (yd6 k) := fun g => (orc_cond (yd5 k) (noOrc_ok _ _))
noncomputable def yd8 : Code := (Tryz.f47.body).getD .skip
noncomputable def yd9 : Code := ((loopsIn 0 yd8).getD 0 (0, .skip)).2
def yda : List Nat := [1, 2, 3, 4]
def ydb : List (Where × Co) := [((.pbox 3 3), (.nilOwn false (.st .layer)))]
def ydc : Ex → List Nat
  | .exit j => cond (Nat.beq j 0) [2, 3] []
  | .ret => []
  | .normal => []
def ydd : Ex → List (Where × Co)
  | .exit j => cond (Nat.beq j 0) [] []
  | .ret => []
  | .normal => []
def yde (pv : (Int × Int × Int × List Layer × Int × Int × Int × Int × Int × Int) × (Int × List Layer)) : St := { slots := [(1, .ptr 0 0 0), (2, .ptr 1 0 0), (3, .ptr 2 0 0), (4, .r [] (.int .i64 pv.2.1))], heap := [(0, .box [.r [] (.int .i64 pv.1.1), .r [] (.int .i64 pv.1.2.1), .r [] (.int .i64 pv.1.2.2.1), .r [] (.sl (.st .layer) pv.1.2.2.2.1)]), (1, .box [.r [] (.int .i64 pv.1.2.2.2.2.1), .r [] (.int .i64 pv.1.2.2.2.2.2.1), .r [] (.int .i64 pv.1.2.2.2.2.2.2.1), .nilS]), (2, .box [.r [] (.int .i64 pv.1.2.2.2.2.2.2.2.1), .r [] (.int .i64 pv.1.2.2.2.2.2.2.2.2.1), .r [] (.int .i64 pv.1.2.2.2.2.2.2.2.2.2), .own 3]), (3, .arr none (.st .layer) pv.2.2)], nid := 4, n := 27, gh := [] }
def ydf (nf : NF) : Option ((Int × Int × Int × List Layer × Int × Int × Int × Int × Int × Int) × (Int × List Layer)) := match nf with
  | ([.ptr 0 0 0, .ptr 1 0 0, .ptr 2 0 0, .r [] (.int .i64 w0)], [.box [.r [] (.int .i64 w1), .r [] (.int .i64 w2), .r [] (.int .i64 w3), .r [] (.sl (.st .layer) w4)], .box [.r [] (.int .i64 w5), .r [] (.int .i64 w6), .r [] (.int .i64 w7), .nilS], .box [.r [] (.int .i64 w8), .r [] (.int .i64 w9), .r [] (.int .i64 w10), .own 3], .arr none (.st .layer) w11], []) => some ((w1, w2, w3, w4, w5, w6, w7, w8, w9, w10), (w0, w11))
  | _ => none
theorem ydg (nf : NF) (v : (Int × Int × Int × List Layer × Int × Int × Int × Int × Int × Int) × (Int × List Layer)) (h : ydf nf = some v) : denorm yda 27 nf = yde v := by
  unfold ydf at h
  split at h
  · cases h; rfl
  · cases h
def ydh (p : Int × Int × Int × List Layer × Int × Int × Int × Int × Int × Int) (x : List Layer) : St := { slots := [(2, .ptr 0 0 0), (3, .ptr 1 0 0)], heap := [(0, .box [.r [] (.int .i64 p.2.2.2.2.1), .r [] (.int .i64 p.2.2.2.2.2.1), .r [] (.int .i64 p.2.2.2.2.2.2.1), .nilS]), (1, .box [.r [] (.int .i64 p.2.2.2.2.2.2.2.1), .r [] (.int .i64 p.2.2.2.2.2.2.2.2.1), .r [] (.int .i64 p.2.2.2.2.2.2.2.2.2), .own 2]), (2, .arr none (.st .layer) x)], nid := 3, n := 27, gh := [] }
def ydi (ρ : Type) (k : Nat) : Nat → Ev ρ → Ev ρ := fun id f => cond (Nat.beq id 0) (loopOrc yda ydb (fun n nf => cond (Nat.beq n 27) (ydf nf) none) fun pv K => iter (fun v next => S_l04Copy_g0 k pv.1 v next (fun x => K (.exit 0) (ydh pv.1 x))) k pv.2) ((fun _ _ _ _ => none) id f)
theorem ydj {ρ : Type} (k : Nat) (p : Int × Int × Int × List Layer × Int × Int × Int × Int × Int × Int) (v : Int × List Layer) (K K1 : Ex → St → Option ρ) : ev (yd6 k) (ydi ρ k) 0 yd9 (yde (p, v)) (fun e st' => match e with
    | .normal => (normC yda ydb st').bind fun nf => K1 .normal (denorm yda st'.n nf)
    | e => (normC (ydc e) (ydd e) st').bind fun nf => K e (denorm (ydc e) st'.n nf)) = S_l04Copy_g0 k p v (fun v' => K1 .normal (yde (p, v'))) (fun x => K (.exit 0) (ydh p x)) := by kernel_rfl
theorem ydk {ρ : Type} (k : Nat) : Sound Tryz.prog (.loop yd9) (ydi ρ k 0 fun st K => ev (yd6 k) (ydi ρ k) 0 yd9 st K) :=
  loop_ok (ev_sound (yd7 k) yd9 0 (lpgood_none (by kernel_rfl))) ydc ydd k (g := fun p v next K => S_l04Copy_g0 k p v next (fun x => K (.exit 0) (ydh p x))) (dec_at ydg) (fun p v K K1 => ydj k p v K K1)
def ydl (a : Model) : List Arg := [.agg [.int .i64 a.inp.h, .int .i64 a.inp.w, .int .i64 a.inp.c, .sl (.st .layer) a.layers]]
def ydm (l : List Arg) : Option (Model) := match l with
  | [.agg [.int .i64 b0_0, .int .i64 b0_1, .int .i64 b0_2, .sl (.st .layer) b0_3]] => some (⟨(⟨b0_0, b0_1, b0_2⟩ : Shape), b0_3⟩ : Model)
  | _ => none
def ydn (r : Model) : Out := (.agg [.r [] (.int .i64 r.inp.h), .r [] (.int .i64 r.inp.w), .r [] (.int .i64 r.inp.c), .own 0], [.arr none (.st .layer) r.layers])
def ydo (o : Out) : Option (Model) := match o with
  | (.agg [.r [] (.int .i64 z1), .r [] (.int .i64 z2), .r [] (.int .i64 z3), .own 0], [.arr none (.st .layer) z4]) => some (⟨(⟨z1, z2, z3⟩ : Shape), z4⟩ : Model)
  | _ => none
def ydp (k : Nat) : PG := fun _ l K => (ydm l).bind fun a => (S_l04Copy k a).bind fun r => K (ydn r)
theorem ydq (k : Nat) (a : Model) : ev (yd6 k) (ydi (Model) k) 0 yd8 (st0 Tryz.f47 (ydl a)) (fin Tryz.prog Tryz.f47 (.agg [.sc, .sc, .sc, .own (.st .layer)]) ydo) = S_l04Copy k a := by kernel_rfl
theorem ydr (k : Nat) : PureOk Tryz.prog 47 (ydp k) :=
  pureOk_of_ev (yd7 k) Tryz.func47 (by kernel_rfl) (by kernel_rfl) ydl ydm
    (fun l a h => by unfold ydm at h; split at h <;> first | (cases h; rfl) | cases h) (fun a => rfl) (lpgood_of (l := [(0, yd9)]) (by kernel_rfl) ⟨ydk k, trivial⟩)
    (fun o r h => by unfold ydo at h; split at h <;> first | (cases h; rfl) | cases h) (ydq k)
def yds (k : Nat) : Orc := pureOrc [.agg [(.int .i64), (.int .i64), (.int .i64), (.sl (.st .layer))]] (ydp k)
theorem ydt (k : Nat) : OrcOk Tryz.prog 47 (yds k) := pureOrc_ok (ydr k)
noncomputable def ydu (k : Nat) : Env := { P := Tryz.prog, tt := tt, orc := fun g => cond (Nat.beq g 74) (ycr k) (noOrc) }
theorem ydv (k : Nat) : EnvOk (ydu k) := fun g => (orc_cond (ycs k) (noOrc_ok _ _))
noncomputable def ydw : Code := (Tryz.f48.body).getD .skip
def ydx (ρ : Type) (k : Nat) : Nat → Ev ρ → Ev ρ := fun _ _ _ _ => none
def ydy (a : Tensor) : List Arg := [.agg [.int .i64 a.sh.h, .int .i64 a.sh.w, .int .i64 a.sh.c, .sl (.int .i64) a.data]]
def ydz (l : List Arg) : Option (Tensor) := match l with
  | [.agg [.int .i64 b0_0, .int .i64 b0_1, .int .i64 b0_2, .sl (.int .i64) b0_3]] => some (⟨(⟨b0_0, b0_1, b0_2⟩ : Shape), b0_3⟩ : Tensor)
  | _ => none
def ye0 (r : Tensor) : Out := (.agg [.r [] (.int .i64 r.sh.h), .r [] (.int .i64 r.sh.w), .r [] (.int .i64 r.sh.c), .own 0], [.arr none (.int .i64) r.data])
def ye1 (o : Out) : Option (Tensor) := match o with
  | (.agg [.r [] (.int .i64 z1), .r [] (.int .i64 z2), .r [] (.int .i64 z3), .own 0], [.arr none (.int .i64) z4]) => some (⟨(⟨z1, z2, z3⟩ : Shape), z4⟩ : Tensor)
  | _ => none
def ye2 (k : Nat) : PG := fun _ l K => (ydz l).bind fun a => (S_l02Copy k a).bind fun r => K (ye0 r)
theorem ye3 (k : Nat) (a : Tensor) : ev (ydu k) (ydx (Tensor) k) 0 ydw (st0 Tryz.f48 (ydy a)) (fin Tryz.prog Tryz.f48 (.agg [.sc, .sc, .sc, .own (.int .i64)]) ye1) = S_l02Copy k a := by kernel_rfl
theorem ye4 (k : Nat) : PureOk Tryz.prog 48 (ye2 k) :=
  pureOk_of_ev (ydv k) Tryz.func48 (by kernel_rfl) (by kernel_rfl) ydy ydz
    (fun l a h => by unfold ydz at h; split at h <;> first | (cases h; rfl) | cases h) (fun a => rfl) (lpgood_none (by kernel_rfl))
    (fun o r h => by unfold ye1 at h; split at h <;> first | (cases h; rfl) | cases h) (ye3 k)
def ye5 (k : Nat) : Orc := pureOrc [.agg [(.int .i64), (.int .i64), (.int .i64), (.sl (.int .i64))]] (ye2 k)
theorem ye6 (k : Nat) : OrcOk Tryz.prog 48 (ye5 k) := pureOrc_ok (ye4 k)
noncomputable def ye7 (k : Nat) : Env := { P := Tryz.prog, tt := tt, orc := fun g => cond (Nat.beq g 47) (yds k) (cond (Nat.beq g 48) (ye5 k) (noOrc)) }
theorem ye8 (k : Nat) : EnvOk (ye7 k) := fun g => (orc_cond (ydt k) (orc_cond (ye6 k) (noOrc_ok _ _)))
noncomputable def ye9 : Code := (Tryz.f23.body).getD .skip
def yea (ρ : Type) (k : Nat) : Nat → Ev ρ → Ev ρ := fun _ _ _ _ => none
def yeb (a : Job) : List Arg := [.agg [.int .i64 a.model.inp.h, .int .i64 a.model.inp.w, .int .i64 a.model.inp.c, .sl (.st .layer) a.model.layers, .int .i64 a.at_, .int .i64 a.act.sh.h, .int .i64 a.act.sh.w, .int .i64 a.act.sh.c, .sl (.int .i64) a.act.data, .int .i64 a.spent]]
def yec (l : List Arg) : Option (Job) := match l with
  | [.agg [.int .i64 b0_0, .int .i64 b0_1, .int .i64 b0_2, .sl (.st .layer) b0_3, .int .i64 b0_4, .int .i64 b0_5, .int .i64 b0_6, .int .i64 b0_7, .sl (.int .i64) b0_8, .int .i64 b0_9]] => some (⟨(⟨(⟨b0_0, b0_1, b0_2⟩ : Shape), b0_3⟩ : Model), b0_4, (⟨(⟨b0_5, b0_6, b0_7⟩ : Shape), b0_8⟩ : Tensor), b0_9⟩ : Job)
  | _ => none
def yed (r : Job) : Out := (.agg [.r [] (.int .i64 r.model.inp.h), .r [] (.int .i64 r.model.inp.w), .r [] (.int .i64 r.model.inp.c), .own 0, .r [] (.int .i64 r.at_), .r [] (.int .i64 r.act.sh.h), .r [] (.int .i64 r.act.sh.w), .r [] (.int .i64 r.act.sh.c), .own 1, .r [] (.int .i64 r.spent)], [.arr none (.st .layer) r.model.layers, .arr none (.int .i64) r.act.data])
def yee (o : Out) : Option (Job) := match o with
  | (.agg [.r [] (.int .i64 z1), .r [] (.int .i64 z2), .r [] (.int .i64 z3), .own 0, .r [] (.int .i64 z5), .r [] (.int .i64 z6), .r [] (.int .i64 z7), .r [] (.int .i64 z8), .own 1, .r [] (.int .i64 z10)], [.arr none (.st .layer) z4, .arr none (.int .i64) z9]) => some (⟨(⟨(⟨z1, z2, z3⟩ : Shape), z4⟩ : Model), z5, (⟨(⟨z6, z7, z8⟩ : Shape), z9⟩ : Tensor), z10⟩ : Job)
  | _ => none
def yef (k : Nat) : PG := fun _ l K => (yec l).bind fun a => (S_l06Copy k a).bind fun r => K (yed r)
theorem yeg (k : Nat) (a : Job) : ev (ye7 k) (yea (Job) k) 0 ye9 (st0 Tryz.f23 (yeb a)) (fin Tryz.prog Tryz.f23 (.agg [.sc, .sc, .sc, .own (.st .layer), .sc, .sc, .sc, .sc, .own (.int .i64), .sc]) yee) = S_l06Copy k a := by kernel_rfl
theorem yeh (k : Nat) : PureOk Tryz.prog 23 (yef k) :=
  pureOk_of_ev (ye8 k) Tryz.func23 (by kernel_rfl) (by kernel_rfl) yeb yec
    (fun l a h => by unfold yec at h; split at h <;> first | (cases h; rfl) | cases h) (fun a => rfl) (lpgood_none (by kernel_rfl))
    (fun o r h => by unfold yee at h; split at h <;> first | (cases h; rfl) | cases h) (yeg k)
def yei (k : Nat) : Orc := pureOrc [.agg [(.int .i64), (.int .i64), (.int .i64), (.sl (.st .layer)), (.int .i64), (.int .i64), (.int .i64), (.int .i64), (.sl (.int .i64)), (.int .i64)]] (yef k)
theorem yej (k : Nat) : OrcOk Tryz.prog 23 (yei k) := pureOrc_ok (yeh k)
noncomputable def yek (k : Nat) : Env := { P := Tryz.prog, tt := tt, orc := fun g => cond (Nat.beq g 22) (yc3 k) (noOrc) }
theorem yel (k : Nat) : EnvOk (yek k) := fun g => (orc_cond (yc4 k) (noOrc_ok _ _))
noncomputable def yem : Code := (Tryz.f24.body).getD .skip
def yen (ρ : Type) (k : Nat) : Nat → Ev ρ → Ev ρ := fun _ _ _ _ => none
def yeo (a : Job) : List Arg := [.agg [.int .i64 a.model.inp.h, .int .i64 a.model.inp.w, .int .i64 a.model.inp.c, .sl (.st .layer) a.model.layers, .int .i64 a.at_, .int .i64 a.act.sh.h, .int .i64 a.act.sh.w, .int .i64 a.act.sh.c, .sl (.int .i64) a.act.data, .int .i64 a.spent]]
def yep (l : List Arg) : Option (Job) := match l with
  | [.agg [.int .i64 b0_0, .int .i64 b0_1, .int .i64 b0_2, .sl (.st .layer) b0_3, .int .i64 b0_4, .int .i64 b0_5, .int .i64 b0_6, .int .i64 b0_7, .sl (.int .i64) b0_8, .int .i64 b0_9]] => some (⟨(⟨(⟨b0_0, b0_1, b0_2⟩ : Shape), b0_3⟩ : Model), b0_4, (⟨(⟨b0_5, b0_6, b0_7⟩ : Shape), b0_8⟩ : Tensor), b0_9⟩ : Job)
  | _ => none
def yeq (r : Bool) : Out := (.r [] (.bool r), [])
def yer (o : Out) : Option (Bool) := match o with
  | (.r [] (.bool z1), []) => some z1
  | _ => none
def yet (k : Nat) : PG := fun _ l K => (yep l).bind fun a => (S_JobDone k a).bind fun r => K (yeq r)
theorem yeu (k : Nat) (a : Job) : ev (yek k) (yen (Bool) k) 0 yem (st0 Tryz.f24 (yeo a)) (fin Tryz.prog Tryz.f24 (.sc) yer) = S_JobDone k a := by kernel_rfl
theorem yev (k : Nat) : PureOk Tryz.prog 24 (yet k) :=
  pureOk_of_ev (yel k) Tryz.func24 (by kernel_rfl) (by kernel_rfl) yeo yep
    (fun l a h => by unfold yep at h; split at h <;> first | (cases h; rfl) | cases h) (fun a => rfl) (lpgood_none (by kernel_rfl))
    (fun o r h => by unfold yer at h; split at h <;> first | (cases h; rfl) | cases h) (yeu k)
def yew (k : Nat) : Orc := pureOrc [.agg [(.int .i64), (.int .i64), (.int .i64), (.sl (.st .layer)), (.int .i64), (.int .i64), (.int .i64), (.int .i64), (.sl (.int .i64)), (.int .i64)]] (yet k)
theorem yex (k : Nat) : OrcOk Tryz.prog 24 (yew k) := pureOrc_ok (yev k)
noncomputable def yey (k : Nat) : Env := { P := Tryz.prog, tt := tt, orc := fun g => noOrc }
theorem yez (k : Nat) : EnvOk (yey k) := fun g => (noOrc_ok _ _)
noncomputable def yf0 : Code := (Tryz.f115.body).getD .skip
def yf1 (ρ : Type) (k : Nat) : Nat → Ev ρ → Ev ρ := fun _ _ _ _ => none
def yf2 (a : Int × Int × Int) : List Arg := [.one (.int .i64 a.1), .one (.int .i64 a.2.1), .one (.int .i64 a.2.2)]
def yf3 (l : List Arg) : Option (Int × Int × Int) := match l with
  | [.one (.int .i64 b0), .one (.int .i64 b1), .one (.int .i64 b2)] => some (b0, b1, b2)
  | _ => none
def yf4 (r : Int) : Out := (.r [] (.int .i64 r), [])
def yf5 (o : Out) : Option (Int) := match o with
  | (.r [] (.int .i64 z1), []) => some z1
  | _ => none
def yf6 (k : Nat) : PG := fun _ l K => (yf3 l).bind fun a => (S_ClampTo k a.1 a.2.1 a.2.2).bind fun r => K (yf4 r)
theorem yf7 (k : Nat) (a : Int × Int × Int) : ev (yey k) (yf1 (Int) k) 0 yf0 (st0 Tryz.f115 (yf2 a)) (fin Tryz.prog Tryz.f115 (.sc) yf5) = S_ClampTo k a.1 a.2.1 a.2.2 := by kernel_rfl
theorem yf8 (k : Nat) : PureOk Tryz.prog 115 (yf6 k) :=
  pureOk_of_ev (yez k) Tryz.func115 (by kernel_rfl) (by kernel_rfl) yf2 yf3
    (fun l a h => by unfold yf3 at h; split at h <;> first | (cases h; rfl) | cases h) (fun a => rfl) (lpgood_none (by kernel_rfl))
    (fun o r h => by unfold yf5 at h; split at h <;> first | (cases h; rfl) | cases h) (yf7 k)
def yf9 (k : Nat) : Orc := pureOrc [.one (.int .i64), .one (.int .i64), .one (.int .i64)] (yf6 k)
theorem yfa (k : Nat) : OrcOk Tryz.prog 115 (yf9 k) := pureOrc_ok (yf8 k)
noncomputable def yfb (k : Nat) : Env := { P := Tryz.prog, tt := tt, orc := fun g => cond (Nat.beq g 115) (yf9 k) (noOrc) }
theorem yfc (k : Nat) : EnvOk (yfb k) := fun g => (orc_cond (yfa k) (noOrc_ok _ _))
noncomputable def yfd : Code := (Tryz.f105.body).getD .skip
def yfe (ρ : Type) (k : Nat) : Nat → Ev ρ → Ev ρ := fun _ _ _ _ => none
def yff (a : Int) : List Arg := [.one (.int .i64 a)]
def yfg (l : List Arg) : Option (Int) := match l with
  | [.one (.int .i64 b0)] => some b0
  | _ => none
def yfh (r : Int) : Out := (.r [] (.int .i64 r), [])
def yfi (o : Out) : Option (Int) := match o with
  | (.r [] (.int .i64 z1), []) => some z1
  | _ => none
def yfj (k : Nat) : PG := fun _ l K => (yfg l).bind fun a => (S_Sat8 k a).bind fun r => K (yfh r)
theorem yfk (k : Nat) (a : Int) : ev (yfb k) (yfe (Int) k) 0 yfd (st0 Tryz.f105 (yff a)) (fin Tryz.prog Tryz.f105 (.sc) yfi) = S_Sat8 k a := by kernel_rfl
theorem yfl (k : Nat) : PureOk Tryz.prog 105 (yfj k) :=
  pureOk_of_ev (yfc k) Tryz.func105 (by kernel_rfl) (by kernel_rfl) yff yfg
    (fun l a h => by unfold yfg at h; split at h <;> first | (cases h; rfl) | cases h) (fun a => rfl) (lpgood_none (by kernel_rfl))
    (fun o r h => by unfold yfi at h; split at h <;> first | (cases h; rfl) | cases h) (yfk k)
def yfm (k : Nat) : Orc := pureOrc [.one (.int .i64)] (yfj k)
theorem yfn (k : Nat) : OrcOk Tryz.prog 105 (yfm k) := pureOrc_ok (yfl k)
noncomputable def yfo (k : Nat) : Env := { P := Tryz.prog, tt := tt, orc := fun g => cond (Nat.beq g 115) (yf9 k) (noOrc) }
theorem yfp (k : Nat) : EnvOk (yfo k) := fun g => (orc_cond (yfa k) (noOrc_ok _ _))
noncomputable def yfq : Code := (Tryz.f108.body).getD .skip
def yfr (ρ : Type) (k : Nat) : Nat → Ev ρ → Ev ρ := fun _ _ _ _ => none
def yfs (a : Int) : List Arg := [.one (.int .i64 a)]
def yft (l : List Arg) : Option (Int) := match l with
  | [.one (.int .i64 b0)] => some b0
  | _ => none
def yfu (r : Int) : Out := (.r [] (.int .i64 r), [])
def yfv (o : Out) : Option (Int) := match o with
  | (.r [] (.int .i64 z1), []) => some z1
  | _ => none
def yfw (k : Nat) : PG := fun _ l K => (yft l).bind fun a => (S_Sat32 k a).bind fun r => K (yfu r)
theorem yfx (k : Nat) (a : Int) : ev (yfo k) (yfr (Int) k) 0 yfq (st0 Tryz.f108 (yfs a)) (fin Tryz.prog Tryz.f108 (.sc) yfv) = S_Sat32 k a := by kernel_rfl
theorem yfy (k : Nat) : PureOk Tryz.prog 108 (yfw k) :=
  pureOk_of_ev (yfp k) Tryz.func108 (by kernel_rfl) (by kernel_rfl) yfs yft
    (fun l a h => by unfold yft at h; split at h <;> first | (cases h; rfl) | cases h) (fun a => rfl) (lpgood_none (by kernel_rfl))
    (fun o r h => by unfold yfv at h; split at h <;> first | (cases h; rfl) | cases h) (yfx k)
def yfz (k : Nat) : Orc := pureOrc [.one (.int .i64)] (yfw k)
theorem yg0 (k : Nat) : OrcOk Tryz.prog 108 (yfz k) := pureOrc_ok (yfy k)
noncomputable def yg1 (k : Nat) : Env := { P := Tryz.prog, tt := tt, orc := fun g => cond (Nat.beq g 108) (yfz k) (noOrc) }
theorem yg2 (k : Nat) : EnvOk (yg1 k) := fun g => (orc_cond (yg0 k) (noOrc_ok _ _))
noncomputable def yg3 : Code := (Tryz.f88.body).getD .skip
def yg4 (ρ : Type) (k : Nat) : Nat → Ev ρ → Ev ρ := fun _ _ _ _ => none
def yg5 (a : Int × Int) : List Arg := [.one (.int .i64 a.1), .one (.int .i64 a.2)]
def yg6 (l : List Arg) : Option (Int × Int) := match l with
  | [.one (.int .i64 b0), .one (.int .i64 b1)] => some (b0, b1)
  | _ => none
def yg7 (r : Int) : Out := (.r [] (.int .i64 r), [])
def yg8 (o : Out) : Option (Int) := match o with
  | (.r [] (.int .i64 z1), []) => some z1
  | _ => none
def yg9 (k : Nat) : PG := fun _ l K => (yg6 l).bind fun a => (S_AddSat k a.1 a.2).bind fun r => K (yg7 r)
theorem yga (k : Nat) (a : Int × Int) : ev (yg1 k) (yg4 (Int) k) 0 yg3 (st0 Tryz.f88 (yg5 a)) (fin Tryz.prog Tryz.f88 (.sc) yg8) = S_AddSat k a.1 a.2 := by kernel_rfl
theorem ygb (k : Nat) : PureOk Tryz.prog 88 (yg9 k) :=
  pureOk_of_ev (yg2 k) Tryz.func88 (by kernel_rfl) (by kernel_rfl) yg5 yg6
    (fun l a h => by unfold yg6 at h; split at h <;> first | (cases h; rfl) | cases h) (fun a => rfl) (lpgood_none (by kernel_rfl))
    (fun o r h => by unfold yg8 at h; split at h <;> first | (cases h; rfl) | cases h) (yga k)
def ygc (k : Nat) : Orc := pureOrc [.one (.int .i64), .one (.int .i64)] (yg9 k)
theorem ygd (k : Nat) : OrcOk Tryz.prog 88 (ygc k) := pureOrc_ok (ygb k)
noncomputable def yge (k : Nat) : Env := { P := Tryz.prog, tt := tt, orc := fun g => cond (Nat.beq g 88) (ygc k) (cond (Nat.beq g 105) (yfm k) (noOrc)) }
theorem ygf (k : Nat) : EnvOk (yge k) := fun g => (orc_cond (ygd k) (orc_cond (yfn k) (noOrc_ok _ _)))
noncomputable def ygg : Code := (Tryz.f89.body).getD .skip
noncomputable def ygh : Code := ((loopsIn 0 ygg).getD 0 (0, .skip)).2
def ygi : List Nat := [0, 1, 5, 6]
def ygj : List (Where × Co) := []
def ygk : Ex → List Nat
  | .exit j => cond (Nat.beq j 0) [5] []
  | .ret => []
  | .normal => []
def ygl : Ex → List (Where × Co)
  | .exit j => cond (Nat.beq j 0) [] []
  | .ret => []
  | .normal => []
def ygm (pv : (List Int × List Int) × (Int × Int)) : St := { slots := [(0, .r [] (.sl (.int .i64) pv.1.1)), (1, .r [] (.sl (.int .i64) pv.1.2)), (5, .r [] (.int .i64 pv.2.1)), (6, .r [] (.int .i64 pv.2.2))], heap := [], nid := 0, n := 33, gh := [] }
def ygn (nf : NF) : Option ((List Int × List Int) × (Int × Int)) := match nf with
  | ([.r [] (.sl (.int .i64) w0), .r [] (.sl (.int .i64) w1), .r [] (.int .i64 w2), .r [] (.int .i64 w3)], [], []) => some ((w0, w1), (w2, w3))
  | _ => none
theorem ygo (nf : NF) (v : (List Int × List Int) × (Int × Int)) (h : ygn nf = some v) : denorm ygi 33 nf = ygm v := by
  unfold ygn at h
  split at h
  · cases h; rfl
  · cases h
def ygp (p : List Int × List Int) (x : Int) : St := { slots := [(5, .r [] (.int .i64 x))], heap := [], nid := 0, n := 33, gh := [] }
def ygq (ρ : Type) (k : Nat) : Nat → Ev ρ → Ev ρ := fun id f => cond (Nat.beq id 0) (loopOrc ygi ygj (fun n nf => cond (Nat.beq n 33) (ygn nf) none) fun pv K => iter (fun v next => S_DotOf_g0 k pv.1 v next (fun x => K (.exit 0) (ygp pv.1 x))) k pv.2) ((fun _ _ _ _ => none) id f)
theorem ygr {ρ : Type} (k : Nat) (p : List Int × List Int) (v : Int × Int) (K K1 : Ex → St → Option ρ) : ev (yge k) (ygq ρ k) 0 ygh (ygm (p, v)) (fun e st' => match e with
    | .normal => (normC ygi ygj st').bind fun nf => K1 .normal (denorm ygi st'.n nf)
    | e => (normC (ygk e) (ygl e) st').bind fun nf => K e (denorm (ygk e) st'.n nf)) = S_DotOf_g0 k p v (fun v' => K1 .normal (ygm (p, v'))) (fun x => K (.exit 0) (ygp p x)) := by kernel_rfl
theorem ygs {ρ : Type} (k : Nat) : Sound Tryz.prog (.loop ygh) (ygq ρ k 0 fun st K => ev (yge k) (ygq ρ k) 0 ygh st K) :=
  loop_ok (ev_sound (ygf k) ygh 0 (lpgood_none (by kernel_rfl))) ygk ygl k (g := fun p v next K => S_DotOf_g0 k p v next (fun x => K (.exit 0) (ygp p x))) (dec_at ygo) (fun p v K K1 => ygr k p v K K1)
def ygt (a : List Int × List Int) : List Arg := [.one (.sl (.int .i64) a.1), .one (.sl (.int .i64) a.2)]
def ygu (l : List Arg) : Option (List Int × List Int) := match l with
  | [.one (.sl (.int .i64) b0), .one (.sl (.int .i64) b1)] => some (b0, b1)
  | _ => none
def ygv (r : Int) : Out := (.r [] (.int .i64 r), [])
def ygw (o : Out) : Option (Int) := match o with
  | (.r [] (.int .i64 z1), []) => some z1
  | _ => none
def ygx (k : Nat) : PG := fun _ l K => (ygu l).bind fun a => (S_DotOf k a.1 a.2).bind fun r => K (ygv r)
theorem ygy (k : Nat) (a : List Int × List Int) : ev (yge k) (ygq (Int) k) 0 ygg (st0 Tryz.f89 (ygt a)) (fin Tryz.prog Tryz.f89 (.sc) ygw) = S_DotOf k a.1 a.2 := by kernel_rfl
theorem ygz (k : Nat) : PureOk Tryz.prog 89 (ygx k) :=
  pureOk_of_ev (ygf k) Tryz.func89 (by kernel_rfl) (by kernel_rfl) ygt ygu
    (fun l a h => by unfold ygu at h; split at h <;> first | (cases h; rfl) | cases h) (fun a => rfl) (lpgood_of (l := [(0, ygh)]) (by kernel_rfl) ⟨ygs k, trivial⟩)
    (fun o r h => by unfold ygw at h; split at h <;> first | (cases h; rfl) | cases h) (ygy k)
def yh0 (k : Nat) : Orc := pureOrc [.one (.sl (.int .i64)), .one (.sl (.int .i64))] (ygx k)
theorem yh1 (k : Nat) : OrcOk Tryz.prog 89 (yh0 k) := pureOrc_ok (ygz k)
noncomputable def yh2 (k : Nat) : Env := { P := Tryz.prog, tt := tt, orc := fun g => noOrc }
theorem yh3 (k : Nat) : EnvOk (yh2 k) := fun g => (noOrc_ok _ _)
noncomputable def yh4 : Code := (Tryz.f116.body).getD .skip
def yh5 (ρ : Type) (k : Nat) : Nat → Ev ρ → Ev ρ := fun _ _ _ _ => none
def yh6 (a : Int × Int) : List Arg := [.one (.int .i64 a.1), .one (.int .i64 a.2)]
def yh7 (l : List Arg) : Option (Int × Int) := match l with
  | [.one (.int .i64 b0), .one (.int .i64 b1)] => some (b0, b1)
  | _ => none
def yh8 (r : Int) : Out := (.r [] (.int .i64 r), [])
def yh9 (o : Out) : Option (Int) := match o with
  | (.r [] (.int .i64 z1), []) => some z1
  | _ => none
def yha (k : Nat) : PG := fun _ l K => (yh7 l).bind fun a => (S_l01Down k a.1 a.2).bind fun r => K (yh8 r)
theorem yhb (k : Nat) (a : Int × Int) : ev (yh2 k) (yh5 (Int) k) 0 yh4 (st0 Tryz.f116 (yh6 a)) (fin Tryz.prog Tryz.f116 (.sc) yh9) = S_l01Down k a.1 a.2 := by kernel_rfl
theorem yhc (k : Nat) : PureOk Tryz.prog 116 (yha k) :=
  pureOk_of_ev (yh3 k) Tryz.func116 (by kernel_rfl) (by kernel_rfl) yh6 yh7
    (fun l a h => by unfold yh7 at h; split at h <;> first | (cases h; rfl) | cases h) (fun a => rfl) (lpgood_none (by kernel_rfl))
    (fun o r h => by unfold yh9 at h; split at h <;> first | (cases h; rfl) | cases h) (yhb k)
def yhd (k : Nat) : Orc := pureOrc [.one (.int .i64), .one (.int .i64)] (yha k)
theorem yhe (k : Nat) : OrcOk Tryz.prog 116 (yhd k) := pureOrc_ok (yhc k)
noncomputable def yhf (k : Nat) : Env := { P := Tryz.prog, tt := tt, orc := fun g => cond (Nat.beq g 108) (yfz k) (cond (Nat.beq g 116) (yhd k) (noOrc)) }
theorem yhg (k : Nat) : EnvOk (yhf k) := fun g => (orc_cond (yg0 k) (orc_cond (yhe k) (noOrc_ok _ _)))
noncomputable def yhh : Code := (Tryz.f107.body).getD .skip
def yhi (ρ : Type) (k : Nat) : Nat → Ev ρ → Ev ρ := fun _ _ _ _ => none
def yhj (a : Int × Int) : List Arg := [.one (.int .i64 a.1), .one (.int .i64 a.2)]
def yhk (l : List Arg) : Option (Int × Int) := match l with
  | [.one (.int .i64 b0), .one (.int .i64 b1)] => some (b0, b1)
  | _ => none
def yhl (r : Int) : Out := (.r [] (.int .i64 r), [])
def yhm (o : Out) : Option (Int) := match o with
  | (.r [] (.int .i64 z1), []) => some z1
  | _ => none
def yhn (k : Nat) : PG := fun _ l K => (yhk l).bind fun a => (S_MulHigh k a.1 a.2).bind fun r => K (yhl r)
theorem yho (k : Nat) (a : Int × Int) : ev (yhf k) (yhi (Int) k) 0 yhh (st0 Tryz.f107 (yhj a)) (fin Tryz.prog Tryz.f107 (.sc) yhm) = S_MulHigh k a.1 a.2 := by kernel_rfl
theorem yhp (k : Nat) : PureOk Tryz.prog 107 (yhn k) :=
  pureOk_of_ev (yhg k) Tryz.func107 (by kernel_rfl) (by kernel_rfl) yhj yhk
    (fun l a h => by unfold yhk at h; split at h <;> first | (cases h; rfl) | cases h) (fun a => rfl) (lpgood_none (by kernel_rfl))
    (fun o r h => by unfold yhm at h; split at h <;> first | (cases h; rfl) | cases h) (yho k)
def yhq (k : Nat) : Orc := pureOrc [.one (.int .i64), .one (.int .i64)] (yhn k)
theorem yhr (k : Nat) : OrcOk Tryz.prog 107 (yhq k) := pureOrc_ok (yhp k)
noncomputable def yhs (k : Nat) : Env := { P := Tryz.prog, tt := tt, orc := fun g => cond (Nat.beq g 108) (yfz k) (cond (Nat.beq g 115) (yf9 k) (noOrc)) }
theorem yht (k : Nat) : EnvOk (yhs k) := fun g => (orc_cond (yg0 k) (orc_cond (yfa k) (noOrc_ok _ _)))
noncomputable def yhu : Code := (Tryz.f106.body).getD .skip
def yhv (ρ : Type) (k : Nat) : Nat → Ev ρ → Ev ρ := fun _ _ _ _ => none
def yhw (a : Int × Int) : List Arg := [.one (.int .i64 a.1), .one (.int .i64 a.2)]
def yhx (l : List Arg) : Option (Int × Int) := match l with
  | [.one (.int .i64 b0), .one (.int .i64 b1)] => some (b0, b1)
  | _ => none
def yhy (r : Int) : Out := (.r [] (.int .i64 r), [])
def yhz (o : Out) : Option (Int) := match o with
  | (.r [] (.int .i64 z1), []) => some z1
  | _ => none
def yi0 (k : Nat) : PG := fun _ l K => (yhx l).bind fun a => (S_RoundShift k a.1 a.2).bind fun r => K (yhy r)
theorem yi1 (k : Nat) (a : Int × Int) : ev (yhs k) (yhv (Int) k) 0 yhu (st0 Tryz.f106 (yhw a)) (fin Tryz.prog Tryz.f106 (.sc) yhz) = S_RoundShift k a.1 a.2 := by kernel_rfl
theorem yi2 (k : Nat) : PureOk Tryz.prog 106 (yi0 k) :=
  pureOk_of_ev (yht k) Tryz.func106 (by kernel_rfl) (by kernel_rfl) yhw yhx
    (fun l a h => by unfold yhx at h; split at h <;> first | (cases h; rfl) | cases h) (fun a => rfl) (lpgood_none (by kernel_rfl))
    (fun o r h => by unfold yhz at h; split at h <;> first | (cases h; rfl) | cases h) (yi1 k)
def yi3 (k : Nat) : Orc := pureOrc [.one (.int .i64), .one (.int .i64)] (yi0 k)
theorem yi4 (k : Nat) : OrcOk Tryz.prog 106 (yi3 k) := pureOrc_ok (yi2 k)
noncomputable def yi5 (k : Nat) : Env := { P := Tryz.prog, tt := tt, orc := fun g => cond (Nat.beq g 105) (yfm k) (cond (Nat.beq g 106) (yi3 k) (cond (Nat.beq g 107) (yhq k) (noOrc))) }
theorem yi6 (k : Nat) : EnvOk (yi5 k) := fun g => (orc_cond (yfn k) (orc_cond (yi4 k) (orc_cond (yhr k) (noOrc_ok _ _))))
noncomputable def yi7 : Code := (Tryz.f87.body).getD .skip
def yi8 (ρ : Type) (k : Nat) : Nat → Ev ρ → Ev ρ := fun _ _ _ _ => none
def yi9 (a : Int × Int × Int × Int) : List Arg := [.one (.int .i64 a.1), .one (.int .i64 a.2.1), .one (.int .i64 a.2.2.1), .one (.int .i64 a.2.2.2)]
def yia (l : List Arg) : Option (Int × Int × Int × Int) := match l with
  | [.one (.int .i64 b0), .one (.int .i64 b1), .one (.int .i64 b2), .one (.int .i64 b3)] => some (b0, b1, b2, b3)
  | _ => none
def yib (r : Int) : Out := (.r [] (.int .i64 r), [])
def yic (o : Out) : Option (Int) := match o with
  | (.r [] (.int .i64 z1), []) => some z1
  | _ => none
def yid (k : Nat) : PG := fun _ l K => (yia l).bind fun a => (S_Requant k a.1 a.2.1 a.2.2.1 a.2.2.2).bind fun r => K (yib r)
theorem yie (k : Nat) (a : Int × Int × Int × Int) : ev (yi5 k) (yi8 (Int) k) 0 yi7 (st0 Tryz.f87 (yi9 a)) (fin Tryz.prog Tryz.f87 (.sc) yic) = S_Requant k a.1 a.2.1 a.2.2.1 a.2.2.2 := by kernel_rfl
theorem yif (k : Nat) : PureOk Tryz.prog 87 (yid k) :=
  pureOk_of_ev (yi6 k) Tryz.func87 (by kernel_rfl) (by kernel_rfl) yi9 yia
    (fun l a h => by unfold yia at h; split at h <;> first | (cases h; rfl) | cases h) (fun a => rfl) (lpgood_none (by kernel_rfl))
    (fun o r h => by unfold yic at h; split at h <;> first | (cases h; rfl) | cases h) (yie k)
def yig (k : Nat) : Orc := pureOrc [.one (.int .i64), .one (.int .i64), .one (.int .i64), .one (.int .i64)] (yid k)
theorem yih (k : Nat) : OrcOk Tryz.prog 87 (yig k) := pureOrc_ok (yif k)
noncomputable def yii (k : Nat) : Env := { P := Tryz.prog, tt := tt, orc := fun g => cond (Nat.beq g 44) (y6j k) (cond (Nat.beq g 69) (y6w k) (noOrc)) }
theorem yij (k : Nat) : EnvOk (yii k) := fun g => (orc_cond (y6k k) (orc_cond (y6x k) (noOrc_ok _ _)))
noncomputable def yik : Code := (Tryz.f109.body).getD .skip
def yil (ρ : Type) (k : Nat) : Nat → Ev ρ → Ev ρ := fun _ _ _ _ => none
def yim (a : Shape × Int × Int × Int) : List Arg := [.agg [.int .i64 a.1.h, .int .i64 a.1.w, .int .i64 a.1.c], .one (.int .i64 a.2.1), .one (.int .i64 a.2.2.1), .one (.int .i64 a.2.2.2)]
def yin (l : List Arg) : Option (Shape × Int × Int × Int) := match l with
  | [.agg [.int .i64 b0_0, .int .i64 b0_1, .int .i64 b0_2], .one (.int .i64 b1), .one (.int .i64 b2), .one (.int .i64 b3)] => some ((⟨b0_0, b0_1, b0_2⟩ : Shape), b1, b2, b3)
  | _ => none
def yio (r : Int) : Out := (.r [] (.int .i64 r), [])
def yip (o : Out) : Option (Int) := match o with
  | (.r [] (.int .i64 z1), []) => some z1
  | _ => none
def yiq (k : Nat) : PG := fun _ l K => (yin l).bind fun a => (S_PlaceOf k a.1 a.2.1 a.2.2.1 a.2.2.2).bind fun r => K (yio r)
theorem yir (k : Nat) (a : Shape × Int × Int × Int) : ev (yii k) (yil (Int) k) 0 yik (st0 Tryz.f109 (yim a)) (fin Tryz.prog Tryz.f109 (.sc) yip) = S_PlaceOf k a.1 a.2.1 a.2.2.1 a.2.2.2 := by kernel_rfl
theorem yis (k : Nat) : PureOk Tryz.prog 109 (yiq k) :=
  pureOk_of_ev (yij k) Tryz.func109 (by kernel_rfl) (by kernel_rfl) yim yin
    (fun l a h => by unfold yin at h; split at h <;> first | (cases h; rfl) | cases h) (fun a => rfl) (lpgood_none (by kernel_rfl))
    (fun o r h => by unfold yip at h; split at h <;> first | (cases h; rfl) | cases h) (yir k)
def yit (k : Nat) : Orc := pureOrc [.agg [(.int .i64), (.int .i64), (.int .i64)], .one (.int .i64), .one (.int .i64), .one (.int .i64)] (yiq k)
theorem yiu (k : Nat) : OrcOk Tryz.prog 109 (yit k) := pureOrc_ok (yis k)
noncomputable def yiv (k : Nat) : Env := { P := Tryz.prog, tt := tt, orc := fun g => cond (Nat.beq g 45) (yae k) (cond (Nat.beq g 109) (yit k) (noOrc)) }
theorem yiw (k : Nat) : EnvOk (yiv k) := fun g => (orc_cond (yaf k) (orc_cond (yiu k) (noOrc_ok _ _)))
noncomputable def yix : Code := (Tryz.f90.body).getD .skip
def yiy (ρ : Type) (k : Nat) : Nat → Ev ρ → Ev ρ := fun _ _ _ _ => none
def yiz (a : Tensor × Int × Int × Int) : List Arg := [.agg [.int .i64 a.1.sh.h, .int .i64 a.1.sh.w, .int .i64 a.1.sh.c, .sl (.int .i64) a.1.data], .one (.int .i64 a.2.1), .one (.int .i64 a.2.2.1), .one (.int .i64 a.2.2.2)]
def yj0 (l : List Arg) : Option (Tensor × Int × Int × Int) := match l with
  | [.agg [.int .i64 b0_0, .int .i64 b0_1, .int .i64 b0_2, .sl (.int .i64) b0_3], .one (.int .i64 b1), .one (.int .i64 b2), .one (.int .i64 b3)] => some ((⟨(⟨b0_0, b0_1, b0_2⟩ : Shape), b0_3⟩ : Tensor), b1, b2, b3)
  | _ => none
def yj1 (r : Int × Bool) : Out := (.tup [.r [] (.int .i64 r.1), .r [] (.bool r.2)], [])
def yj2 (o : Out) : Option (Int × Bool) := match o with
  | (.tup [.r [] (.int .i64 z1), .r [] (.bool z2)], []) => some (z1, z2)
  | _ => none
def yj3 (k : Nat) : PG := fun _ l K => (yj0 l).bind fun a => (S_ItemAt k a.1 a.2.1 a.2.2.1 a.2.2.2).bind fun r => K (yj1 r)
theorem yj4 (k : Nat) (a : Tensor × Int × Int × Int) : ev (yiv k) (yiy (Int × Bool) k) 0 yix (st0 Tryz.f90 (yiz a)) (fin Tryz.prog Tryz.f90 (.tup [.sc, .sc]) yj2) = S_ItemAt k a.1 a.2.1 a.2.2.1 a.2.2.2 := by kernel_rfl
theorem yj5 (k : Nat) : PureOk Tryz.prog 90 (yj3 k) :=
  pureOk_of_ev (yiw k) Tryz.func90 (by kernel_rfl) (by kernel_rfl) yiz yj0
    (fun l a h => by unfold yj0 at h; split at h <;> first | (cases h; rfl) | cases h) (fun a => rfl) (lpgood_none (by kernel_rfl))
    (fun o r h => by unfold yj2 at h; split at h <;> first | (cases h; rfl) | cases h) (yj4 k)
def yj6 (k : Nat) : Orc := pureOrc [.agg [(.int .i64), (.int .i64), (.int .i64), (.sl (.int .i64))], .one (.int .i64), .one (.int .i64), .one (.int .i64)] (yj3 k)
theorem yj7 (k : Nat) : OrcOk Tryz.prog 90 (yj6 k) := pureOrc_ok (yj5 k)
noncomputable def yj8 (k : Nat) : Env := { P := Tryz.prog, tt := tt, orc := fun g => cond (Nat.beq g 90) (yj6 k) (noOrc) }
theorem yj9 (k : Nat) : EnvOk (yj8 k) := fun g => (orc_cond (yj7 k) (noOrc_ok _ _))
noncomputable def yja : Code := (Tryz.f91.body).getD .skip
noncomputable def yjb : Code := ((loopsIn 0 yja).getD 0 (0, .skip)).2
noncomputable def yjc : Code := ((loopsIn 0 yjb).getD 0 (0, .skip)).2
def yjd : List Nat := [2, 3, 4, 5, 6, 11, 12, 13]
def yje : List (Where × Co) := []
def yjf : Ex → List Nat
  | .exit j => cond (Nat.beq j 2) [2, 3, 4, 5, 6, 11, 12] []
  | .ret => []
  | .normal => []
def yjg : Ex → List (Where × Co)
  | .exit j => cond (Nat.beq j 2) [] []
  | .ret => []
  | .normal => []
def yjh (pv : (Int × Int × Int × Int × Int × Int × Int × List Int × Int × Int × Int × Int × Int × Int × Int × List Int × List Int) × (Int × List Int)) : St := { slots := [(2, .r [] (.int .i64 pv.1.1)), (3, .r [] (.int .i64 pv.1.2.1)), (4, .r [] (.int .i64 pv.1.2.2.1)), (5, .ptr 0 0 0), (6, .ptr 1 0 0), (11, .own 2), (12, .r [] (.int .i64 pv.1.2.2.2.1)), (13, .r [] (.int .i64 pv.2.1))], heap := [(0, .box [.r [] (.int .i64 pv.1.2.2.2.2.1), .r [] (.int .i64 pv.1.2.2.2.2.2.1), .r [] (.int .i64 pv.1.2.2.2.2.2.2.1), .r [] (.sl (.int .i64) pv.1.2.2.2.2.2.2.2.1)]), (1, .box [.r [] (.int .i64 pv.1.2.2.2.2.2.2.2.2.1), .r [] (.int .i64 pv.1.2.2.2.2.2.2.2.2.2.1), .r [] (.int .i64 pv.1.2.2.2.2.2.2.2.2.2.2.1), .r [] (.int .i64 pv.1.2.2.2.2.2.2.2.2.2.2.2.1), .r [] (.int .i64 pv.1.2.2.2.2.2.2.2.2.2.2.2.2.1), .r [] (.int .i64 pv.1.2.2.2.2.2.2.2.2.2.2.2.2.2.1), .r [] (.int .i64 pv.1.2.2.2.2.2.2.2.2.2.2.2.2.2.2.1), .r [] (.sl (.int .i64) pv.1.2.2.2.2.2.2.2.2.2.2.2.2.2.2.2.1), .r [] (.sl (.int .i64) pv.1.2.2.2.2.2.2.2.2.2.2.2.2.2.2.2.2)]), (2, .arr none (.int .i64) pv.2.2)], nid := 3, n := 52, gh := [] }
def yji (nf : NF) : Option ((Int × Int × Int × Int × Int × Int × Int × List Int × Int × Int × Int × Int × Int × Int × Int × List Int × List Int) × (Int × List Int)) := match nf with
  | ([.r [] (.int .i64 w0), .r [] (.int .i64 w1), .r [] (.int .i64 w2), .ptr 0 0 0, .ptr 1 0 0, .own 2, .r [] (.int .i64 w3), .r [] (.int .i64 w4)], [.box [.r [] (.int .i64 w5), .r [] (.int .i64 w6), .r [] (.int .i64 w7), .r [] (.sl (.int .i64) w8)], .box [.r [] (.int .i64 w9), .r [] (.int .i64 w10), .r [] (.int .i64 w11), .r [] (.int .i64 w12), .r [] (.int .i64 w13), .r [] (.int .i64 w14), .r [] (.int .i64 w15), .r [] (.sl (.int .i64) w16), .r [] (.sl (.int .i64) w17)], .arr none (.int .i64) w18], []) => some ((w0, w1, w2, w3, w5, w6, w7, w8, w9, w10, w11, w12, w13, w14, w15, w16, w17), (w4, w18))
  | _ => none
theorem yjj (nf : NF) (v : (Int × Int × Int × Int × Int × Int × Int × List Int × Int × Int × Int × Int × Int × Int × Int × List Int × List Int) × (Int × List Int)) (h : yji nf = some v) : denorm yjd 52 nf = yjh v := by
  unfold yji at h
  split at h
  · cases h; rfl
  · cases h
def yjk (p : Int × Int × Int × Int × Int × Int × Int × List Int × Int × Int × Int × Int × Int × Int × Int × List Int × List Int) (x : List Int) : St := { slots := [(2, .r [] (.int .i64 p.1)), (3, .r [] (.int .i64 p.2.1)), (4, .r [] (.int .i64 p.2.2.1)), (5, .ptr 0 0 0), (6, .ptr 1 0 0), (11, .own 2), (12, .r [] (.int .i64 p.2.2.2.1))], heap := [(0, .box [.r [] (.int .i64 p.2.2.2.2.1), .r [] (.int .i64 p.2.2.2.2.2.1), .r [] (.int .i64 p.2.2.2.2.2.2.1), .r [] (.sl (.int .i64) p.2.2.2.2.2.2.2.1)]), (1, .box [.r [] (.int .i64 p.2.2.2.2.2.2.2.2.1), .r [] (.int .i64 p.2.2.2.2.2.2.2.2.2.1), .r [] (.int .i64 p.2.2.2.2.2.2.2.2.2.2.1), .r [] (.int .i64 p.2.2.2.2.2.2.2.2.2.2.2.1), .r [] (.int .i64 p.2.2.2.2.2.2.2.2.2.2.2.2.1), .r [] (.int .i64 p.2.2.2.2.2.2.2.2.2.2.2.2.2.1), .r [] (.int .i64 p.2.2.2.2.2.2.2.2.2.2.2.2.2.2.1), .r [] (.sl (.int .i64) p.2.2.2.2.2.2.2.2.2.2.2.2.2.2.2.1), .r [] (.sl (.int .i64) p.2.2.2.2.2.2.2.2.2.2.2.2.2.2.2.2)]), (2, .arr none (.int .i64) x)], nid := 3, n := 52, gh := [] }
def yjl : List Nat := [2, 3, 4, 5, 6, 11, 12]
def yjm : List (Where × Co) := []
def yjn : Ex → List Nat
  | .exit j => cond (Nat.beq j 0) [11] []
  | .ret => []
  | .normal => []
def yjo : Ex → List (Where × Co)
  | .exit j => cond (Nat.beq j 0) [] []
  | .ret => []
  | .normal => []
def yjp (pv : (Int × Int × Int × Int × Int × Int × List Int × Int × Int × Int × Int × Int × Int × Int × List Int × List Int) × (Int × List Int)) : St := { slots := [(2, .r [] (.int .i64 pv.1.1)), (3, .r [] (.int .i64 pv.1.2.1)), (4, .r [] (.int .i64 pv.1.2.2.1)), (5, .ptr 0 0 0), (6, .ptr 1 0 0), (11, .own 2), (12, .r [] (.int .i64 pv.2.1))], heap := [(0, .box [.r [] (.int .i64 pv.1.2.2.2.1), .r [] (.int .i64 pv.1.2.2.2.2.1), .r [] (.int .i64 pv.1.2.2.2.2.2.1), .r [] (.sl (.int .i64) pv.1.2.2.2.2.2.2.1)]), (1, .box [.r [] (.int .i64 pv.1.2.2.2.2.2.2.2.1), .r [] (.int .i64 pv.1.2.2.2.2.2.2.2.2.1), .r [] (.int .i64 pv.1.2.2.2.2.2.2.2.2.2.1), .r [] (.int .i64 pv.1.2.2.2.2.2.2.2.2.2.2.1), .r [] (.int .i64 pv.1.2.2.2.2.2.2.2.2.2.2.2.1), .r [] (.int .i64 pv.1.2.2.2.2.2.2.2.2.2.2.2.2.1), .r [] (.int .i64 pv.1.2.2.2.2.2.2.2.2.2.2.2.2.2.1), .r [] (.sl (.int .i64) pv.1.2.2.2.2.2.2.2.2.2.2.2.2.2.2.1), .r [] (.sl (.int .i64) pv.1.2.2.2.2.2.2.2.2.2.2.2.2.2.2.2)]), (2, .arr none (.int .i64) pv.2.2)], nid := 3, n := 52, gh := [] }
def yjq (nf : NF) : Option ((Int × Int × Int × Int × Int × Int × List Int × Int × Int × Int × Int × Int × Int × Int × List Int × List Int) × (Int × List Int)) := match nf with
  | ([.r [] (.int .i64 w0), .r [] (.int .i64 w1), .r [] (.int .i64 w2), .ptr 0 0 0, .ptr 1 0 0, .own 2, .r [] (.int .i64 w3)], [.box [.r [] (.int .i64 w4), .r [] (.int .i64 w5), .r [] (.int .i64 w6), .r [] (.sl (.int .i64) w7)], .box [.r [] (.int .i64 w8), .r [] (.int .i64 w9), .r [] (.int .i64 w10), .r [] (.int .i64 w11), .r [] (.int .i64 w12), .r [] (.int .i64 w13), .r [] (.int .i64 w14), .r [] (.sl (.int .i64) w15), .r [] (.sl (.int .i64) w16)], .arr none (.int .i64) w17], []) => some ((w0, w1, w2, w4, w5, w6, w7, w8, w9, w10, w11, w12, w13, w14, w15, w16), (w3, w17))
  | _ => none
theorem yjr (nf : NF) (v : (Int × Int × Int × Int × Int × Int × List Int × Int × Int × Int × Int × Int × Int × Int × List Int × List Int) × (Int × List Int)) (h : yjq nf = some v) : denorm yjl 52 nf = yjp v := by
  unfold yjq at h
  split at h
  · cases h; rfl
  · cases h
def yjs (p : Int × Int × Int × Int × Int × Int × List Int × Int × Int × Int × Int × Int × Int × Int × List Int × List Int) (x : List Int) : St := { slots := [(11, .own 0)], heap := [(0, .arr none (.int .i64) x)], nid := 1, n := 52, gh := [] }
def yjt (ρ : Type) (k : Nat) : Nat → Ev ρ → Ev ρ := fun id f => cond (Nat.beq id 0) (loopOrc yjl yjm (fun n nf => cond (Nat.beq n 52) (yjq nf) none) fun pv K => iter (fun v next => S_l03Pool_g0 k pv.1 v next (fun x => K (.exit 0) (yjs pv.1 x))) k pv.2) ((fun id f => cond (Nat.beq id 2) (loopOrc yjd yje (fun n nf => cond (Nat.beq n 52) (yji nf) none) fun pv K => iter (fun v next => S_l03Pool_g1 k pv.1 v next (fun x => K (.exit 2) (yjk pv.1 x))) k pv.2) ((fun _ _ _ _ => none) id f)) id f)
theorem yju {ρ : Type} (k : Nat) (p : Int × Int × Int × Int × Int × Int × Int × List Int × Int × Int × Int × Int × Int × Int × Int × List Int × List Int) (v : Int × List Int) (K K1 : Ex → St → Option ρ) : ev (yj8 k) (yjt ρ k) 2 yjc (yjh (p, v)) (fun e st' => match e with
    | .normal => (normC yjd yje st').bind fun nf => K1 .normal (denorm yjd st'.n nf)
    | e => (normC (yjf e) (yjg e) st').bind fun nf => K e (denorm (yjf e) st'.n nf)) = S_l03Pool_g1 k p v (fun v' => K1 .normal (yjh (p, v'))) (fun x => K (.exit 2) (yjk p x)) := by kernel_rfl
theorem yjv {ρ : Type} (k : Nat) : Sound Tryz.prog (.loop yjc) (yjt ρ k 2 fun st K => ev (yj8 k) (yjt ρ k) 2 yjc st K) :=
  loop_ok (ev_sound (yj9 k) yjc 2 (lpgood_none (by kernel_rfl))) yjf yjg k (g := fun p v next K => S_l03Pool_g1 k p v next (fun x => K (.exit 2) (yjk p x))) (dec_at yjj) (fun p v K K1 => yju k p v K K1)
theorem yjw {ρ : Type} (k : Nat) (p : Int × Int × Int × Int × Int × Int × List Int × Int × Int × Int × Int × Int × Int × Int × List Int × List Int) (v : Int × List Int) (K K1 : Ex → St → Option ρ) : ev (yj8 k) (yjt ρ k) 0 yjb (yjp (p, v)) (fun e st' => match e with
    | .normal => (normC yjl yjm st').bind fun nf => K1 .normal (denorm yjl st'.n nf)
    | e => (normC (yjn e) (yjo e) st').bind fun nf => K e (denorm (yjn e) st'.n nf)) = S_l03Pool_g0 k p v (fun v' => K1 .normal (yjp (p, v'))) (fun x => K (.exit 0) (yjs p x)) := by kernel_rfl
theorem yjx {ρ : Type} (k : Nat) : Sound Tryz.prog (.loop yjb) (yjt ρ k 0 fun st K => ev (yj8 k) (yjt ρ k) 0 yjb st K) :=
  loop_ok (ev_sound (yj9 k) yjb 0 (lpgood_of (l := [(2, yjc)]) (by kernel_rfl) ⟨yjv k, trivial⟩)) yjn yjo k (g := fun p v next K => S_l03Pool_g0 k p v next (fun x => K (.exit 0) (yjs p x))) (dec_at yjr) (fun p v K K1 => yjw k p v K K1)
def yjy (a : Tensor × Layer × Int × Int × Int) : List Arg := [.agg [.int .i64 a.1.sh.h, .int .i64 a.1.sh.w, .int .i64 a.1.sh.c, .sl (.int .i64) a.1.data], .agg [.int .i64 a.2.1.kind, .int .i64 a.2.1.out, .int .i64 a.2.1.size, .int .i64 a.2.1.step, .int .i64 a.2.1.mult, .int .i64 a.2.1.shift, .int .i64 a.2.1.zero, .sl (.int .i64) a.2.1.weights, .sl (.int .i64) a.2.1.bias], .one (.int .i64 a.2.2.1), .one (.int .i64 a.2.2.2.1), .one (.int .i64 a.2.2.2.2)]
def yjz (l : List Arg) : Option (Tensor × Layer × Int × Int × Int) := match l with
  | [.agg [.int .i64 b0_0, .int .i64 b0_1, .int .i64 b0_2, .sl (.int .i64) b0_3], .agg [.int .i64 b1_0, .int .i64 b1_1, .int .i64 b1_2, .int .i64 b1_3, .int .i64 b1_4, .int .i64 b1_5, .int .i64 b1_6, .sl (.int .i64) b1_7, .sl (.int .i64) b1_8], .one (.int .i64 b2), .one (.int .i64 b3), .one (.int .i64 b4)] => some ((⟨(⟨b0_0, b0_1, b0_2⟩ : Shape), b0_3⟩ : Tensor), (⟨b1_0, b1_1, b1_2, b1_3, b1_4, b1_5, b1_6, b1_7, b1_8⟩ : Layer), b2, b3, b4)
  | _ => none
def yk0 (r : List Int) : Out := (.own 0, [.arr none (.int .i64) r])
def yk1 (o : Out) : Option (List Int) := match o with
  | (.own 0, [.arr none (.int .i64) z1]) => some z1
  | _ => none
def yk2 (k : Nat) : PG := fun _ l K => (yjz l).bind fun a => (S_l03Pool k a.1 a.2.1 a.2.2.1 a.2.2.2.1 a.2.2.2.2).bind fun r => K (yk0 r)
theorem yk3 (k : Nat) (a : Tensor × Layer × Int × Int × Int) : ev (yj8 k) (yjt (List Int) k) 0 yja (st0 Tryz.f91 (yjy a)) (fin Tryz.prog Tryz.f91 (.own (.int .i64)) yk1) = S_l03Pool k a.1 a.2.1 a.2.2.1 a.2.2.2.1 a.2.2.2.2 := by kernel_rfl
theorem yk4 (k : Nat) : PureOk Tryz.prog 91 (yk2 k) :=
  pureOk_of_ev (yj9 k) Tryz.func91 (by kernel_rfl) (by kernel_rfl) yjy yjz
    (fun l a h => by unfold yjz at h; split at h <;> first | (cases h; rfl) | cases h) (fun a => rfl) (lpgood_of (l := [(0, yjb)]) (by kernel_rfl) ⟨yjx k, trivial⟩)
    (fun o r h => by unfold yk1 at h; split at h <;> first | (cases h; rfl) | cases h) (yk3 k)
def yk5 (k : Nat) : Orc := pureOrc [.agg [(.int .i64), (.int .i64), (.int .i64), (.sl (.int .i64))], .agg [(.int .i64), (.int .i64), (.int .i64), (.int .i64), (.int .i64), (.int .i64), (.int .i64), (.sl (.int .i64)), (.sl (.int .i64))], .one (.int .i64), .one (.int .i64), .one (.int .i64)] (yk2 k)
theorem yk6 (k : Nat) : OrcOk Tryz.prog 91 (yk5 k) := pureOrc_ok (yk4 k)
noncomputable def yk7 (k : Nat) : Env := { P := Tryz.prog, tt := tt, orc := fun g => cond (Nat.beq g 70) (y8n k) (cond (Nat.beq g 87) (yig k) (cond (Nat.beq g 88) (ygc k) (cond (Nat.beq g 89) (yh0 k) (cond (Nat.beq g 90) (yj6 k) (cond (Nat.beq g 91) (yk5 k) (noOrc)))))) }
theorem yk8 (k : Nat) : EnvOk (yk7 k) := fun g => (orc_cond (y8o k) (orc_cond (yih k) (orc_cond (ygd k) (orc_cond (yh1 k) (orc_cond (yj7 k) (orc_cond (yk6 k) (noOrc_ok _ _)))))))
noncomputable def yk9 : Code := (Tryz.f64.body).getD .skip
noncomputable def yka : Code := ((loopsIn 0 yk9).getD 0 (0, .skip)).2
noncomputable def ykb : Code := ((loopsIn 1 yka).getD 0 (0, .skip)).2
noncomputable def ykc : Code := ((loopsIn 3 ykb).getD 0 (0, .skip)).2
noncomputable def ykd : Code := ((loopsIn 0 yk9).getD 1 (0, .skip)).2
noncomputable def yke : Code := ((loopsIn 0 yk9).getD 2 (0, .skip)).2
def ykf : List Nat := [2, 3, 4, 5, 6, 11, 13, 14, 15, 16]
def ykg : List (Where × Co) := []
def ykh : Ex → List Nat
  | .exit j => cond (Nat.beq j 5) [2, 3, 4, 5, 6, 11, 13, 14, 15] []
  | .ret => []
  | .normal => []
def yki : Ex → List (Where × Co)
  | .exit j => cond (Nat.beq j 5) [] []
  | .ret => []
  | .normal => []
def ykj (pv : (Int × Int × Int × Int × Int × Int × Int × Int × List Int × Int × Int × Int × Int × Int × Int × Int × List Int × List Int × Int × Int × Int) × (Int × Int)) : St := { slots := [(2, .r [] (.int .i64 pv.1.1)), (3, .r [] (.int .i64 pv.1.2.1)), (4, .r [] (.int .i64 pv.1.2.2.1)), (5, .ptr 0 0 0), (6, .ptr 1 0 0), (11, .ptr 2 0 0), (13, .r [] (.int .i64 pv.2.1)), (14, .r [] (.int .i64 pv.1.2.2.2.1)), (15, .r [] (.int .i64 pv.1.2.2.2.2.1)), (16, .r [] (.int .i64 pv.2.2))], heap := [(0, .box [.r [] (.int .i64 pv.1.2.2.2.2.2.1), .r [] (.int .i64 pv.1.2.2.2.2.2.2.1), .r [] (.int .i64 pv.1.2.2.2.2.2.2.2.1), .r [] (.sl (.int .i64) pv.1.2.2.2.2.2.2.2.2.1)]), (1, .box [.r [] (.int .i64 pv.1.2.2.2.2.2.2.2.2.2.1), .r [] (.int .i64 pv.1.2.2.2.2.2.2.2.2.2.2.1), .r [] (.int .i64 pv.1.2.2.2.2.2.2.2.2.2.2.2.1), .r [] (.int .i64 pv.1.2.2.2.2.2.2.2.2.2.2.2.2.1), .r [] (.int .i64 pv.1.2.2.2.2.2.2.2.2.2.2.2.2.2.1), .r [] (.int .i64 pv.1.2.2.2.2.2.2.2.2.2.2.2.2.2.2.1), .r [] (.int .i64 pv.1.2.2.2.2.2.2.2.2.2.2.2.2.2.2.2.1), .r [] (.sl (.int .i64) pv.1.2.2.2.2.2.2.2.2.2.2.2.2.2.2.2.2.1), .r [] (.sl (.int .i64) pv.1.2.2.2.2.2.2.2.2.2.2.2.2.2.2.2.2.2.1)]), (2, .box [.r [] (.int .i64 pv.1.2.2.2.2.2.2.2.2.2.2.2.2.2.2.2.2.2.2.1), .r [] (.int .i64 pv.1.2.2.2.2.2.2.2.2.2.2.2.2.2.2.2.2.2.2.2.1), .r [] (.int .i64 pv.1.2.2.2.2.2.2.2.2.2.2.2.2.2.2.2.2.2.2.2.2)])], nid := 3, n := 228, gh := [] }
def ykk (nf : NF) : Option ((Int × Int × Int × Int × Int × Int × Int × Int × List Int × Int × Int × Int × Int × Int × Int × Int × List Int × List Int × Int × Int × Int) × (Int × Int)) := match nf with
  | ([.r [] (.int .i64 w0), .r [] (.int .i64 w1), .r [] (.int .i64 w2), .ptr 0 0 0, .ptr 1 0 0, .ptr 2 0 0, .r [] (.int .i64 w3), .r [] (.int .i64 w4), .r [] (.int .i64 w5), .r [] (.int .i64 w6)], [.box [.r [] (.int .i64 w7), .r [] (.int .i64 w8), .r [] (.int .i64 w9), .r [] (.sl (.int .i64) w10)], .box [.r [] (.int .i64 w11), .r [] (.int .i64 w12), .r [] (.int .i64 w13), .r [] (.int .i64 w14), .r [] (.int .i64 w15), .r [] (.int .i64 w16), .r [] (.int .i64 w17), .r [] (.sl (.int .i64) w18), .r [] (.sl (.int .i64) w19)], .box [.r [] (.int .i64 w20), .r [] (.int .i64 w21), .r [] (.int .i64 w22)]], []) => some ((w0, w1, w2, w4, w5, w7, w8, w9, w10, w11, w12, w13, w14, w15, w16, w17, w18, w19, w20, w21, w22), (w3, w6))
  | _ => none
theorem ykl (nf : NF) (v : (Int × Int × Int × Int × Int × Int × Int × Int × List Int × Int × Int × Int × Int × Int × Int × Int × List Int × List Int × Int × Int × Int) × (Int × Int)) (h : ykk nf = some v) : denorm ykf 228 nf = ykj v := by
  unfold ykk at h
  split at h
  · cases h; rfl
  · cases h
def ykm (p : Int × Int × Int × Int × Int × Int × Int × Int × List Int × Int × Int × Int × Int × Int × Int × Int × List Int × List Int × Int × Int × Int) (x : Int) : St := { slots := [(2, .r [] (.int .i64 p.1)), (3, .r [] (.int .i64 p.2.1)), (4, .r [] (.int .i64 p.2.2.1)), (5, .ptr 0 0 0), (6, .ptr 1 0 0), (11, .ptr 2 0 0), (13, .r [] (.int .i64 x)), (14, .r [] (.int .i64 p.2.2.2.1)), (15, .r [] (.int .i64 p.2.2.2.2.1))], heap := [(0, .box [.r [] (.int .i64 p.2.2.2.2.2.1), .r [] (.int .i64 p.2.2.2.2.2.2.1), .r [] (.int .i64 p.2.2.2.2.2.2.2.1), .r [] (.sl (.int .i64) p.2.2.2.2.2.2.2.2.1)]), (1, .box [.r [] (.int .i64 p.2.2.2.2.2.2.2.2.2.1), .r [] (.int .i64 p.2.2.2.2.2.2.2.2.2.2.1), .r [] (.int .i64 p.2.2.2.2.2.2.2.2.2.2.2.1), .r [] (.int .i64 p.2.2.2.2.2.2.2.2.2.2.2.2.1), .r [] (.int .i64 p.2.2.2.2.2.2.2.2.2.2.2.2.2.1), .r [] (.int .i64 p.2.2.2.2.2.2.2.2.2.2.2.2.2.2.1), .r [] (.int .i64 p.2.2.2.2.2.2.2.2.2.2.2.2.2.2.2.1), .r [] (.sl (.int .i64) p.2.2.2.2.2.2.2.2.2.2.2.2.2.2.2.2.1), .r [] (.sl (.int .i64) p.2.2.2.2.2.2.2.2.2.2.2.2.2.2.2.2.2.1)]), (2, .box [.r [] (.int .i64 p.2.2.2.2.2.2.2.2.2.2.2.2.2.2.2.2.2.2.1), .r [] (.int .i64 p.2.2.2.2.2.2.2.2.2.2.2.2.2.2.2.2.2.2.2.1), .r [] (.int .i64 p.2.2.2.2.2.2.2.2.2.2.2.2.2.2.2.2.2.2.2.2)])], nid := 3, n := 228, gh := [] }
def ykn : List Nat := [2, 3, 4, 5, 6, 11, 13, 14, 15]
def yko : List (Where × Co) := []
def ykp : Ex → List Nat
  | .exit j => cond (Nat.beq j 3) [2, 3, 4, 5, 6, 11, 13, 14] []
  | .ret => []
  | .normal => []
def ykq : Ex → List (Where × Co)
  | .exit j => cond (Nat.beq j 3) [] []
  | .ret => []
  | .normal => []
def ykr (pv : (Int × Int × Int × Int × Int × Int × Int × List Int × Int × Int × Int × Int × Int × Int × Int × List Int × List Int × Int × Int × Int) × (Int × Int)) : St := { slots := [(2, .r [] (.int .i64 pv.1.1)), (3, .r [] (.int .i64 pv.1.2.1)), (4, .r [] (.int .i64 pv.1.2.2.1)), (5, .ptr 0 0 0), (6, .ptr 1 0 0), (11, .ptr 2 0 0), (13, .r [] (.int .i64 pv.2.1)), (14, .r [] (.int .i64 pv.1.2.2.2.1)), (15, .r [] (.int .i64 pv.2.2))], heap := [(0, .box [.r [] (.int .i64 pv.1.2.2.2.2.1), .r [] (.int .i64 pv.1.2.2.2.2.2.1), .r [] (.int .i64 pv.1.2.2.2.2.2.2.1), .r [] (.sl (.int .i64) pv.1.2.2.2.2.2.2.2.1)]), (1, .box [.r [] (.int .i64 pv.1.2.2.2.2.2.2.2.2.1), .r [] (.int .i64 pv.1.2.2.2.2.2.2.2.2.2.1), .r [] (.int .i64 pv.1.2.2.2.2.2.2.2.2.2.2.1), .r [] (.int .i64 pv.1.2.2.2.2.2.2.2.2.2.2.2.1), .r [] (.int .i64 pv.1.2.2.2.2.2.2.2.2.2.2.2.2.1), .r [] (.int .i64 pv.1.2.2.2.2.2.2.2.2.2.2.2.2.2.1), .r [] (.int .i64 pv.1.2.2.2.2.2.2.2.2.2.2.2.2.2.2.1), .r [] (.sl (.int .i64) pv.1.2.2.2.2.2.2.2.2.2.2.2.2.2.2.2.1), .r [] (.sl (.int .i64) pv.1.2.2.2.2.2.2.2.2.2.2.2.2.2.2.2.2.1)]), (2, .box [.r [] (.int .i64 pv.1.2.2.2.2.2.2.2.2.2.2.2.2.2.2.2.2.2.1), .r [] (.int .i64 pv.1.2.2.2.2.2.2.2.2.2.2.2.2.2.2.2.2.2.2.1), .r [] (.int .i64 pv.1.2.2.2.2.2.2.2.2.2.2.2.2.2.2.2.2.2.2.2)])], nid := 3, n := 228, gh := [] }
def yks (nf : NF) : Option ((Int × Int × Int × Int × Int × Int × Int × List Int × Int × Int × Int × Int × Int × Int × Int × List Int × List Int × Int × Int × Int) × (Int × Int)) := match nf with
  | ([.r [] (.int .i64 w0), .r [] (.int .i64 w1), .r [] (.int .i64 w2), .ptr 0 0 0, .ptr 1 0 0, .ptr 2 0 0, .r [] (.int .i64 w3), .r [] (.int .i64 w4), .r [] (.int .i64 w5)], [.box [.r [] (.int .i64 w6), .r [] (.int .i64 w7), .r [] (.int .i64 w8), .r [] (.sl (.int .i64) w9)], .box [.r [] (.int .i64 w10), .r [] (.int .i64 w11), .r [] (.int .i64 w12), .r [] (.int .i64 w13), .r [] (.int .i64 w14), .r [] (.int .i64 w15), .r [] (.int .i64 w16), .r [] (.sl (.int .i64) w17), .r [] (.sl (.int .i64) w18)], .box [.r [] (.int .i64 w19), .r [] (.int .i64 w20), .r [] (.int .i64 w21)]], []) => some ((w0, w1, w2, w4, w6, w7, w8, w9, w10, w11, w12, w13, w14, w15, w16, w17, w18, w19, w20, w21), (w3, w5))
  | _ => none
theorem ykt (nf : NF) (v : (Int × Int × Int × Int × Int × Int × Int × List Int × Int × Int × Int × Int × Int × Int × Int × List Int × List Int × Int × Int × Int) × (Int × Int)) (h : yks nf = some v) : denorm ykn 228 nf = ykr v := by
  unfold yks at h
  split at h
  · cases h; rfl
  · cases h
def yku (p : Int × Int × Int × Int × Int × Int × Int × List Int × Int × Int × Int × Int × Int × Int × Int × List Int × List Int × Int × Int × Int) (x : Int) : St := { slots := [(2, .r [] (.int .i64 p.1)), (3, .r [] (.int .i64 p.2.1)), (4, .r [] (.int .i64 p.2.2.1)), (5, .ptr 0 0 0), (6, .ptr 1 0 0), (11, .ptr 2 0 0), (13, .r [] (.int .i64 x)), (14, .r [] (.int .i64 p.2.2.2.1))], heap := [(0, .box [.r [] (.int .i64 p.2.2.2.2.1), .r [] (.int .i64 p.2.2.2.2.2.1), .r [] (.int .i64 p.2.2.2.2.2.2.1), .r [] (.sl (.int .i64) p.2.2.2.2.2.2.2.1)]), (1, .box [.r [] (.int .i64 p.2.2.2.2.2.2.2.2.1), .r [] (.int .i64 p.2.2.2.2.2.2.2.2.2.1), .r [] (.int .i64 p.2.2.2.2.2.2.2.2.2.2.1), .r [] (.int .i64 p.2.2.2.2.2.2.2.2.2.2.2.1), .r [] (.int .i64 p.2.2.2.2.2.2.2.2.2.2.2.2.1), .r [] (.int .i64 p.2.2.2.2.2.2.2.2.2.2.2.2.2.1), .r [] (.int .i64 p.2.2.2.2.2.2.2.2.2.2.2.2.2.2.1), .r [] (.sl (.int .i64) p.2.2.2.2.2.2.2.2.2.2.2.2.2.2.2.1), .r [] (.sl (.int .i64) p.2.2.2.2.2.2.2.2.2.2.2.2.2.2.2.2.1)]), (2, .box [.r [] (.int .i64 p.2.2.2.2.2.2.2.2.2.2.2.2.2.2.2.2.2.1), .r [] (.int .i64 p.2.2.2.2.2.2.2.2.2.2.2.2.2.2.2.2.2.2.1), .r [] (.int .i64 p.2.2.2.2.2.2.2.2.2.2.2.2.2.2.2.2.2.2.2)])], nid := 3, n := 228, gh := [] }
def ykv : List Nat := [2, 3, 4, 5, 6, 11, 13, 14]
def ykw : List (Where × Co) := []
def ykx : Ex → List Nat
  | .exit j => cond (Nat.beq j 1) [4, 6, 13] []
  | .ret => []
  | .normal => []
def yky : Ex → List (Where × Co)
  | .exit j => cond (Nat.beq j 1) [] []
  | .ret => []
  | .normal => []
def ykz (pv : (Int × Int × Int × Int × Int × Int × List Int × Int × Int × Int × Int × Int × Int × Int × List Int × List Int × Int × Int × Int) × (Int × Int)) : St := { slots := [(2, .r [] (.int .i64 pv.1.1)), (3, .r [] (.int .i64 pv.1.2.1)), (4, .r [] (.int .i64 pv.1.2.2.1)), (5, .ptr 0 0 0), (6, .ptr 1 0 0), (11, .ptr 2 0 0), (13, .r [] (.int .i64 pv.2.1)), (14, .r [] (.int .i64 pv.2.2))], heap := [(0, .box [.r [] (.int .i64 pv.1.2.2.2.1), .r [] (.int .i64 pv.1.2.2.2.2.1), .r [] (.int .i64 pv.1.2.2.2.2.2.1), .r [] (.sl (.int .i64) pv.1.2.2.2.2.2.2.1)]), (1, .box [.r [] (.int .i64 pv.1.2.2.2.2.2.2.2.1), .r [] (.int .i64 pv.1.2.2.2.2.2.2.2.2.1), .r [] (.int .i64 pv.1.2.2.2.2.2.2.2.2.2.1), .r [] (.int .i64 pv.1.2.2.2.2.2.2.2.2.2.2.1), .r [] (.int .i64 pv.1.2.2.2.2.2.2.2.2.2.2.2.1), .r [] (.int .i64 pv.1.2.2.2.2.2.2.2.2.2.2.2.2.1), .r [] (.int .i64 pv.1.2.2.2.2.2.2.2.2.2.2.2.2.2.1), .r [] (.sl (.int .i64) pv.1.2.2.2.2.2.2.2.2.2.2.2.2.2.2.1), .r [] (.sl (.int .i64) pv.1.2.2.2.2.2.2.2.2.2.2.2.2.2.2.2.1)]), (2, .box [.r [] (.int .i64 pv.1.2.2.2.2.2.2.2.2.2.2.2.2.2.2.2.2.1), .r [] (.int .i64 pv.1.2.2.2.2.2.2.2.2.2.2.2.2.2.2.2.2.2.1), .r [] (.int .i64 pv.1.2.2.2.2.2.2.2.2.2.2.2.2.2.2.2.2.2.2)])], nid := 3, n := 228, gh := [] }
def yl0 (nf : NF) : Option ((Int × Int × Int × Int × Int × Int × List Int × Int × Int × Int × Int × Int × Int × Int × List Int × List Int × Int × Int × Int) × (Int × Int)) := match nf with
  | ([.r [] (.int .i64 w0), .r [] (.int .i64 w1), .r [] (.int .i64 w2), .ptr 0 0 0, .ptr 1 0 0, .ptr 2 0 0, .r [] (.int .i64 w3), .r [] (.int .i64 w4)], [.box [.r [] (.int .i64 w5), .r [] (.int .i64 w6), .r [] (.int .i64 w7), .r [] (.sl (.int .i64) w8)], .box [.r [] (.int .i64 w9), .r [] (.int .i64 w10), .r [] (.int .i64 w11), .r [] (.int .i64 w12), .r [] (.int .i64 w13), .r [] (.int .i64 w14), .r [] (.int .i64 w15), .r [] (.sl (.int .i64) w16), .r [] (.sl (.int .i64) w17)], .box [.r [] (.int .i64 w18), .r [] (.int .i64 w19), .r [] (.int .i64 w20)]], []) => some ((w0, w1, w2, w5, w6, w7, w8, w9, w10, w11, w12, w13, w14, w15, w16, w17, w18, w19, w20), (w3, w4))
  | _ => none
theorem yl1 (nf : NF) (v : (Int × Int × Int × Int × Int × Int × List Int × Int × Int × Int × Int × Int × Int × Int × List Int × List Int × Int × Int × Int) × (Int × Int)) (h : yl0 nf = some v) : denorm ykv 228 nf = ykz v := by
  unfold yl0 at h
  split at h
  · cases h; rfl
  · cases h
def yl2 (p : Int × Int × Int × Int × Int × Int × List Int × Int × Int × Int × Int × Int × Int × Int × List Int × List Int × Int × Int × Int) (x : Int) : St := { slots := [(4, .r [] (.int .i64 p.2.2.1)), (6, .ptr 0 0 0), (13, .r [] (.int .i64 x))], heap := [(0, .box [.r [] (.int .i64 p.2.2.2.2.2.2.2.1), .r [] (.int .i64 p.2.2.2.2.2.2.2.2.1), .r [] (.int .i64 p.2.2.2.2.2.2.2.2.2.1), .r [] (.int .i64 p.2.2.2.2.2.2.2.2.2.2.1), .r [] (.int .i64 p.2.2.2.2.2.2.2.2.2.2.2.1), .r [] (.int .i64 p.2.2.2.2.2.2.2.2.2.2.2.2.1), .r [] (.int .i64 p.2.2.2.2.2.2.2.2.2.2.2.2.2.1), .r [] (.sl (.int .i64) p.2.2.2.2.2.2.2.2.2.2.2.2.2.2.1), .r [] (.sl (.int .i64) p.2.2.2.2.2.2.2.2.2.2.2.2.2.2.2.1)])], nid := 1, n := 228, gh := [] }
def yl3 : List Nat := [19, 20, 21]
def yl4 : List (Where × Co) := []
def yl5 : Ex → List Nat
  | .exit j => cond (Nat.beq j 7) [20] []
  | .ret => []
  | .normal => []
def yl6 : Ex → List (Where × Co)
  | .exit j => cond (Nat.beq j 7) [] []
  | .ret => []
  | .normal => []
def yl7 (pv : (List Int) × (Int × Int)) : St := { slots := [(19, .own 0), (20, .r [] (.int .i64 pv.2.1)), (21, .r [] (.int .i64 pv.2.2))], heap := [(0, .arr none (.int .i64) pv.1)], nid := 1, n := 228, gh := [] }
def yl8 (nf : NF) : Option ((List Int) × (Int × Int)) := match nf with
  | ([.own 0, .r [] (.int .i64 w0), .r [] (.int .i64 w1)], [.arr none (.int .i64) w2], []) => some (w2, (w0, w1))
  | _ => none
theorem yl9 (nf : NF) (v : (List Int) × (Int × Int)) (h : yl8 nf = some v) : denorm yl3 228 nf = yl7 v := by
  unfold yl8 at h
  split at h
  · cases h; rfl
  · cases h
def yla (p : List Int) (x : Int) : St := { slots := [(20, .r [] (.int .i64 x))], heap := [], nid := 0, n := 228, gh := [] }
def ylb : List Nat := [22, 23, 24]
def ylc : List (Where × Co) := []
def yld : Ex → List Nat
  | .exit j => cond (Nat.beq j 9) [22, 23] []
  | .ret => []
  | .normal => []
def yle : Ex → List (Where × Co)
  | .exit j => cond (Nat.beq j 9) [] []
  | .ret => []
  | .normal => []
def ylf (pv : (List Int) × (Int × Int)) : St := { slots := [(22, .own 0), (23, .r [] (.int .i64 pv.2.1)), (24, .r [] (.int .i64 pv.2.2))], heap := [(0, .arr none (.int .i64) pv.1)], nid := 1, n := 228, gh := [] }
def ylg (nf : NF) : Option ((List Int) × (Int × Int)) := match nf with
  | ([.own 0, .r [] (.int .i64 w0), .r [] (.int .i64 w1)], [.arr none (.int .i64) w2], []) => some (w2, (w0, w1))
  | _ => none
theorem ylh (nf : NF) (v : (List Int) × (Int × Int)) (h : ylg nf = some v) : denorm ylb 228 nf = ylf v := by
  unfold ylg at h
  split at h
  · cases h; rfl
  · cases h
def yli (p : List Int) (x : Int) : St := { slots := [(22, .own 0), (23, .r [] (.int .i64 x))], heap := [(0, .arr none (.int .i64) p)], nid := 1, n := 228, gh := [] }
def ylj (ρ : Type) (k : Nat) : Nat → Ev ρ → Ev ρ := fun id f => cond (Nat.beq id 9) (loopOrc ylb ylc (fun n nf => cond (Nat.beq n 228) (ylg nf) none) fun pv K => iter (fun v next => S_l03Item_g4 k pv.1 v next (fun x => K (.exit 9) (yli pv.1 x))) k pv.2) ((fun id f => cond (Nat.beq id 7) (loopOrc yl3 yl4 (fun n nf => cond (Nat.beq n 228) (yl8 nf) none) fun pv K => iter (fun v next => S_l03Item_g3 k pv.1 v next (fun x => K (.exit 7) (yla pv.1 x))) k pv.2) ((fun id f => cond (Nat.beq id 1) (loopOrc ykv ykw (fun n nf => cond (Nat.beq n 228) (yl0 nf) none) fun pv K => iter (fun v next => S_l03Item_g0 k pv.1 v next (fun x => K (.exit 1) (yl2 pv.1 x))) k pv.2) ((fun id f => cond (Nat.beq id 3) (loopOrc ykn yko (fun n nf => cond (Nat.beq n 228) (yks nf) none) fun pv K => iter (fun v next => S_l03Item_g1 k pv.1 v next (fun x => K (.exit 3) (yku pv.1 x))) k pv.2) ((fun id f => cond (Nat.beq id 5) (loopOrc ykf ykg (fun n nf => cond (Nat.beq n 228) (ykk nf) none) fun pv K => iter (fun v next => S_l03Item_g2 k pv.1 v next (fun x => K (.exit 5) (ykm pv.1 x))) k pv.2) ((fun _ _ _ _ => none) id f)) id f)) id f)) id f)) id f)
theorem ylk {ρ : Type} (k : Nat) (p : Int × Int × Int × Int × Int × Int × Int × Int × List Int × Int × Int × Int × Int × Int × Int × Int × List Int × List Int × Int × Int × Int) (v : Int × Int) (K K1 : Ex → St → Option ρ) : ev (yk7 k) (ylj ρ k) 5 ykc (ykj (p, v)) (fun e st' => match e with
    | .normal => (normC ykf ykg st').bind fun nf => K1 .normal (denorm ykf st'.n nf)
    | e => (normC (ykh e) (yki e) st').bind fun nf => K e (denorm (ykh e) st'.n nf)) = S_l03Item_g2 k p v (fun v' => K1 .normal (ykj (p, v'))) (fun x => K (.exit 5) (ykm p x)) := by kernel_rfl
theorem yll {ρ : Type} (k : Nat) : Sound Tryz.prog (.loop ykc) (ylj ρ k 5 fun st K => ev (yk7 k) (ylj ρ k) 5 ykc st K) :=
  loop_ok (ev_sound (yk8 k) ykc 5 (lpgood_none (by kernel_rfl))) ykh yki k (g := fun p v next K => S_l03Item_g2 k p v next (fun x => K (.exit 5) (ykm p x))) (dec_at ykl) (fun p v K K1 => ylk k p v K K1)
theorem ylm {ρ : Type} (k : Nat) (p : Int × Int × Int × Int × Int × Int × Int × List Int × Int × Int × Int × Int × Int × Int × Int × List Int × List Int × Int × Int × Int) (v : Int × Int) (K K1 : Ex → St → Option ρ) : ev (yk7 k) (ylj ρ k) 3 ykb (ykr (p, v)) (fun e st' => match e with
    | .normal => (normC ykn yko st').bind fun nf => K1 .normal (denorm ykn st'.n nf)
    | e => (normC (ykp e) (ykq e) st').bind fun nf => K e (denorm (ykp e) st'.n nf)) = S_l03Item_g1 k p v (fun v' => K1 .normal (ykr (p, v'))) (fun x => K (.exit 3) (yku p x)) := by kernel_rfl
theorem yln {ρ : Type} (k : Nat) : Sound Tryz.prog (.loop ykb) (ylj ρ k 3 fun st K => ev (yk7 k) (ylj ρ k) 3 ykb st K) :=
  loop_ok (ev_sound (yk8 k) ykb 3 (lpgood_of (l := [(5, ykc)]) (by kernel_rfl) ⟨yll k, trivial⟩)) ykp ykq k (g := fun p v next K => S_l03Item_g1 k p v next (fun x => K (.exit 3) (yku p x))) (dec_at ykt) (fun p v K K1 => ylm k p v K K1)
theorem ylo {ρ : Type} (k : Nat) (p : Int × Int × Int × Int × Int × Int × List Int × Int × Int × Int × Int × Int × Int × Int × List Int × List Int × Int × Int × Int) (v : Int × Int) (K K1 : Ex → St → Option ρ) : ev (yk7 k) (ylj ρ k) 1 yka (ykz (p, v)) (fun e st' => match e with
    | .normal => (normC ykv ykw st').bind fun nf => K1 .normal (denorm ykv st'.n nf)
    | e => (normC (ykx e) (yky e) st').bind fun nf => K e (denorm (ykx e) st'.n nf)) = S_l03Item_g0 k p v (fun v' => K1 .normal (ykz (p, v'))) (fun x => K (.exit 1) (yl2 p x)) := by kernel_rfl
theorem ylp {ρ : Type} (k : Nat) : Sound Tryz.prog (.loop yka) (ylj ρ k 1 fun st K => ev (yk7 k) (ylj ρ k) 1 yka st K) :=
  loop_ok (ev_sound (yk8 k) yka 1 (lpgood_of (l := [(3, ykb)]) (by kernel_rfl) ⟨yln k, trivial⟩)) ykx yky k (g := fun p v next K => S_l03Item_g0 k p v next (fun x => K (.exit 1) (yl2 p x))) (dec_at yl1) (fun p v K K1 => ylo k p v K K1)
theorem ylq {ρ : Type} (k : Nat) (p : List Int) (v : Int × Int) (K K1 : Ex → St → Option ρ) : ev (yk7 k) (ylj ρ k) 7 ykd (yl7 (p, v)) (fun e st' => match e with
    | .normal => (normC yl3 yl4 st').bind fun nf => K1 .normal (denorm yl3 st'.n nf)
    | e => (normC (yl5 e) (yl6 e) st').bind fun nf => K e (denorm (yl5 e) st'.n nf)) = S_l03Item_g3 k p v (fun v' => K1 .normal (yl7 (p, v'))) (fun x => K (.exit 7) (yla p x)) := by kernel_rfl
theorem ylr {ρ : Type} (k : Nat) : Sound Tryz.prog (.loop ykd) (ylj ρ k 7 fun st K => ev (yk7 k) (ylj ρ k) 7 ykd st K) :=
  loop_ok (ev_sound (yk8 k) ykd 7 (lpgood_none (by kernel_rfl))) yl5 yl6 k (g := fun p v next K => S_l03Item_g3 k p v next (fun x => K (.exit 7) (yla p x))) (dec_at yl9) (fun p v K K1 => ylq k p v K K1)
theorem yls {ρ : Type} (k : Nat) (p : List Int) (v : Int × Int) (K K1 : Ex → St → Option ρ) : ev (yk7 k) (ylj ρ k) 9 yke (ylf (p, v)) (fun e st' => match e with
    | .normal => (normC ylb ylc st').bind fun nf => K1 .normal (denorm ylb st'.n nf)
    | e => (normC (yld e) (yle e) st').bind fun nf => K e (denorm (yld e) st'.n nf)) = S_l03Item_g4 k p v (fun v' => K1 .normal (ylf (p, v'))) (fun x => K (.exit 9) (yli p x)) := by kernel_rfl
theorem ylt {ρ : Type} (k : Nat) : Sound Tryz.prog (.loop yke) (ylj ρ k 9 fun st K => ev (yk7 k) (ylj ρ k) 9 yke st K) :=
  loop_ok (ev_sound (yk8 k) yke 9 (lpgood_none (by kernel_rfl))) yld yle k (g := fun p v next K => S_l03Item_g4 k p v next (fun x => K (.exit 9) (yli p x))) (dec_at ylh) (fun p v K K1 => yls k p v K K1)
def ylu (a : Tensor × Layer × Int × Int × Int) : List Arg := [.agg [.int .i64 a.1.sh.h, .int .i64 a.1.sh.w, .int .i64 a.1.sh.c, .sl (.int .i64) a.1.data], .agg [.int .i64 a.2.1.kind, .int .i64 a.2.1.out, .int .i64 a.2.1.size, .int .i64 a.2.1.step, .int .i64 a.2.1.mult, .int .i64 a.2.1.shift, .int .i64 a.2.1.zero, .sl (.int .i64) a.2.1.weights, .sl (.int .i64) a.2.1.bias], .one (.int .i64 a.2.2.1), .one (.int .i64 a.2.2.2.1), .one (.int .i64 a.2.2.2.2)]
def ylv (l : List Arg) : Option (Tensor × Layer × Int × Int × Int) := match l with
  | [.agg [.int .i64 b0_0, .int .i64 b0_1, .int .i64 b0_2, .sl (.int .i64) b0_3], .agg [.int .i64 b1_0, .int .i64 b1_1, .int .i64 b1_2, .int .i64 b1_3, .int .i64 b1_4, .int .i64 b1_5, .int .i64 b1_6, .sl (.int .i64) b1_7, .sl (.int .i64) b1_8], .one (.int .i64 b2), .one (.int .i64 b3), .one (.int .i64 b4)] => some ((⟨(⟨b0_0, b0_1, b0_2⟩ : Shape), b0_3⟩ : Tensor), (⟨b1_0, b1_1, b1_2, b1_3, b1_4, b1_5, b1_6, b1_7, b1_8⟩ : Layer), b2, b3, b4)
  | _ => none
def ylw (r : Int) : Out := (.r [] (.int .i64 r), [])
def ylx (o : Out) : Option (Int) := match o with
  | (.r [] (.int .i64 z1), []) => some z1
  | _ => none
def yly (k : Nat) : PG := fun _ l K => (ylv l).bind fun a => (S_l03Item k a.1 a.2.1 a.2.2.1 a.2.2.2.1 a.2.2.2.2).bind fun r => K (ylw r)
theorem ylz (k : Nat) (a : Tensor × Layer × Int × Int × Int) : ev (yk7 k) (ylj (Int) k) 0 yk9 (st0 Tryz.f64 (ylu a)) (fin Tryz.prog Tryz.f64 (.sc) ylx) = S_l03Item k a.1 a.2.1 a.2.2.1 a.2.2.2.1 a.2.2.2.2 := by kernel_rfl
theorem ym0 (k : Nat) : PureOk Tryz.prog 64 (yly k) :=
  pureOk_of_ev (yk8 k) Tryz.func64 (by kernel_rfl) (by kernel_rfl) ylu ylv
    (fun l a h => by unfold ylv at h; split at h <;> first | (cases h; rfl) | cases h) (fun a => rfl) (lpgood_of (l := [(1, yka), (7, ykd), (9, yke)]) (by kernel_rfl) ⟨ylp k, ⟨ylr k, ⟨ylt k, trivial⟩⟩⟩)
    (fun o r h => by unfold ylx at h; split at h <;> first | (cases h; rfl) | cases h) (ylz k)
def ym1 (k : Nat) : Orc := pureOrc [.agg [(.int .i64), (.int .i64), (.int .i64), (.sl (.int .i64))], .agg [(.int .i64), (.int .i64), (.int .i64), (.int .i64), (.int .i64), (.int .i64), (.int .i64), (.sl (.int .i64)), (.sl (.int .i64))], .one (.int .i64), .one (.int .i64), .one (.int .i64)] (yly k)
theorem ym2 (k : Nat) : OrcOk Tryz.prog 64 (ym1 k) := pureOrc_ok (ym0 k)
noncomputable def ym3 (k : Nat) : Env := { P := Tryz.prog, tt := tt, orc := fun g => cond (Nat.beq g 45) (yae k) (cond (Nat.beq g 63) (y90 k) (cond (Nat.beq g 64) (ym1 k) (noOrc))) }
theorem ym4 (k : Nat) : EnvOk (ym3 k) := fun g => (orc_cond (yaf k) (orc_cond (y91 k) (orc_cond (ym2 k) (noOrc_ok _ _))))
noncomputable def ym5 : Code := (Tryz.f37.body).getD .skip
noncomputable def ym6 : Code := ((loopsIn 0 ym5).getD 0 (0, .skip)).2
noncomputable def ym7 : Code := ((loopsIn 0 ym6).getD 0 (0, .skip)).2
noncomputable def ym8 : Code := ((loopsIn 2 ym7).getD 0 (0, .skip)).2
def ym9 : List Nat := [2, 3, 4, 6, 8, 9, 10, 11]
def yma : List (Where × Co) := []
def ymb : Ex → List Nat
  | .exit j => cond (Nat.beq j 4) [2, 3, 4, 6, 8, 9, 10] []
  | .ret => []
  | .normal => []
def ymc : Ex → List (Where × Co)
  | .exit j => cond (Nat.beq j 4) [] []
  | .ret => []
  | .normal => []
def ymd (pv : (Int × Int × Int × Int × Int × List Int × Int × Int × Int × Int × Int × Int × Int × List Int × List Int × Int × Int × Int × Int × Int × Int × Int × Int × Int) × (Int × List Int)) : St := { slots := [(2, .ptr 0 0 0), (3, .ptr 1 0 0), (4, .ptr 2 0 0), (6, .ptr 3 0 0), (8, .ptr 4 0 0), (9, .r [] (.int .i64 pv.1.1)), (10, .r [] (.int .i64 pv.1.2.1)), (11, .r [] (.int .i64 pv.2.1))], heap := [(0, .box [.r [] (.int .i64 pv.1.2.2.1), .r [] (.int .i64 pv.1.2.2.2.1), .r [] (.int .i64 pv.1.2.2.2.2.1), .r [] (.sl (.int .i64) pv.1.2.2.2.2.2.1)]), (1, .box [.r [] (.int .i64 pv.1.2.2.2.2.2.2.1), .r [] (.int .i64 pv.1.2.2.2.2.2.2.2.1), .r [] (.int .i64 pv.1.2.2.2.2.2.2.2.2.1), .r [] (.int .i64 pv.1.2.2.2.2.2.2.2.2.2.1), .r [] (.int .i64 pv.1.2.2.2.2.2.2.2.2.2.2.1), .r [] (.int .i64 pv.1.2.2.2.2.2.2.2.2.2.2.2.1), .r [] (.int .i64 pv.1.2.2.2.2.2.2.2.2.2.2.2.2.1), .r [] (.sl (.int .i64) pv.1.2.2.2.2.2.2.2.2.2.2.2.2.2.1), .r [] (.sl (.int .i64) pv.1.2.2.2.2.2.2.2.2.2.2.2.2.2.2.1)]), (2, .box [.r [] (.int .i64 pv.1.2.2.2.2.2.2.2.2.2.2.2.2.2.2.2.1), .r [] (.int .i64 pv.1.2.2.2.2.2.2.2.2.2.2.2.2.2.2.2.2.1), .r [] (.int .i64 pv.1.2.2.2.2.2.2.2.2.2.2.2.2.2.2.2.2.2.1), .nilS]), (3, .box [.r [] (.int .i64 pv.1.2.2.2.2.2.2.2.2.2.2.2.2.2.2.2.2.2.2.1), .r [] (.int .i64 pv.1.2.2.2.2.2.2.2.2.2.2.2.2.2.2.2.2.2.2.2.1), .r [] (.int .i64 pv.1.2.2.2.2.2.2.2.2.2.2.2.2.2.2.2.2.2.2.2.2.1)]), (4, .box [.r [] (.int .i64 pv.1.2.2.2.2.2.2.2.2.2.2.2.2.2.2.2.2.2.2.2.2.2.1), .r [] (.int .i64 pv.1.2.2.2.2.2.2.2.2.2.2.2.2.2.2.2.2.2.2.2.2.2.2.1), .r [] (.int .i64 pv.1.2.2.2.2.2.2.2.2.2.2.2.2.2.2.2.2.2.2.2.2.2.2.2), .own 5]), (5, .arr none (.int .i64) pv.2.2)], nid := 6, n := 58, gh := [] }
def yme (nf : NF) : Option ((Int × Int × Int × Int × Int × List Int × Int × Int × Int × Int × Int × Int × Int × List Int × List Int × Int × Int × Int × Int × Int × Int × Int × Int × Int) × (Int × List Int)) := match nf with
  | ([.ptr 0 0 0, .ptr 1 0 0, .ptr 2 0 0, .ptr 3 0 0, .ptr 4 0 0, .r [] (.int .i64 w0), .r [] (.int .i64 w1), .r [] (.int .i64 w2)], [.box [.r [] (.int .i64 w3), .r [] (.int .i64 w4), .r [] (.int .i64 w5), .r [] (.sl (.int .i64) w6)], .box [.r [] (.int .i64 w7), .r [] (.int .i64 w8), .r [] (.int .i64 w9), .r [] (.int .i64 w10), .r [] (.int .i64 w11), .r [] (.int .i64 w12), .r [] (.int .i64 w13), .r [] (.sl (.int .i64) w14), .r [] (.sl (.int .i64) w15)], .box [.r [] (.int .i64 w16), .r [] (.int .i64 w17), .r [] (.int .i64 w18), .nilS], .box [.r [] (.int .i64 w19), .r [] (.int .i64 w20), .r [] (.int .i64 w21)], .box [.r [] (.int .i64 w22), .r [] (.int .i64 w23), .r [] (.int .i64 w24), .own 5], .arr none (.int .i64) w25], []) => some ((w0, w1, w3, w4, w5, w6, w7, w8, w9, w10, w11, w12, w13, w14, w15, w16, w17, w18, w19, w20, w21, w22, w23, w24), (w2, w25))
  | _ => none
theorem ymf (nf : NF) (v : (Int × Int × Int × Int × Int × List Int × Int × Int × Int × Int × Int × Int × Int × List Int × List Int × Int × Int × Int × Int × Int × Int × Int × Int × Int) × (Int × List Int)) (h : yme nf = some v) : denorm ym9 58 nf = ymd v := by
  unfold yme at h
  split at h
  · cases h; rfl
  · cases h
def ymg (p : Int × Int × Int × Int × Int × List Int × Int × Int × Int × Int × Int × Int × Int × List Int × List Int × Int × Int × Int × Int × Int × Int × Int × Int × Int) (x : List Int) : St := { slots := [(2, .ptr 0 0 0), (3, .ptr 1 0 0), (4, .ptr 2 0 0), (6, .ptr 3 0 0), (8, .ptr 4 0 0), (9, .r [] (.int .i64 p.1)), (10, .r [] (.int .i64 p.2.1))], heap := [(0, .box [.r [] (.int .i64 p.2.2.1), .r [] (.int .i64 p.2.2.2.1), .r [] (.int .i64 p.2.2.2.2.1), .r [] (.sl (.int .i64) p.2.2.2.2.2.1)]), (1, .box [.r [] (.int .i64 p.2.2.2.2.2.2.1), .r [] (.int .i64 p.2.2.2.2.2.2.2.1), .r [] (.int .i64 p.2.2.2.2.2.2.2.2.1), .r [] (.int .i64 p.2.2.2.2.2.2.2.2.2.1), .r [] (.int .i64 p.2.2.2.2.2.2.2.2.2.2.1), .r [] (.int .i64 p.2.2.2.2.2.2.2.2.2.2.2.1), .r [] (.int .i64 p.2.2.2.2.2.2.2.2.2.2.2.2.1), .r [] (.sl (.int .i64) p.2.2.2.2.2.2.2.2.2.2.2.2.2.1), .r [] (.sl (.int .i64) p.2.2.2.2.2.2.2.2.2.2.2.2.2.2.1)]), (2, .box [.r [] (.int .i64 p.2.2.2.2.2.2.2.2.2.2.2.2.2.2.2.1), .r [] (.int .i64 p.2.2.2.2.2.2.2.2.2.2.2.2.2.2.2.2.1), .r [] (.int .i64 p.2.2.2.2.2.2.2.2.2.2.2.2.2.2.2.2.2.1), .nilS]), (3, .box [.r [] (.int .i64 p.2.2.2.2.2.2.2.2.2.2.2.2.2.2.2.2.2.2.1), .r [] (.int .i64 p.2.2.2.2.2.2.2.2.2.2.2.2.2.2.2.2.2.2.2.1), .r [] (.int .i64 p.2.2.2.2.2.2.2.2.2.2.2.2.2.2.2.2.2.2.2.2.1)]), (4, .box [.r [] (.int .i64 p.2.2.2.2.2.2.2.2.2.2.2.2.2.2.2.2.2.2.2.2.2.1), .r [] (.int .i64 p.2.2.2.2.2.2.2.2.2.2.2.2.2.2.2.2.2.2.2.2.2.2.1), .r [] (.int .i64 p.2.2.2.2.2.2.2.2.2.2.2.2.2.2.2.2.2.2.2.2.2.2.2), .own 5]), (5, .arr none (.int .i64) x)], nid := 6, n := 58, gh := [] }
def ymh : List Nat := [2, 3, 4, 6, 8, 9, 10]
def ymi : List (Where × Co) := []
def ymj : Ex → List Nat
  | .exit j => cond (Nat.beq j 2) [2, 3, 4, 6, 8, 9] []
  | .ret => []
  | .normal => []
def ymk : Ex → List (Where × Co)
  | .exit j => cond (Nat.beq j 2) [] []
  | .ret => []
  | .normal => []
def yml (pv : (Int × Int × Int × Int × List Int × Int × Int × Int × Int × Int × Int × Int × List Int × List Int × Int × Int × Int × Int × Int × Int × Int × Int × Int) × (Int × List Int)) : St := { slots := [(2, .ptr 0 0 0), (3, .ptr 1 0 0), (4, .ptr 2 0 0), (6, .ptr 3 0 0), (8, .ptr 4 0 0), (9, .r [] (.int .i64 pv.1.1)), (10, .r [] (.int .i64 pv.2.1))], heap := [(0, .box [.r [] (.int .i64 pv.1.2.1), .r [] (.int .i64 pv.1.2.2.1), .r [] (.int .i64 pv.1.2.2.2.1), .r [] (.sl (.int .i64) pv.1.2.2.2.2.1)]), (1, .box [.r [] (.int .i64 pv.1.2.2.2.2.2.1), .r [] (.int .i64 pv.1.2.2.2.2.2.2.1), .r [] (.int .i64 pv.1.2.2.2.2.2.2.2.1), .r [] (.int .i64 pv.1.2.2.2.2.2.2.2.2.1), .r [] (.int .i64 pv.1.2.2.2.2.2.2.2.2.2.1), .r [] (.int .i64 pv.1.2.2.2.2.2.2.2.2.2.2.1), .r [] (.int .i64 pv.1.2.2.2.2.2.2.2.2.2.2.2.1), .r [] (.sl (.int .i64) pv.1.2.2.2.2.2.2.2.2.2.2.2.2.1), .r [] (.sl (.int .i64) pv.1.2.2.2.2.2.2.2.2.2.2.2.2.2.1)]), (2, .box [.r [] (.int .i64 pv.1.2.2.2.2.2.2.2.2.2.2.2.2.2.2.1), .r [] (.int .i64 pv.1.2.2.2.2.2.2.2.2.2.2.2.2.2.2.2.1), .r [] (.int .i64 pv.1.2.2.2.2.2.2.2.2.2.2.2.2.2.2.2.2.1), .nilS]), (3, .box [.r [] (.int .i64 pv.1.2.2.2.2.2.2.2.2.2.2.2.2.2.2.2.2.2.1), .r [] (.int .i64 pv.1.2.2.2.2.2.2.2.2.2.2.2.2.2.2.2.2.2.2.1), .r [] (.int .i64 pv.1.2.2.2.2.2.2.2.2.2.2.2.2.2.2.2.2.2.2.2.1)]), (4, .box [.r [] (.int .i64 pv.1.2.2.2.2.2.2.2.2.2.2.2.2.2.2.2.2.2.2.2.2.1), .r [] (.int .i64 pv.1.2.2.2.2.2.2.2.2.2.2.2.2.2.2.2.2.2.2.2.2.2.1), .r [] (.int .i64 pv.1.2.2.2.2.2.2.2.2.2.2.2.2.2.2.2.2.2.2.2.2.2.2), .own 5]), (5, .arr none (.int .i64) pv.2.2)], nid := 6, n := 58, gh := [] }
def ymm (nf : NF) : Option ((Int × Int × Int × Int × List Int × Int × Int × Int × Int × Int × Int × Int × List Int × List Int × Int × Int × Int × Int × Int × Int × Int × Int × Int) × (Int × List Int)) := match nf with
  | ([.ptr 0 0 0, .ptr 1 0 0, .ptr 2 0 0, .ptr 3 0 0, .ptr 4 0 0, .r [] (.int .i64 w0), .r [] (.int .i64 w1)], [.box [.r [] (.int .i64 w2), .r [] (.int .i64 w3), .r [] (.int .i64 w4), .r [] (.sl (.int .i64) w5)], .box [.r [] (.int .i64 w6), .r [] (.int .i64 w7), .r [] (.int .i64 w8), .r [] (.int .i64 w9), .r [] (.int .i64 w10), .r [] (.int .i64 w11), .r [] (.int .i64 w12), .r [] (.sl (.int .i64) w13), .r [] (.sl (.int .i64) w14)], .box [.r [] (.int .i64 w15), .r [] (.int .i64 w16), .r [] (.int .i64 w17), .nilS], .box [.r [] (.int .i64 w18), .r [] (.int .i64 w19), .r [] (.int .i64 w20)], .box [.r [] (.int .i64 w21), .r [] (.int .i64 w22), .r [] (.int .i64 w23), .own 5], .arr none (.int .i64) w24], []) => some ((w0, w2, w3, w4, w5, w6, w7, w8, w9, w10, w11, w12, w13, w14, w15, w16, w17, w18, w19, w20, w21, w22, w23), (w1, w24))
  | _ => none
theorem ymn (nf : NF) (v : (Int × Int × Int × Int × List Int × Int × Int × Int × Int × Int × Int × Int × List Int × List Int × Int × Int × Int × Int × Int × Int × Int × Int × Int) × (Int × List Int)) (h : ymm nf = some v) : denorm ymh 58 nf = yml v := by
  unfold ymm at h
  split at h
  · cases h; rfl
  · cases h
def ymo (p : Int × Int × Int × Int × List Int × Int × Int × Int × Int × Int × Int × Int × List Int × List Int × Int × Int × Int × Int × Int × Int × Int × Int × Int) (x : List Int) : St := { slots := [(2, .ptr 0 0 0), (3, .ptr 1 0 0), (4, .ptr 2 0 0), (6, .ptr 3 0 0), (8, .ptr 4 0 0), (9, .r [] (.int .i64 p.1))], heap := [(0, .box [.r [] (.int .i64 p.2.1), .r [] (.int .i64 p.2.2.1), .r [] (.int .i64 p.2.2.2.1), .r [] (.sl (.int .i64) p.2.2.2.2.1)]), (1, .box [.r [] (.int .i64 p.2.2.2.2.2.1), .r [] (.int .i64 p.2.2.2.2.2.2.1), .r [] (.int .i64 p.2.2.2.2.2.2.2.1), .r [] (.int .i64 p.2.2.2.2.2.2.2.2.1), .r [] (.int .i64 p.2.2.2.2.2.2.2.2.2.1), .r [] (.int .i64 p.2.2.2.2.2.2.2.2.2.2.1), .r [] (.int .i64 p.2.2.2.2.2.2.2.2.2.2.2.1), .r [] (.sl (.int .i64) p.2.2.2.2.2.2.2.2.2.2.2.2.1), .r [] (.sl (.int .i64) p.2.2.2.2.2.2.2.2.2.2.2.2.2.1)]), (2, .box [.r [] (.int .i64 p.2.2.2.2.2.2.2.2.2.2.2.2.2.2.1), .r [] (.int .i64 p.2.2.2.2.2.2.2.2.2.2.2.2.2.2.2.1), .r [] (.int .i64 p.2.2.2.2.2.2.2.2.2.2.2.2.2.2.2.2.1), .nilS]), (3, .box [.r [] (.int .i64 p.2.2.2.2.2.2.2.2.2.2.2.2.2.2.2.2.2.1), .r [] (.int .i64 p.2.2.2.2.2.2.2.2.2.2.2.2.2.2.2.2.2.2.1), .r [] (.int .i64 p.2.2.2.2.2.2.2.2.2.2.2.2.2.2.2.2.2.2.2.1)]), (4, .box [.r [] (.int .i64 p.2.2.2.2.2.2.2.2.2.2.2.2.2.2.2.2.2.2.2.2.1), .r [] (.int .i64 p.2.2.2.2.2.2.2.2.2.2.2.2.2.2.2.2.2.2.2.2.2.1), .r [] (.int .i64 p.2.2.2.2.2.2.2.2.2.2.2.2.2.2.2.2.2.2.2.2.2.2), .own 5]), (5, .arr none (.int .i64) x)], nid := 6, n := 58, gh := [] }
def ymp : List Nat := [2, 3, 4, 6, 8, 9]
def ymq : List (Where × Co) := [((.pbox 8 3), (.nilOwn false (.int .i64)))]
def ymr : Ex → List Nat
  | .exit j => cond (Nat.beq j 0) [4, 8] []
  | .ret => []
  | .normal => []
def yms : Ex → List (Where × Co)
  | .exit j => cond (Nat.beq j 0) [] []
  | .ret => []
  | .normal => []
def ymt (pv : (Int × Int × Int × List Int × Int × Int × Int × Int × Int × Int × Int × List Int × List Int × Int × Int × Int × Int × Int × Int × Int × Int × Int) × (Int × List Int)) : St := { slots := [(2, .ptr 0 0 0), (3, .ptr 1 0 0), (4, .ptr 2 0 0), (6, .ptr 3 0 0), (8, .ptr 4 0 0), (9, .r [] (.int .i64 pv.2.1))], heap := [(0, .box [.r [] (.int .i64 pv.1.1), .r [] (.int .i64 pv.1.2.1), .r [] (.int .i64 pv.1.2.2.1), .r [] (.sl (.int .i64) pv.1.2.2.2.1)]), (1, .box [.r [] (.int .i64 pv.1.2.2.2.2.1), .r [] (.int .i64 pv.1.2.2.2.2.2.1), .r [] (.int .i64 pv.1.2.2.2.2.2.2.1), .r [] (.int .i64 pv.1.2.2.2.2.2.2.2.1), .r [] (.int .i64 pv.1.2.2.2.2.2.2.2.2.1), .r [] (.int .i64 pv.1.2.2.2.2.2.2.2.2.2.1), .r [] (.int .i64 pv.1.2.2.2.2.2.2.2.2.2.2.1), .r [] (.sl (.int .i64) pv.1.2.2.2.2.2.2.2.2.2.2.2.1), .r [] (.sl (.int .i64) pv.1.2.2.2.2.2.2.2.2.2.2.2.2.1)]), (2, .box [.r [] (.int .i64 pv.1.2.2.2.2.2.2.2.2.2.2.2.2.2.1), .r [] (.int .i64 pv.1.2.2.2.2.2.2.2.2.2.2.2.2.2.2.1), .r [] (.int .i64 pv.1.2.2.2.2.2.2.2.2.2.2.2.2.2.2.2.1), .nilS]), (3, .box [.r [] (.int .i64 pv.1.2.2.2.2.2.2.2.2.2.2.2.2.2.2.2.2.1), .r [] (.int .i64 pv.1.2.2.2.2.2.2.2.2.2.2.2.2.2.2.2.2.2.1), .r [] (.int .i64 pv.1.2.2.2.2.2.2.2.2.2.2.2.2.2.2.2.2.2.2.1)]), (4, .box [.r [] (.int .i64 pv.1.2.2.2.2.2.2.2.2.2.2.2.2.2.2.2.2.2.2.2.1), .r [] (.int .i64 pv.1.2.2.2.2.2.2.2.2.2.2.2.2.2.2.2.2.2.2.2.2.1), .r [] (.int .i64 pv.1.2.2.2.2.2.2.2.2.2.2.2.2.2.2.2.2.2.2.2.2.2), .own 5]), (5, .arr none (.int .i64) pv.2.2)], nid := 6, n := 58, gh := [] }
def ymu (nf : NF) : Option ((Int × Int × Int × List Int × Int × Int × Int × Int × Int × Int × Int × List Int × List Int × Int × Int × Int × Int × Int × Int × Int × Int × Int) × (Int × List Int)) := match nf with
  | ([.ptr 0 0 0, .ptr 1 0 0, .ptr 2 0 0, .ptr 3 0 0, .ptr 4 0 0, .r [] (.int .i64 w0)], [.box [.r [] (.int .i64 w1), .r [] (.int .i64 w2), .r [] (.int .i64 w3), .r [] (.sl (.int .i64) w4)], .box [.r [] (.int .i64 w5), .r [] (.int .i64 w6), .r [] (.int .i64 w7), .r [] (.int .i64 w8), .r [] (.int .i64 w9), .r [] (.int .i64 w10), .r [] (.int .i64 w11), .r [] (.sl (.int .i64) w12), .r [] (.sl (.int .i64) w13)], .box [.r [] (.int .i64 w14), .r [] (.int .i64 w15), .r [] (.int .i64 w16), .nilS], .box [.r [] (.int .i64 w17), .r [] (.int .i64 w18), .r [] (.int .i64 w19)], .box [.r [] (.int .i64 w20), .r [] (.int .i64 w21), .r [] (.int .i64 w22), .own 5], .arr none (.int .i64) w23], []) => some ((w1, w2, w3, w4, w5, w6, w7, w8, w9, w10, w11, w12, w13, w14, w15, w16, w17, w18, w19, w20, w21, w22), (w0, w23))
  | _ => none
theorem ymv (nf : NF) (v : (Int × Int × Int × List Int × Int × Int × Int × Int × Int × Int × Int × List Int × List Int × Int × Int × Int × Int × Int × Int × Int × Int × Int) × (Int × List Int)) (h : ymu nf = some v) : denorm ymp 58 nf = ymt v := by
  unfold ymu at h
  split at h
  · cases h; rfl
  · cases h
def ymw (p : Int × Int × Int × List Int × Int × Int × Int × Int × Int × Int × Int × List Int × List Int × Int × Int × Int × Int × Int × Int × Int × Int × Int) (x : List Int) : St := { slots := [(4, .ptr 0 0 0), (8, .ptr 1 0 0)], heap := [(0, .box [.r [] (.int .i64 p.2.2.2.2.2.2.2.2.2.2.2.2.2.1), .r [] (.int .i64 p.2.2.2.2.2.2.2.2.2.2.2.2.2.2.1), .r [] (.int .i64 p.2.2.2.2.2.2.2.2.2.2.2.2.2.2.2.1), .nilS]), (1, .box [.r [] (.int .i64 p.2.2.2.2.2.2.2.2.2.2.2.2.2.2.2.2.2.2.2.1), .r [] (.int .i64 p.2.2.2.2.2.2.2.2.2.2.2.2.2.2.2.2.2.2.2.2.1), .r [] (.int .i64 p.2.2.2.2.2.2.2.2.2.2.2.2.2.2.2.2.2.2.2.2.2), .own 2]), (2, .arr none (.int .i64) x)], nid := 3, n := 58, gh := [] }
def ymx (ρ : Type) (k : Nat) : Nat → Ev ρ → Ev ρ := fun id f => cond (Nat.beq id 0) (loopOrc ymp ymq (fun n nf => cond (Nat.beq n 58) (ymu nf) none) fun pv K => iter (fun v next => S_RunLayer_g0 k pv.1 v next (fun x => K (.exit 0) (ymw pv.1 x))) k pv.2) ((fun id f => cond (Nat.beq id 2) (loopOrc ymh ymi (fun n nf => cond (Nat.beq n 58) (ymm nf) none) fun pv K => iter (fun v next => S_RunLayer_g1 k pv.1 v next (fun x => K (.exit 2) (ymo pv.1 x))) k pv.2) ((fun id f => cond (Nat.beq id 4) (loopOrc ym9 yma (fun n nf => cond (Nat.beq n 58) (yme nf) none) fun pv K => iter (fun v next => S_RunLayer_g2 k pv.1 v next (fun x => K (.exit 4) (ymg pv.1 x))) k pv.2) ((fun _ _ _ _ => none) id f)) id f)) id f)
theorem ymy {ρ : Type} (k : Nat) (p : Int × Int × Int × Int × Int × List Int × Int × Int × Int × Int × Int × Int × Int × List Int × List Int × Int × Int × Int × Int × Int × Int × Int × Int × Int) (v : Int × List Int) (K K1 : Ex → St → Option ρ) : ev (ym3 k) (ymx ρ k) 4 ym8 (ymd (p, v)) (fun e st' => match e with
    | .normal => (normC ym9 yma st').bind fun nf => K1 .normal (denorm ym9 st'.n nf)
    | e => (normC (ymb e) (ymc e) st').bind fun nf => K e (denorm (ymb e) st'.n nf)) = S_RunLayer_g2 k p v (fun v' => K1 .normal (ymd (p, v'))) (fun x => K (.exit 4) (ymg p x)) := by kernel_rfl
theorem ymz {ρ : Type} (k : Nat) : Sound Tryz.prog (.loop ym8) (ymx ρ k 4 fun st K => ev (ym3 k) (ymx ρ k) 4 ym8 st K) :=
  loop_ok (ev_sound (ym4 k) ym8 4 (lpgood_none (by kernel_rfl))) ymb ymc k (g := fun p v next K => S_RunLayer_g2 k p v next (fun x => K (.exit 4) (ymg p x))) (dec_at ymf) (fun p v K K1 => ymy k p v K K1)
theorem yn0 {ρ : Type} (k : Nat) (p : Int × Int × Int × Int × List Int × Int × Int × Int × Int × Int × Int × Int × List Int × List Int × Int × Int × Int × Int × Int × Int × Int × Int × Int) (v : Int × List Int) (K K1 : Ex → St → Option ρ) : ev (ym3 k) (ymx ρ k) 2 ym7 (yml (p, v)) (fun e st' => match e with
    | .normal => (normC ymh ymi st').bind fun nf => K1 .normal (denorm ymh st'.n nf)
    | e => (normC (ymj e) (ymk e) st').bind fun nf => K e (denorm (ymj e) st'.n nf)) = S_RunLayer_g1 k p v (fun v' => K1 .normal (yml (p, v'))) (fun x => K (.exit 2) (ymo p x)) := by kernel_rfl
theorem yn1 {ρ : Type} (k : Nat) : Sound Tryz.prog (.loop ym7) (ymx ρ k 2 fun st K => ev (ym3 k) (ymx ρ k) 2 ym7 st K) :=
  loop_ok (ev_sound (ym4 k) ym7 2 (lpgood_of (l := [(4, ym8)]) (by kernel_rfl) ⟨ymz k, trivial⟩)) ymj ymk k (g := fun p v next K => S_RunLayer_g1 k p v next (fun x => K (.exit 2) (ymo p x))) (dec_at ymn) (fun p v K K1 => yn0 k p v K K1)
theorem yn2 {ρ : Type} (k : Nat) (p : Int × Int × Int × List Int × Int × Int × Int × Int × Int × Int × Int × List Int × List Int × Int × Int × Int × Int × Int × Int × Int × Int × Int) (v : Int × List Int) (K K1 : Ex → St → Option ρ) : ev (ym3 k) (ymx ρ k) 0 ym6 (ymt (p, v)) (fun e st' => match e with
    | .normal => (normC ymp ymq st').bind fun nf => K1 .normal (denorm ymp st'.n nf)
    | e => (normC (ymr e) (yms e) st').bind fun nf => K e (denorm (ymr e) st'.n nf)) = S_RunLayer_g0 k p v (fun v' => K1 .normal (ymt (p, v'))) (fun x => K (.exit 0) (ymw p x)) := by kernel_rfl
theorem yn3 {ρ : Type} (k : Nat) : Sound Tryz.prog (.loop ym6) (ymx ρ k 0 fun st K => ev (ym3 k) (ymx ρ k) 0 ym6 st K) :=
  loop_ok (ev_sound (ym4 k) ym6 0 (lpgood_of (l := [(2, ym7)]) (by kernel_rfl) ⟨yn1 k, trivial⟩)) ymr yms k (g := fun p v next K => S_RunLayer_g0 k p v next (fun x => K (.exit 0) (ymw p x))) (dec_at ymv) (fun p v K K1 => yn2 k p v K K1)
def yn4 (a : Tensor × Layer) : List Arg := [.agg [.int .i64 a.1.sh.h, .int .i64 a.1.sh.w, .int .i64 a.1.sh.c, .sl (.int .i64) a.1.data], .agg [.int .i64 a.2.kind, .int .i64 a.2.out, .int .i64 a.2.size, .int .i64 a.2.step, .int .i64 a.2.mult, .int .i64 a.2.shift, .int .i64 a.2.zero, .sl (.int .i64) a.2.weights, .sl (.int .i64) a.2.bias]]
def yn5 (l : List Arg) : Option (Tensor × Layer) := match l with
  | [.agg [.int .i64 b0_0, .int .i64 b0_1, .int .i64 b0_2, .sl (.int .i64) b0_3], .agg [.int .i64 b1_0, .int .i64 b1_1, .int .i64 b1_2, .int .i64 b1_3, .int .i64 b1_4, .int .i64 b1_5, .int .i64 b1_6, .sl (.int .i64) b1_7, .sl (.int .i64) b1_8]] => some ((⟨(⟨b0_0, b0_1, b0_2⟩ : Shape), b0_3⟩ : Tensor), (⟨b1_0, b1_1, b1_2, b1_3, b1_4, b1_5, b1_6, b1_7, b1_8⟩ : Layer))
  | _ => none
def yn6 (r : Tensor × Bool) : Out := (.tup [.agg [.r [] (.int .i64 r.1.sh.h), .r [] (.int .i64 r.1.sh.w), .r [] (.int .i64 r.1.sh.c), .own 0], .r [] (.bool r.2)], [.arr none (.int .i64) r.1.data])
def yn7 (o : Out) : Option (Tensor × Bool) := match o with
  | (.tup [.agg [.r [] (.int .i64 z1), .r [] (.int .i64 z2), .r [] (.int .i64 z3), .own 0], .r [] (.bool z5)], [.arr none (.int .i64) z4]) => some ((⟨(⟨z1, z2, z3⟩ : Shape), z4⟩ : Tensor), z5)
  | _ => none
def yn8 (k : Nat) : PG := fun _ l K => (yn5 l).bind fun a => (S_RunLayer k a.1 a.2).bind fun r => K (yn6 r)
theorem yn9 (k : Nat) (a : Tensor × Layer) : ev (ym3 k) (ymx (Tensor × Bool) k) 0 ym5 (st0 Tryz.f37 (yn4 a)) (fin Tryz.prog Tryz.f37 (.tup [.agg [.sc, .sc, .sc, .own (.int .i64)], .sc]) yn7) = S_RunLayer k a.1 a.2 := by kernel_rfl
theorem yna (k : Nat) : PureOk Tryz.prog 37 (yn8 k) :=
  pureOk_of_ev (ym4 k) Tryz.func37 (by kernel_rfl) (by kernel_rfl) yn4 yn5
    (fun l a h => by unfold yn5 at h; split at h <;> first | (cases h; rfl) | cases h) (fun a => rfl) (lpgood_of (l := [(0, ym6)]) (by kernel_rfl) ⟨yn3 k, trivial⟩)
    (fun o r h => by unfold yn7 at h; split at h <;> first | (cases h; rfl) | cases h) (yn9 k)
def ynb (k : Nat) : Orc := pureOrc [.agg [(.int .i64), (.int .i64), (.int .i64), (.sl (.int .i64))], .agg [(.int .i64), (.int .i64), (.int .i64), (.int .i64), (.int .i64), (.int .i64), (.int .i64), (.sl (.int .i64)), (.sl (.int .i64))]] (yn8 k)
theorem ync (k : Nat) : OrcOk Tryz.prog 37 (ynb k) := pureOrc_ok (yna k)
noncomputable def ynd (k : Nat) : Env := { P := Tryz.prog, tt := tt, orc := fun g => cond (Nat.beq g 22) (yc3 k) (cond (Nat.beq g 46) (ybf k) (noOrc)) }
theorem yne (k : Nat) : EnvOk (ynd k) := fun g => (orc_cond (yc4 k) (orc_cond (ybg k) (noOrc_ok _ _)))
noncomputable def ynf : Code := (Tryz.f65.body).getD .skip
noncomputable def yng : Code := ((loopsIn 0 ynf).getD 0 (0, .skip)).2
def ynh : List Nat := [3, 4, 5]
def yni : List (Where × Co) := []
def ynj : Ex → List Nat
  | .exit j => cond (Nat.beq j 0) [3] []
  | .ret => []
  | .normal => []
def ynk : Ex → List (Where × Co)
  | .exit j => cond (Nat.beq j 0) [] []
  | .ret => []
  | .normal => []
def ynl (pv : (List Int) × (Int × List Int)) : St := { slots := [(3, .own 0), (4, .own 1), (5, .r [] (.int .i64 pv.2.1))], heap := [(0, .arr none (.int .i64) pv.2.2), (1, .arr none (.int .i64) pv.1)], nid := 2, n := 29, gh := [] }
def ynm (nf : NF) : Option ((List Int) × (Int × List Int)) := match nf with
  | ([.own 0, .own 1, .r [] (.int .i64 w0)], [.arr none (.int .i64) w1, .arr none (.int .i64) w2], []) => some (w2, (w0, w1))
  | _ => none
theorem ynn (nf : NF) (v : (List Int) × (Int × List Int)) (h : ynm nf = some v) : denorm ynh 29 nf = ynl v := by
  unfold ynm at h
  split at h
  · cases h; rfl
  · cases h
def yno (p : List Int) (x : List Int) : St := { slots := [(3, .own 0)], heap := [(0, .arr none (.int .i64) x)], nid := 1, n := 29, gh := [] }
def ynp (ρ : Type) (k : Nat) : Nat → Ev ρ → Ev ρ := fun id f => cond (Nat.beq id 0) (loopOrc ynh yni (fun n nf => cond (Nat.beq n 29) (ynm nf) none) fun pv K => iter (fun v next => S_LeftOf_g0 k pv.1 v next (fun x => K (.exit 0) (yno pv.1 x))) k pv.2) ((fun _ _ _ _ => none) id f)
theorem ynq {ρ : Type} (k : Nat) (p : List Int) (v : Int × List Int) (K K1 : Ex → St → Option ρ) : ev (ynd k) (ynp ρ k) 0 yng (ynl (p, v)) (fun e st' => match e with
    | .normal => (normC ynh yni st').bind fun nf => K1 .normal (denorm ynh st'.n nf)
    | e => (normC (ynj e) (ynk e) st').bind fun nf => K e (denorm (ynj e) st'.n nf)) = S_LeftOf_g0 k p v (fun v' => K1 .normal (ynl (p, v'))) (fun x => K (.exit 0) (yno p x)) := by kernel_rfl
theorem ynr {ρ : Type} (k : Nat) : Sound Tryz.prog (.loop yng) (ynp ρ k 0 fun st K => ev (ynd k) (ynp ρ k) 0 yng st K) :=
  loop_ok (ev_sound (yne k) yng 0 (lpgood_none (by kernel_rfl))) ynj ynk k (g := fun p v next K => S_LeftOf_g0 k p v next (fun x => K (.exit 0) (yno p x))) (dec_at ynn) (fun p v K K1 => ynq k p v K K1)
def yns (a : Job) : List Arg := [.agg [.int .i64 a.model.inp.h, .int .i64 a.model.inp.w, .int .i64 a.model.inp.c, .sl (.st .layer) a.model.layers, .int .i64 a.at_, .int .i64 a.act.sh.h, .int .i64 a.act.sh.w, .int .i64 a.act.sh.c, .sl (.int .i64) a.act.data, .int .i64 a.spent]]
def ynt (l : List Arg) : Option (Job) := match l with
  | [.agg [.int .i64 b0_0, .int .i64 b0_1, .int .i64 b0_2, .sl (.st .layer) b0_3, .int .i64 b0_4, .int .i64 b0_5, .int .i64 b0_6, .int .i64 b0_7, .sl (.int .i64) b0_8, .int .i64 b0_9]] => some (⟨(⟨(⟨b0_0, b0_1, b0_2⟩ : Shape), b0_3⟩ : Model), b0_4, (⟨(⟨b0_5, b0_6, b0_7⟩ : Shape), b0_8⟩ : Tensor), b0_9⟩ : Job)
  | _ => none
def ynu (r : List Int) : Out := (.own 0, [.arr none (.int .i64) r])
def ynv (o : Out) : Option (List Int) := match o with
  | (.own 0, [.arr none (.int .i64) z1]) => some z1
  | _ => none
def ynw (k : Nat) : PG := fun _ l K => (ynt l).bind fun a => (S_LeftOf k a).bind fun r => K (ynu r)
theorem ynx (k : Nat) (a : Job) : ev (ynd k) (ynp (List Int) k) 0 ynf (st0 Tryz.f65 (yns a)) (fin Tryz.prog Tryz.f65 (.own (.int .i64)) ynv) = S_LeftOf k a := by kernel_rfl
theorem yny (k : Nat) : PureOk Tryz.prog 65 (ynw k) :=
  pureOk_of_ev (yne k) Tryz.func65 (by kernel_rfl) (by kernel_rfl) yns ynt
    (fun l a h => by unfold ynt at h; split at h <;> first | (cases h; rfl) | cases h) (fun a => rfl) (lpgood_of (l := [(0, yng)]) (by kernel_rfl) ⟨ynr k, trivial⟩)
    (fun o r h => by unfold ynv at h; split at h <;> first | (cases h; rfl) | cases h) (ynx k)
def ynz (k : Nat) : Orc := pureOrc [.agg [(.int .i64), (.int .i64), (.int .i64), (.sl (.st .layer)), (.int .i64), (.int .i64), (.int .i64), (.int .i64), (.sl (.int .i64)), (.int .i64)]] (ynw k)
theorem yo0 (k : Nat) : OrcOk Tryz.prog 65 (ynz k) := pureOrc_ok (yny k)
noncomputable def yo1 (k : Nat) : Env := { P := Tryz.prog, tt := tt, orc := fun g => cond (Nat.beq g 65) (ynz k) (noOrc) }
theorem yo2 (k : Nat) : EnvOk (yo1 k) := fun g => (orc_cond (yo0 k) (noOrc_ok _ _))
noncomputable def yo3 : Code := (Tryz.f38.body).getD .skip
def yo4 (ρ : Type) (k : Nat) : Nat → Ev ρ → Ev ρ := fun _ _ _ _ => none
def yo5 (a : Job) : List Arg := [.agg [.int .i64 a.model.inp.h, .int .i64 a.model.inp.w, .int .i64 a.model.inp.c, .sl (.st .layer) a.model.layers, .int .i64 a.at_, .int .i64 a.act.sh.h, .int .i64 a.act.sh.w, .int .i64 a.act.sh.c, .sl (.int .i64) a.act.data, .int .i64 a.spent]]
def yo6 (l : List Arg) : Option (Job) := match l with
  | [.agg [.int .i64 b0_0, .int .i64 b0_1, .int .i64 b0_2, .sl (.st .layer) b0_3, .int .i64 b0_4, .int .i64 b0_5, .int .i64 b0_6, .int .i64 b0_7, .sl (.int .i64) b0_8, .int .i64 b0_9]] => some (⟨(⟨(⟨b0_0, b0_1, b0_2⟩ : Shape), b0_3⟩ : Model), b0_4, (⟨(⟨b0_5, b0_6, b0_7⟩ : Shape), b0_8⟩ : Tensor), b0_9⟩ : Job)
  | _ => none
def yo7 (r : Int) : Out := (.r [] (.int .i64 r), [])
def yo8 (o : Out) : Option (Int) := match o with
  | (.r [] (.int .i64 z1), []) => some z1
  | _ => none
def yo9 (k : Nat) : PG := fun _ l K => (yo6 l).bind fun a => (S_NextCost k a).bind fun r => K (yo7 r)
theorem yoa (k : Nat) (a : Job) : ev (yo1 k) (yo4 (Int) k) 0 yo3 (st0 Tryz.f38 (yo5 a)) (fin Tryz.prog Tryz.f38 (.sc) yo8) = S_NextCost k a := by kernel_rfl
theorem yob (k : Nat) : PureOk Tryz.prog 38 (yo9 k) :=
  pureOk_of_ev (yo2 k) Tryz.func38 (by kernel_rfl) (by kernel_rfl) yo5 yo6
    (fun l a h => by unfold yo6 at h; split at h <;> first | (cases h; rfl) | cases h) (fun a => rfl) (lpgood_none (by kernel_rfl))
    (fun o r h => by unfold yo8 at h; split at h <;> first | (cases h; rfl) | cases h) (yoa k)
def yoc (k : Nat) : Orc := pureOrc [.agg [(.int .i64), (.int .i64), (.int .i64), (.sl (.st .layer)), (.int .i64), (.int .i64), (.int .i64), (.int .i64), (.sl (.int .i64)), (.int .i64)]] (yo9 k)
theorem yod (k : Nat) : OrcOk Tryz.prog 38 (yoc k) := pureOrc_ok (yob k)
noncomputable def yoe (k : Nat) : Env := { P := Tryz.prog, tt := tt, orc := fun g => cond (Nat.beq g 22) (yc3 k) (cond (Nat.beq g 23) (yei k) (cond (Nat.beq g 24) (yew k) (cond (Nat.beq g 37) (ynb k) (cond (Nat.beq g 38) (yoc k) (noOrc))))) }
theorem yof (k : Nat) : EnvOk (yoe k) := fun g => (orc_cond (yc4 k) (orc_cond (yej k) (orc_cond (yex k) (orc_cond (ync k) (orc_cond (yod k) (noOrc_ok _ _))))))
noncomputable def yog : Code := (Tryz.f15.body).getD .skip
def yoh (ρ : Type) (k : Nat) : Nat → Ev ρ → Ev ρ := fun _ _ _ _ => none
def yoi (a : Job) : List Arg := [.agg [.int .i64 a.model.inp.h, .int .i64 a.model.inp.w, .int .i64 a.model.inp.c, .sl (.st .layer) a.model.layers, .int .i64 a.at_, .int .i64 a.act.sh.h, .int .i64 a.act.sh.w, .int .i64 a.act.sh.c, .sl (.int .i64) a.act.data, .int .i64 a.spent]]
def yoj (l : List Arg) : Option (Job) := match l with
  | [.agg [.int .i64 b0_0, .int .i64 b0_1, .int .i64 b0_2, .sl (.st .layer) b0_3, .int .i64 b0_4, .int .i64 b0_5, .int .i64 b0_6, .int .i64 b0_7, .sl (.int .i64) b0_8, .int .i64 b0_9]] => some (⟨(⟨(⟨b0_0, b0_1, b0_2⟩ : Shape), b0_3⟩ : Model), b0_4, (⟨(⟨b0_5, b0_6, b0_7⟩ : Shape), b0_8⟩ : Tensor), b0_9⟩ : Job)
  | _ => none
def yok (r : Job × Bool) : Out := (.tup [.agg [.r [] (.int .i64 r.1.model.inp.h), .r [] (.int .i64 r.1.model.inp.w), .r [] (.int .i64 r.1.model.inp.c), .own 0, .r [] (.int .i64 r.1.at_), .r [] (.int .i64 r.1.act.sh.h), .r [] (.int .i64 r.1.act.sh.w), .r [] (.int .i64 r.1.act.sh.c), .own 1, .r [] (.int .i64 r.1.spent)], .r [] (.bool r.2)], [.arr none (.st .layer) r.1.model.layers, .arr none (.int .i64) r.1.act.data])
def yol (o : Out) : Option (Job × Bool) := match o with
  | (.tup [.agg [.r [] (.int .i64 z1), .r [] (.int .i64 z2), .r [] (.int .i64 z3), .own 0, .r [] (.int .i64 z5), .r [] (.int .i64 z6), .r [] (.int .i64 z7), .r [] (.int .i64 z8), .own 1, .r [] (.int .i64 z10)], .r [] (.bool z11)], [.arr none (.st .layer) z4, .arr none (.int .i64) z9]) => some ((⟨(⟨(⟨z1, z2, z3⟩ : Shape), z4⟩ : Model), z5, (⟨(⟨z6, z7, z8⟩ : Shape), z9⟩ : Tensor), z10⟩ : Job), z11)
  | _ => none
def yom (k : Nat) : PG := fun _ l K => (yoj l).bind fun a => (S_StepJob k a).bind fun r => K (yok r)
theorem yon (k : Nat) (a : Job) : ev (yoe k) (yoh (Job × Bool) k) 0 yog (st0 Tryz.f15 (yoi a)) (fin Tryz.prog Tryz.f15 (.tup [.agg [.sc, .sc, .sc, .own (.st .layer), .sc, .sc, .sc, .sc, .own (.int .i64), .sc], .sc]) yol) = S_StepJob k a := by kernel_rfl
theorem yoo (k : Nat) : PureOk Tryz.prog 15 (yom k) :=
  pureOk_of_ev (yof k) Tryz.func15 (by kernel_rfl) (by kernel_rfl) yoi yoj
    (fun l a h => by unfold yoj at h; split at h <;> first | (cases h; rfl) | cases h) (fun a => rfl) (lpgood_none (by kernel_rfl))
    (fun o r h => by unfold yol at h; split at h <;> first | (cases h; rfl) | cases h) (yon k)
def yop (k : Nat) : Orc := pureOrc [.agg [(.int .i64), (.int .i64), (.int .i64), (.sl (.st .layer)), (.int .i64), (.int .i64), (.int .i64), (.int .i64), (.sl (.int .i64)), (.int .i64)]] (yom k)
theorem yoq (k : Nat) : OrcOk Tryz.prog 15 (yop k) := pureOrc_ok (yoo k)
noncomputable def yor (k : Nat) : Env := { P := Tryz.prog, tt := tt, orc := fun g => cond (Nat.beq g 15) (yop k) (cond (Nat.beq g 22) (yc3 k) (cond (Nat.beq g 23) (yei k) (cond (Nat.beq g 24) (yew k) (noOrc)))) }
theorem yos (k : Nat) : EnvOk (yor k) := fun g => (orc_cond (yoq k) (orc_cond (yc4 k) (orc_cond (yej k) (orc_cond (yex k) (noOrc_ok _ _)))))
noncomputable def yot : Code := (Tryz.f7.body).getD .skip
noncomputable def you : Code := ((loopsIn 0 yot).getD 0 (0, .skip)).2
def yov : List Nat := [2, 4]
def yow : List (Where × Co) := []
def yox : Ex → List Nat
  | .exit j => cond (Nat.beq j 0) [2, 4] []
  | .ret => []
  | .normal => []
def yoy : Ex → List (Where × Co)
  | .exit j => cond (Nat.beq j 0) [] []
  | .ret => []
  | .normal => []
def yoz (pv : (Int × Int × Int) × (Int × Int × Int × Int × Int × Int × Int × Int × List Layer × List Int)) : St := { slots := [(2, .ptr 0 0 0), (4, .ptr 1 0 0)], heap := [(0, .box [.r [] (.int .i64 pv.1.1), .r [] (.int .i64 pv.1.2.1), .r [] (.int .i64 pv.1.2.2), .nilS]), (1, .box [.r [] (.int .i64 pv.2.1), .r [] (.int .i64 pv.2.2.1), .r [] (.int .i64 pv.2.2.2.1), .own 2, .r [] (.int .i64 pv.2.2.2.2.1), .r [] (.int .i64 pv.2.2.2.2.2.1), .r [] (.int .i64 pv.2.2.2.2.2.2.1), .r [] (.int .i64 pv.2.2.2.2.2.2.2.1), .own 3, .r [] (.int .i64 pv.2.2.2.2.2.2.2.2.1)]), (2, .arr none (.st .layer) pv.2.2.2.2.2.2.2.2.2.1), (3, .arr none (.int .i64) pv.2.2.2.2.2.2.2.2.2.2)], nid := 4, n := 21, gh := [] }
def yp0 (nf : NF) : Option ((Int × Int × Int) × (Int × Int × Int × Int × Int × Int × Int × Int × List Layer × List Int)) := match nf with
  | ([.ptr 0 0 0, .ptr 1 0 0], [.box [.r [] (.int .i64 w0), .r [] (.int .i64 w1), .r [] (.int .i64 w2), .nilS], .box [.r [] (.int .i64 w3), .r [] (.int .i64 w4), .r [] (.int .i64 w5), .own 2, .r [] (.int .i64 w6), .r [] (.int .i64 w7), .r [] (.int .i64 w8), .r [] (.int .i64 w9), .own 3, .r [] (.int .i64 w10)], .arr none (.st .layer) w11, .arr none (.int .i64) w12], []) => some ((w0, w1, w2), (w3, w4, w5, w6, w7, w8, w9, w10, w11, w12))
  | _ => none
theorem yp1 (nf : NF) (v : (Int × Int × Int) × (Int × Int × Int × Int × Int × Int × Int × Int × List Layer × List Int)) (h : yp0 nf = some v) : denorm yov 21 nf = yoz v := by
  unfold yp0 at h
  split at h
  · cases h; rfl
  · cases h
def yp2 (p : Int × Int × Int) (x : Int × Int × Int × Int × Int × Int × Int × Int × List Layer × List Int) : St := { slots := [(2, .ptr 0 0 0), (4, .ptr 1 0 0)], heap := [(0, .box [.r [] (.int .i64 p.1), .r [] (.int .i64 p.2.1), .r [] (.int .i64 p.2.2), .nilS]), (1, .box [.r [] (.int .i64 x.1), .r [] (.int .i64 x.2.1), .r [] (.int .i64 x.2.2.1), .own 2, .r [] (.int .i64 x.2.2.2.1), .r [] (.int .i64 x.2.2.2.2.1), .r [] (.int .i64 x.2.2.2.2.2.1), .r [] (.int .i64 x.2.2.2.2.2.2.1), .own 3, .r [] (.int .i64 x.2.2.2.2.2.2.2.1)]), (2, .arr none (.st .layer) x.2.2.2.2.2.2.2.2.1), (3, .arr none (.int .i64) x.2.2.2.2.2.2.2.2.2)], nid := 4, n := 21, gh := [] }
def yp3 (ρ : Type) (k : Nat) : Nat → Ev ρ → Ev ρ := fun id f => cond (Nat.beq id 0) (loopOrc yov yow (fun n nf => cond (Nat.beq n 21) (yp0 nf) none) fun pv K => iter (fun v next => S_FinishJob_g0 k pv.1 v next (fun x => K (.exit 0) (yp2 pv.1 x))) k pv.2) ((fun _ _ _ _ => none) id f)
theorem yp4 {ρ : Type} (k : Nat) (p : Int × Int × Int) (v : Int × Int × Int × Int × Int × Int × Int × Int × List Layer × List Int) (K K1 : Ex → St → Option ρ) : ev (yor k) (yp3 ρ k) 0 you (yoz (p, v)) (fun e st' => match e with
    | .normal => (normC yov yow st').bind fun nf => K1 .normal (denorm yov st'.n nf)
    | e => (normC (yox e) (yoy e) st').bind fun nf => K e (denorm (yox e) st'.n nf)) = S_FinishJob_g0 k p v (fun v' => K1 .normal (yoz (p, v'))) (fun x => K (.exit 0) (yp2 p x)) := by kernel_rfl
theorem yp5 {ρ : Type} (k : Nat) : Sound Tryz.prog (.loop you) (yp3 ρ k 0 fun st K => ev (yor k) (yp3 ρ k) 0 you st K) :=
  loop_ok (ev_sound (yos k) you 0 (lpgood_none (by kernel_rfl))) yox yoy k (g := fun p v next K => S_FinishJob_g0 k p v next (fun x => K (.exit 0) (yp2 p x))) (dec_at yp1) (fun p v K K1 => yp4 k p v K K1)
def yp6 (a : Job) : List Arg := [.agg [.int .i64 a.model.inp.h, .int .i64 a.model.inp.w, .int .i64 a.model.inp.c, .sl (.st .layer) a.model.layers, .int .i64 a.at_, .int .i64 a.act.sh.h, .int .i64 a.act.sh.w, .int .i64 a.act.sh.c, .sl (.int .i64) a.act.data, .int .i64 a.spent]]
def yp7 (l : List Arg) : Option (Job) := match l with
  | [.agg [.int .i64 b0_0, .int .i64 b0_1, .int .i64 b0_2, .sl (.st .layer) b0_3, .int .i64 b0_4, .int .i64 b0_5, .int .i64 b0_6, .int .i64 b0_7, .sl (.int .i64) b0_8, .int .i64 b0_9]] => some (⟨(⟨(⟨b0_0, b0_1, b0_2⟩ : Shape), b0_3⟩ : Model), b0_4, (⟨(⟨b0_5, b0_6, b0_7⟩ : Shape), b0_8⟩ : Tensor), b0_9⟩ : Job)
  | _ => none
def yp8 (r : Tensor × Bool) : Out := (.tup [.agg [.r [] (.int .i64 r.1.sh.h), .r [] (.int .i64 r.1.sh.w), .r [] (.int .i64 r.1.sh.c), .own 0], .r [] (.bool r.2)], [.arr none (.int .i64) r.1.data])
def yp9 (o : Out) : Option (Tensor × Bool) := match o with
  | (.tup [.agg [.r [] (.int .i64 z1), .r [] (.int .i64 z2), .r [] (.int .i64 z3), .own 0], .r [] (.bool z5)], [.arr none (.int .i64) z4]) => some ((⟨(⟨z1, z2, z3⟩ : Shape), z4⟩ : Tensor), z5)
  | _ => none
def ypa (k : Nat) : PG := fun _ l K => (yp7 l).bind fun a => (S_FinishJob k a).bind fun r => K (yp8 r)
theorem ypb (k : Nat) (a : Job) : ev (yor k) (yp3 (Tensor × Bool) k) 0 yot (st0 Tryz.f7 (yp6 a)) (fin Tryz.prog Tryz.f7 (.tup [.agg [.sc, .sc, .sc, .own (.int .i64)], .sc]) yp9) = S_FinishJob k a := by kernel_rfl
theorem ypc (k : Nat) : PureOk Tryz.prog 7 (ypa k) :=
  pureOk_of_ev (yos k) Tryz.func7 (by kernel_rfl) (by kernel_rfl) yp6 yp7
    (fun l a h => by unfold yp7 at h; split at h <;> first | (cases h; rfl) | cases h) (fun a => rfl) (lpgood_of (l := [(0, you)]) (by kernel_rfl) ⟨yp5 k, trivial⟩)
    (fun o r h => by unfold yp9 at h; split at h <;> first | (cases h; rfl) | cases h) (ypb k)
def ypd (k : Nat) : Orc := pureOrc [.agg [(.int .i64), (.int .i64), (.int .i64), (.sl (.st .layer)), (.int .i64), (.int .i64), (.int .i64), (.int .i64), (.sl (.int .i64)), (.int .i64)]] (ypa k)
theorem ype (k : Nat) : OrcOk Tryz.prog 7 (ypd k) := pureOrc_ok (ypc k)
noncomputable def E_I_in (k : Nat) : Env := { P := Tryz.prog, tt := tt, orc := fun g => noOrc }
theorem ypf (k : Nat) : EnvOk (E_I_in k) := fun g => (noOrc_ok _ _)
noncomputable def c_I_in : Code := (Tryz.f53.body).getD .skip
def ypg (ρ : Type) (k : Nat) : Nat → Ev ρ → Ev ρ := fun _ _ _ _ => none
def yph (a : Int × Int × Int) : List Arg := [.one (.int .i64 a.1), .one (.int .i64 a.2.1), .one (.int .i64 a.2.2)]
def ypi (l : List Arg) : Option (Int × Int × Int) := match l with
  | [.one (.int .i64 b0), .one (.int .i64 b1), .one (.int .i64 b2)] => some (b0, b1, b2)
  | _ => none
def ypj (r : Bool) : Out := (.r [] (.bool r), [])
def ypk (o : Out) : Option (Bool) := match o with
  | (.r [] (.bool z1), []) => some z1
  | _ => none
def I_in_G (k : Nat) : PG := fun _ l K => (ypi l).bind fun a => (I_in k a.1 a.2.1 a.2.2).bind fun r => K (ypj r)
theorem ypl (k : Nat) (a : Int × Int × Int) : ev (E_I_in k) (ypg (Bool) k) 0 c_I_in (st0 Tryz.f53 (yph a)) (fin Tryz.prog Tryz.f53 (.sc) ypk) = I_in k a.1 a.2.1 a.2.2 := by kernel_rfl
theorem ypm (k : Nat) : PureOk Tryz.prog 53 (I_in_G k) :=
  pureOk_of_ev (ypf k) Tryz.func53 (by kernel_rfl) (by kernel_rfl) yph ypi
    (fun l a h => by unfold ypi at h; split at h <;> first | (cases h; rfl) | cases h) (fun a => rfl) (lpgood_none (by kernel_rfl))
    (fun o r h => by unfold ypk at h; split at h <;> first | (cases h; rfl) | cases h) (ypl k)
def o_I_in (k : Nat) : Orc := pureOrc [.one (.int .i64), .one (.int .i64), .one (.int .i64)] (I_in_G k)
theorem ypn (k : Nat) : OrcOk Tryz.prog 53 (o_I_in k) := pureOrc_ok (ypm k)
noncomputable def ypo (k : Nat) : Env := { P := Tryz.prog, tt := tt, orc := fun g => cond (Nat.beq g 53) (o_I_in k) (noOrc) }
theorem ypp (k : Nat) : EnvOk (ypo k) := fun g => (orc_cond (ypn k) (noOrc_ok _ _))
noncomputable def ypq : Code := (Tryz.f77.body).getD .skip
def ypr (ρ : Type) (k : Nat) : Nat → Ev ρ → Ev ρ := fun _ _ _ _ => none
def yps (a : Shape) : List Arg := [.agg [.int .i64 a.h, .int .i64 a.w, .int .i64 a.c]]
def ypt (l : List Arg) : Option (Shape) := match l with
  | [.agg [.int .i64 b0_0, .int .i64 b0_1, .int .i64 b0_2]] => some (⟨b0_0, b0_1, b0_2⟩ : Shape)
  | _ => none
def ypu (r : Bool) : Out := (.r [] (.bool r), [])
def ypv (o : Out) : Option (Bool) := match o with
  | (.r [] (.bool z1), []) => some z1
  | _ => none
def ypw (k : Nat) : PG := fun _ l K => (ypt l).bind fun a => (I_ShapeOk k a).bind fun r => K (ypu r)
theorem ypx (k : Nat) (a : Shape) : ev (ypo k) (ypr (Bool) k) 0 ypq (st0 Tryz.f77 (yps a)) (fin Tryz.prog Tryz.f77 (.sc) ypv) = I_ShapeOk k a := by kernel_rfl
theorem ypy (k : Nat) : PureOk Tryz.prog 77 (ypw k) :=
  pureOk_of_ev (ypp k) Tryz.func77 (by kernel_rfl) (by kernel_rfl) yps ypt
    (fun l a h => by unfold ypt at h; split at h <;> first | (cases h; rfl) | cases h) (fun a => rfl) (lpgood_none (by kernel_rfl))
    (fun o r h => by unfold ypv at h; split at h <;> first | (cases h; rfl) | cases h) (ypx k)
def ypz (k : Nat) : Orc := pureOrc [.agg [(.int .i64), (.int .i64), (.int .i64)]] (ypw k)
theorem yq0 (k : Nat) : OrcOk Tryz.prog 77 (ypz k) := pureOrc_ok (ypy k)
noncomputable def yq1 (k : Nat) : Env := { P := Tryz.prog, tt := tt, orc := fun g => cond (Nat.beq g 77) (ypz k) (noOrc) }
theorem yq2 (k : Nat) : EnvOk (yq1 k) := fun g => (orc_cond (yq0 k) (noOrc_ok _ _))
noncomputable def yq3 : Code := (Tryz.f78.body).getD .skip
def yq4 (ρ : Type) (k : Nat) : Nat → Ev ρ → Ev ρ := fun _ _ _ _ => none
def yq5 (a : Shape) : List Arg := [.agg [.int .i64 a.h, .int .i64 a.w, .int .i64 a.c]]
def yq6 (l : List Arg) : Option (Shape) := match l with
  | [.agg [.int .i64 b0_0, .int .i64 b0_1, .int .i64 b0_2]] => some (⟨b0_0, b0_1, b0_2⟩ : Shape)
  | _ => none
def yq7 (r : Int) : Out := (.r [] (.int .i64 r), [])
def yq8 (o : Out) : Option (Int) := match o with
  | (.r [] (.int .i64 z1), []) => some z1
  | _ => none
def yq9 (k : Nat) : PG := fun _ l K => (yq6 l).bind fun a => (I_SizeOf k a).bind fun r => K (yq7 r)
theorem yqa (k : Nat) (a : Shape) : ev (yq1 k) (yq4 (Int) k) 0 yq3 (st0 Tryz.f78 (yq5 a)) (fin Tryz.prog Tryz.f78 (.sc) yq8) = I_SizeOf k a := by kernel_rfl
theorem yqb (k : Nat) : PureOk Tryz.prog 78 (yq9 k) :=
  pureOk_of_ev (yq2 k) Tryz.func78 (by kernel_rfl) (by kernel_rfl) yq5 yq6
    (fun l a h => by unfold yq6 at h; split at h <;> first | (cases h; rfl) | cases h) (fun a => rfl) (lpgood_none (by kernel_rfl))
    (fun o r h => by unfold yq8 at h; split at h <;> first | (cases h; rfl) | cases h) (yqa k)
def yqc (k : Nat) : Orc := pureOrc [.agg [(.int .i64), (.int .i64), (.int .i64)]] (yq9 k)
theorem yqd (k : Nat) : OrcOk Tryz.prog 78 (yqc k) := pureOrc_ok (yqb k)
noncomputable def yqe (k : Nat) : Env := { P := Tryz.prog, tt := tt, orc := fun g => noOrc }
theorem yqf (k : Nat) : EnvOk (yqe k) := fun g => (noOrc_ok _ _)
noncomputable def yqg : Code := (Tryz.f95.body).getD .skip
def yqh (ρ : Type) (k : Nat) : Nat → Ev ρ → Ev ρ := fun _ _ _ _ => none
def yqi (a : Layer) : List Arg := [.agg [.int .i64 a.kind, .int .i64 a.out, .int .i64 a.size, .int .i64 a.step, .int .i64 a.mult, .int .i64 a.shift, .int .i64 a.zero, .sl (.int .i64) a.weights, .sl (.int .i64) a.bias]]
def yqj (l : List Arg) : Option (Layer) := match l with
  | [.agg [.int .i64 b0_0, .int .i64 b0_1, .int .i64 b0_2, .int .i64 b0_3, .int .i64 b0_4, .int .i64 b0_5, .int .i64 b0_6, .sl (.int .i64) b0_7, .sl (.int .i64) b0_8]] => some (⟨b0_0, b0_1, b0_2, b0_3, b0_4, b0_5, b0_6, b0_7, b0_8⟩ : Layer)
  | _ => none
def yqk (r : Bool) : Out := (.r [] (.bool r), [])
def yql (o : Out) : Option (Bool) := match o with
  | (.r [] (.bool z1), []) => some z1
  | _ => none
def yqm (k : Nat) : PG := fun _ l K => (yqj l).bind fun a => (I_Layer_hasNone k a).bind fun r => K (yqk r)
theorem yqn (k : Nat) (a : Layer) : ev (yqe k) (yqh (Bool) k) 0 yqg (st0 Tryz.f95 (yqi a)) (fin Tryz.prog Tryz.f95 (.sc) yql) = I_Layer_hasNone k a := by kernel_rfl
theorem yqo (k : Nat) : PureOk Tryz.prog 95 (yqm k) :=
  pureOk_of_ev (yqf k) Tryz.func95 (by kernel_rfl) (by kernel_rfl) yqi yqj
    (fun l a h => by unfold yqj at h; split at h <;> first | (cases h; rfl) | cases h) (fun a => rfl) (lpgood_none (by kernel_rfl))
    (fun o r h => by unfold yql at h; split at h <;> first | (cases h; rfl) | cases h) (yqn k)
def yqp (k : Nat) : Orc := pureOrc [.agg [(.int .i64), (.int .i64), (.int .i64), (.int .i64), (.int .i64), (.int .i64), (.int .i64), (.sl (.int .i64)), (.sl (.int .i64))]] (yqm k)
theorem yqq (k : Nat) : OrcOk Tryz.prog 95 (yqp k) := pureOrc_ok (yqo k)
noncomputable def yqr (k : Nat) : Env := { P := Tryz.prog, tt := tt, orc := fun g => cond (Nat.beq g 53) (o_I_in k) (noOrc) }
theorem yqs (k : Nat) : EnvOk (yqr k) := fun g => (orc_cond (ypn k) (noOrc_ok _ _))
noncomputable def yqt : Code := (Tryz.f93.body).getD .skip
def yqu (ρ : Type) (k : Nat) : Nat → Ev ρ → Ev ρ := fun _ _ _ _ => none
def yqv (a : Int) : List Arg := [.one (.int .i64 a)]
def yqw (l : List Arg) : Option (Int) := match l with
  | [.one (.int .i64 b0)] => some b0
  | _ => none
def yqx (r : Bool) : Out := (.r [] (.bool r), [])
def yqy (o : Out) : Option (Bool) := match o with
  | (.r [] (.bool z1), []) => some z1
  | _ => none
def yqz (k : Nat) : PG := fun _ l K => (yqw l).bind fun a => (I_areItems_c1 k a).bind fun r => K (yqx r)
theorem yr0 (k : Nat) (a : Int) : ev (yqr k) (yqu (Bool) k) 0 yqt (st0 Tryz.f93 (yqv a)) (fin Tryz.prog Tryz.f93 (.sc) yqy) = I_areItems_c1 k a := by kernel_rfl
theorem yr1 (k : Nat) : PureOk Tryz.prog 93 (yqz k) :=
  pureOk_of_ev (yqs k) Tryz.func93 (by kernel_rfl) (by kernel_rfl) yqv yqw
    (fun l a h => by unfold yqw at h; split at h <;> first | (cases h; rfl) | cases h) (fun a => rfl) (lpgood_none (by kernel_rfl))
    (fun o r h => by unfold yqy at h; split at h <;> first | (cases h; rfl) | cases h) (yr0 k)
def yr2 (k : Nat) : Orc := pureOrc [.one (.int .i64)] (yqz k)
theorem yr3 (k : Nat) : OrcOk Tryz.prog 93 (yr2 k) := pureOrc_ok (yr1 k)
noncomputable def yr4 (k : Nat) : Env := { P := Tryz.prog, tt := tt, orc := fun g => cond (Nat.beq g 93) (yr2 k) (noOrc) }
theorem yr5 (k : Nat) : EnvOk (yr4 k) := fun g => (orc_cond (yr3 k) (noOrc_ok _ _))
noncomputable def yr6 : Code := (Tryz.f110.body).getD .skip
noncomputable def yr7 : Code := ((loopsIn 0 yr6).getD 0 (0, .skip)).2
def yr8 : List Nat := [0, 1, 7, 8]
def yr9 : List (Where × Co) := []
def yra : Ex → List Nat
  | .exit j => cond (Nat.beq j 0) [] []
  | .ret => [4]
  | .normal => []
def yrb : Ex → List (Where × Co)
  | .exit j => cond (Nat.beq j 0) [] []
  | .ret => []
  | .normal => []
def yrc (pv : (List Int × Int) × (Int)) : St := { slots := [(0, .r [] (.sl (.int .i64) pv.1.1)), (1, .fn (.func 93) [] []), (7, .r [] (.int .i64 pv.1.2)), (8, .r [] (.int .i64 pv.2))], heap := [], nid := 0, n := 19, gh := [] }
end
end Go.Proofs.Ev
