/- Text of this claim. -/
import Derived.Test.YtcohhbpegbhcgaaGreatEvK5
import Derived.Test.YtcohhbpegbhcgaaGreatProg
import Derived.Test.YtcohhbpegbhcgaaGreatEvD1
import Derived.Test.YtcohhbpegbhcgaaGreatEvD3
import Derived.Test.YtcohhbpegbhcgaaGreatEvD5
import Derived.Test.YtcohhbpegbhcgaaGreatEvD9
set_option linter.unusedVariables false
set_option linter.unusedSimpArgs false
set_option linter.unusedVariables false
set_option linter.unusedSimpArgs false
set_option maxRecDepth 100000
set_option maxHeartbeats 4000000
namespace Go.Proofs.Ev
noncomputable section
variable [Tok]
set_option linter.unusedSectionVars false
def tt : TT := look [(2, (.int .i64)), (3, (.int .i64)), (4, .bool), (5, (.int .u8)), (6, (.int .u8)), (9, .str), (10, .str), (11, .str), (12, (.int .u64)), (21, (.int .i32)), (23, (.st .shape)), (24, (.sl (.st .layer))), (26, (.st .model)), (27, (.sl (.int .i64))), (29, (.st .tensor)), (33, (.st .shape)), (35, (.st .tensor)), (38, (.sl (.st .layer))), (40, (.st .model)), (69, (.st .layer)), (72, (.sl (.st .shape))), (96, (.st .layer)), (123, (.int .u64)), (131, (.int .u32)), (132, (.int .u8)), (133, (.int .u8)), (136, (.int .i32)), (137, (.int .i32))]
noncomputable def ya (k : Nat) : Env := { P := Tryz.prog, tt := tt, orc := fun g => noOrc }
theorem yb (k : Nat) : EnvOk (ya k) := fun g => (noOrc_ok _ _)
noncomputable def yc : Code := (Tryz.f42.body).getD .skip
def yd (ρ : Type) (k : Nat) : Nat → Ev ρ → Ev ρ := fun _ _ _ _ => none
def ye (a : List Int × Int) : List Arg := [.one (.sl (.int .i64) a.1), .one (.int .i64 a.2)]
def yf (l : List Arg) : Option (List Int × Int) := match l with
  | [.one (.sl (.int .i64) b0), .one (.int .i64 b1)] => some (b0, b1)
  | _ => none
def yg (r : Int) : Out := (.r [] (.int .i64 r), [])
def yh (o : Out) : Option (Int) := match o with
  | (.r [] (.int .i64 z1), []) => some z1
  | _ => none
def yi (k : Nat) : PG := fun _ l K => (yf l).bind fun a => (L_szIntS k a.1 a.2).bind fun r => K (yg r)
theorem yj (k : Nat) (a : List Int × Int) : ev (ya k) (yd (Int) k) 0 yc (st0 Tryz.f42 (ye a)) (fin Tryz.prog Tryz.f42 (.sc) yh) = L_szIntS k a.1 a.2 := by kernel_rfl
theorem yk (k : Nat) : PureOk Tryz.prog 42 (yi k) :=
  pureOk_of_ev (yb k) Tryz.func42 (by kernel_rfl) (by kernel_rfl) ye yf
    (fun l a h => by unfold yf at h; split at h <;> first | (cases h; rfl) | cases h) (fun a => rfl) (lpgood_none (by kernel_rfl))
    (fun o r h => by unfold yh at h; split at h <;> first | (cases h; rfl) | cases h) (yj k)
def yl (k : Nat) : Orc := pureOrc [.one (.sl (.int .i64)), .one (.int .i64)] (yi k)
theorem ym (k : Nat) : OrcOk Tryz.prog 42 (yl k) := pureOrc_ok (yk k)
noncomputable def yn (k : Nat) : Env := { P := Tryz.prog, tt := tt, orc := fun g => cond (Nat.beq g 42) (yl k) (noOrc) }
theorem yo (k : Nat) : EnvOk (yn k) := fun g => (orc_cond (ym k) (noOrc_ok _ _))
noncomputable def yp : Code := (Tryz.f68.body).getD .skip
def yq (ρ : Type) (k : Nat) : Nat → Ev ρ → Ev ρ := fun _ _ _ _ => none
def yr (a : Layer × Int) : List Arg := [.agg [.int .i64 a.1.kind, .int .i64 a.1.out, .int .i64 a.1.size, .int .i64 a.1.step, .int .i64 a.1.mult, .int .i64 a.1.shift, .int .i64 a.1.zero, .sl (.int .i64) a.1.weights, .sl (.int .i64) a.1.bias], .one (.int .i64 a.2)]
def yt (l : List Arg) : Option (Layer × Int) := match l with
  | [.agg [.int .i64 b0_0, .int .i64 b0_1, .int .i64 b0_2, .int .i64 b0_3, .int .i64 b0_4, .int .i64 b0_5, .int .i64 b0_6, .sl (.int .i64) b0_7, .sl (.int .i64) b0_8], .one (.int .i64 b1)] => some ((⟨b0_0, b0_1, b0_2, b0_3, b0_4, b0_5, b0_6, b0_7, b0_8⟩ : Layer), b1)
  | _ => none
def yu (r : Int) : Out := (.r [] (.int .i64 r), [])
def yv (o : Out) : Option (Int) := match o with
  | (.r [] (.int .i64 z1), []) => some z1
  | _ => none
def yw (k : Nat) : PG := fun _ l K => (yt l).bind fun a => (L_szLayer k a.1 a.2).bind fun r => K (yu r)
theorem yx (k : Nat) (a : Layer × Int) : ev (yn k) (yq (Int) k) 0 yp (st0 Tryz.f68 (yr a)) (fin Tryz.prog Tryz.f68 (.sc) yv) = L_szLayer k a.1 a.2 := by kernel_rfl
theorem yy (k : Nat) : PureOk Tryz.prog 68 (yw k) :=
  pureOk_of_ev (yo k) Tryz.func68 (by kernel_rfl) (by kernel_rfl) yr yt
    (fun l a h => by unfold yt at h; split at h <;> first | (cases h; rfl) | cases h) (fun a => rfl) (lpgood_none (by kernel_rfl))
    (fun o r h => by unfold yv at h; split at h <;> first | (cases h; rfl) | cases h) (yx k)
def yz (k : Nat) : Orc := pureOrc [.agg [(.int .i64), (.int .i64), (.int .i64), (.int .i64), (.int .i64), (.int .i64), (.int .i64), (.sl (.int .i64)), (.sl (.int .i64))], .one (.int .i64)] (yw k)
theorem y10 (k : Nat) : OrcOk Tryz.prog 68 (yz k) := pureOrc_ok (yy k)
noncomputable def y14 (k : Nat) : Env := { P := Tryz.prog, tt := tt, orc := fun g => cond (Nat.beq g 68) (yz k) (noOrc) }
theorem y16 (k : Nat) : EnvOk (y14 k) := fun g => (orc_cond (y10 k) (noOrc_ok _ _))
noncomputable def y17 : Code := (Tryz.f41.body).getD .skip
noncomputable def y18 : Code := ((loopsIn 0 y17).getD 0 (0, .skip)).2
def y19 : List Nat := [0, 1, 5]
def y1a : List (Where × Co) := []
def y1b : Ex → List Nat
  | .exit j => cond (Nat.beq j 0) [1] []
  | .ret => [4]
  | .normal => []
def y1c : Ex → List (Where × Co)
  | .exit j => cond (Nat.beq j 0) [] []
  | .ret => []
  | .normal => []
def y1d (pv : (List Layer) × (Int × Int)) : St := { slots := [(0, .r [] (.sl (.st .layer) pv.1)), (1, .r [] (.int .i64 pv.2.1)), (5, .r [] (.int .i64 pv.2.2))], heap := [], nid := 0, n := 27, gh := [] }
def y1e (nf : NF) : Option ((List Layer) × (Int × Int)) := match nf with
  | ([.r [] (.sl (.st .layer) w0), .r [] (.int .i64 w1), .r [] (.int .i64 w2)], [], []) => some (w0, (w1, w2))
  | _ => none
theorem y1f (nf : NF) (v : (List Layer) × (Int × Int)) (h : y1e nf = some v) : denorm y19 27 nf = y1d v := by
  unfold y1e at h
  split at h
  · cases h; rfl
  · cases h
def y1g (p : List Layer) (x : Int) : St := { slots := [(1, .r [] (.int .i64 x))], heap := [], nid := 0, n := 27, gh := [] }
def y1h (p : List Layer) (x : Int) : St := { slots := [(4, .r [] (.int .i64 x))], heap := [], nid := 0, n := 27, gh := [] }
def y1i (ρ : Type) (k : Nat) : Nat → Ev ρ → Ev ρ := fun id f => cond (Nat.beq id 0) (loopOrc y19 y1a (fun n nf => cond (Nat.beq n 27) (y1e nf) none) fun pv K => iter (fun v next => L_szLayerS_g0 k pv.1 v next (fun x => K (.exit 0) (y1g pv.1 x)) (fun x => K .ret (y1h pv.1 x))) k pv.2) ((fun _ _ _ _ => none) id f)
theorem y1j {ρ : Type} (k : Nat) (p : List Layer) (v : Int × Int) (K K1 : Ex → St → Option ρ) : ev (y14 k) (y1i ρ k) 0 y18 (y1d (p, v)) (fun e st' => match e with
    | .normal => (normC y19 y1a st').bind fun nf => K1 .normal (denorm y19 st'.n nf)
    | e => (normC (y1b e) (y1c e) st').bind fun nf => K e (denorm (y1b e) st'.n nf)) = L_szLayerS_g0 k p v (fun v' => K1 .normal (y1d (p, v'))) (fun x => K (.exit 0) (y1g p x)) (fun x => K .ret (y1h p x)) := by kernel_rfl
theorem y1k {ρ : Type} (k : Nat) : Sound Tryz.prog (.loop y18) (y1i ρ k 0 fun st K => ev (y14 k) (y1i ρ k) 0 y18 st K) :=
  loop_ok (ev_sound (y16 k) y18 0 (lpgood_none (by kernel_rfl))) y1b y1c k (g := fun p v next K => L_szLayerS_g0 k p v next (fun x => K (.exit 0) (y1g p x)) (fun x => K .ret (y1h p x))) (dec_at y1f) (fun p v K K1 => y1j k p v K K1)
def y1l (a : List Layer × Int) : List Arg := [.one (.sl (.st .layer) a.1), .one (.int .i64 a.2)]
def y1m (l : List Arg) : Option (List Layer × Int) := match l with
  | [.one (.sl (.st .layer) b0), .one (.int .i64 b1)] => some (b0, b1)
  | _ => none
def y1n (r : Int) : Out := (.r [] (.int .i64 r), [])
def y1o (o : Out) : Option (Int) := match o with
  | (.r [] (.int .i64 z1), []) => some z1
  | _ => none
def y1p (k : Nat) : PG := fun _ l K => (y1m l).bind fun a => (L_szLayerS k a.1 a.2).bind fun r => K (y1n r)
theorem y1q (k : Nat) (a : List Layer × Int) : ev (y14 k) (y1i (Int) k) 0 y17 (st0 Tryz.f41 (y1l a)) (fin Tryz.prog Tryz.f41 (.sc) y1o) = L_szLayerS k a.1 a.2 := by kernel_rfl
theorem y1r (k : Nat) : PureOk Tryz.prog 41 (y1p k) :=
  pureOk_of_ev (y16 k) Tryz.func41 (by kernel_rfl) (by kernel_rfl) y1l y1m
    (fun l a h => by unfold y1m at h; split at h <;> first | (cases h; rfl) | cases h) (fun a => rfl) (lpgood_of (l := [(0, y18)]) (by kernel_rfl) ⟨y1k k, trivial⟩)
    (fun o r h => by unfold y1o at h; split at h <;> first | (cases h; rfl) | cases h) (y1q k)
def y1s (k : Nat) : Orc := pureOrc [.one (.sl (.st .layer)), .one (.int .i64)] (y1p k)
theorem y1t (k : Nat) : OrcOk Tryz.prog 41 (y1s k) := pureOrc_ok (y1r k)
noncomputable def y1u (k : Nat) : Env := { P := Tryz.prog, tt := tt, orc := fun g => cond (Nat.beq g 41) (y1s k) (noOrc) }
theorem y1v (k : Nat) : EnvOk (y1u k) := fun g => (orc_cond (y1t k) (noOrc_ok _ _))
noncomputable def y1w : Code := (Tryz.f20.body).getD .skip
def y1x (ρ : Type) (k : Nat) : Nat → Ev ρ → Ev ρ := fun _ _ _ _ => none
def y1y (a : Model × Int) : List Arg := [.agg [.int .i64 a.1.inp.h, .int .i64 a.1.inp.w, .int .i64 a.1.inp.c, .sl (.st .layer) a.1.layers], .one (.int .i64 a.2)]
def y1z (l : List Arg) : Option (Model × Int) := match l with
  | [.agg [.int .i64 b0_0, .int .i64 b0_1, .int .i64 b0_2, .sl (.st .layer) b0_3], .one (.int .i64 b1)] => some ((⟨(⟨b0_0, b0_1, b0_2⟩ : Shape), b0_3⟩ : Model), b1)
  | _ => none
def y20 (r : Int) : Out := (.r [] (.int .i64 r), [])
def y21 (o : Out) : Option (Int) := match o with
  | (.r [] (.int .i64 z1), []) => some z1
  | _ => none
def y23 (k : Nat) : PG := fun _ l K => (y1z l).bind fun a => (L_szModel k a.1 a.2).bind fun r => K (y20 r)
theorem y25 (k : Nat) (a : Model × Int) : ev (y1u k) (y1x (Int) k) 0 y1w (st0 Tryz.f20 (y1y a)) (fin Tryz.prog Tryz.f20 (.sc) y21) = L_szModel k a.1 a.2 := by kernel_rfl
theorem y29 (k : Nat) : PureOk Tryz.prog 20 (y23 k) :=
  pureOk_of_ev (y1v k) Tryz.func20 (by kernel_rfl) (by kernel_rfl) y1y y1z
    (fun l a h => by unfold y1z at h; split at h <;> first | (cases h; rfl) | cases h) (fun a => rfl) (lpgood_none (by kernel_rfl))
    (fun o r h => by unfold y21 at h; split at h <;> first | (cases h; rfl) | cases h) (y25 k)
def y2a (k : Nat) : Orc := pureOrc [.agg [(.int .i64), (.int .i64), (.int .i64), (.sl (.st .layer))], .one (.int .i64)] (y23 k)
theorem y2b (k : Nat) : OrcOk Tryz.prog 20 (y2a k) := pureOrc_ok (y29 k)
noncomputable def y2c (k : Nat) : Env := { P := Tryz.prog, tt := tt, orc := fun g => cond (Nat.beq g 42) (yl k) (noOrc) }
theorem y2d (k : Nat) : EnvOk (y2c k) := fun g => (orc_cond (ym k) (noOrc_ok _ _))
noncomputable def y2e : Code := (Tryz.f21.body).getD .skip
def y2f (ρ : Type) (k : Nat) : Nat → Ev ρ → Ev ρ := fun _ _ _ _ => none
def y2g (a : Tensor × Int) : List Arg := [.agg [.int .i64 a.1.sh.h, .int .i64 a.1.sh.w, .int .i64 a.1.sh.c, .sl (.int .i64) a.1.data], .one (.int .i64 a.2)]
def y2h (l : List Arg) : Option (Tensor × Int) := match l with
  | [.agg [.int .i64 b0_0, .int .i64 b0_1, .int .i64 b0_2, .sl (.int .i64) b0_3], .one (.int .i64 b1)] => some ((⟨(⟨b0_0, b0_1, b0_2⟩ : Shape), b0_3⟩ : Tensor), b1)
  | _ => none
def y2i (r : Int) : Out := (.r [] (.int .i64 r), [])
def y2j (o : Out) : Option (Int) := match o with
  | (.r [] (.int .i64 z1), []) => some z1
  | _ => none
def y2k (k : Nat) : PG := fun _ l K => (y2h l).bind fun a => (L_szTensor k a.1 a.2).bind fun r => K (y2i r)
theorem y2l (k : Nat) (a : Tensor × Int) : ev (y2c k) (y2f (Int) k) 0 y2e (st0 Tryz.f21 (y2g a)) (fin Tryz.prog Tryz.f21 (.sc) y2j) = L_szTensor k a.1 a.2 := by kernel_rfl
theorem y2m (k : Nat) : PureOk Tryz.prog 21 (y2k k) :=
  pureOk_of_ev (y2d k) Tryz.func21 (by kernel_rfl) (by kernel_rfl) y2g y2h
    (fun l a h => by unfold y2h at h; split at h <;> first | (cases h; rfl) | cases h) (fun a => rfl) (lpgood_none (by kernel_rfl))
    (fun o r h => by unfold y2j at h; split at h <;> first | (cases h; rfl) | cases h) (y2l k)
def y2n (k : Nat) : Orc := pureOrc [.agg [(.int .i64), (.int .i64), (.int .i64), (.sl (.int .i64))], .one (.int .i64)] (y2k k)
theorem y2o (k : Nat) : OrcOk Tryz.prog 21 (y2n k) := pureOrc_ok (y2m k)
noncomputable def y2p (k : Nat) : Env := { P := Tryz.prog, tt := tt, orc := fun g => cond (Nat.beq g 20) (y2a k) (cond (Nat.beq g 21) (y2n k) (noOrc)) }
theorem y2q (k : Nat) : EnvOk (y2p k) := fun g => (orc_cond (y2b k) (orc_cond (y2o k) (noOrc_ok _ _)))
noncomputable def y2r : Code := (Tryz.f6.body).getD .skip
def y2s (ρ : Type) (k : Nat) : Nat → Ev ρ → Ev ρ := fun _ _ _ _ => none
def y2t (a : Job × Int) : List Arg := [.agg [.int .i64 a.1.model.inp.h, .int .i64 a.1.model.inp.w, .int .i64 a.1.model.inp.c, .sl (.st .layer) a.1.model.layers, .int .i64 a.1.at_, .int .i64 a.1.act.sh.h, .int .i64 a.1.act.sh.w, .int .i64 a.1.act.sh.c, .sl (.int .i64) a.1.act.data, .int .i64 a.1.spent], .one (.int .i64 a.2)]
def y2u (l : List Arg) : Option (Job × Int) := match l with
  | [.agg [.int .i64 b0_0, .int .i64 b0_1, .int .i64 b0_2, .sl (.st .layer) b0_3, .int .i64 b0_4, .int .i64 b0_5, .int .i64 b0_6, .int .i64 b0_7, .sl (.int .i64) b0_8, .int .i64 b0_9], .one (.int .i64 b1)] => some ((⟨(⟨(⟨b0_0, b0_1, b0_2⟩ : Shape), b0_3⟩ : Model), b0_4, (⟨(⟨b0_5, b0_6, b0_7⟩ : Shape), b0_8⟩ : Tensor), b0_9⟩ : Job), b1)
  | _ => none
def y2v (r : Int) : Out := (.r [] (.int .i64 r), [])
def y2w (o : Out) : Option (Int) := match o with
  | (.r [] (.int .i64 z1), []) => some z1
  | _ => none
def y2x (k : Nat) : PG := fun _ l K => (y2u l).bind fun a => (L_szJob k a.1 a.2).bind fun r => K (y2v r)
theorem y2y (k : Nat) (a : Job × Int) : ev (y2p k) (y2s (Int) k) 0 y2r (st0 Tryz.f6 (y2t a)) (fin Tryz.prog Tryz.f6 (.sc) y2w) = L_szJob k a.1 a.2 := by kernel_rfl
theorem y2z (k : Nat) : PureOk Tryz.prog 6 (y2x k) :=
  pureOk_of_ev (y2q k) Tryz.func6 (by kernel_rfl) (by kernel_rfl) y2t y2u
    (fun l a h => by unfold y2u at h; split at h <;> first | (cases h; rfl) | cases h) (fun a => rfl) (lpgood_none (by kernel_rfl))
    (fun o r h => by unfold y2w at h; split at h <;> first | (cases h; rfl) | cases h) (y2y k)
def y31 (k : Nat) : Orc := pureOrc [.agg [(.int .i64), (.int .i64), (.int .i64), (.sl (.st .layer)), (.int .i64), (.int .i64), (.int .i64), (.int .i64), (.sl (.int .i64)), (.int .i64)], .one (.int .i64)] (y2x k)
theorem y32 (k : Nat) : OrcOk Tryz.prog 6 (y31 k) := pureOrc_ok (y2z k)
noncomputable def y33 (k : Nat) : Env := { P := Tryz.prog, tt := tt, orc := fun g => noOrc }
theorem y34 (k : Nat) : EnvOk (y33 k) := fun g => (noOrc_ok _ _)
noncomputable def y35 : Code := (Tryz.f49.body).getD .skip
def y36 (ρ : Type) (k : Nat) : Nat → Ev ρ → Ev ρ := fun _ _ _ _ => none
def y37 (a : Shape) : List Arg := [.agg [.int .i64 a.h, .int .i64 a.w, .int .i64 a.c]]
def y38 (l : List Arg) : Option (Shape) := match l with
  | [.agg [.int .i64 b0_0, .int .i64 b0_1, .int .i64 b0_2]] => some (⟨b0_0, b0_1, b0_2⟩ : Shape)
  | _ => none
def y39 (r : Shape) : Out := (.agg [.r [] (.int .i64 r.h), .r [] (.int .i64 r.w), .r [] (.int .i64 r.c)], [])
def y3a (o : Out) : Option (Shape) := match o with
  | (.agg [.r [] (.int .i64 z1), .r [] (.int .i64 z2), .r [] (.int .i64 z3)], []) => some (⟨z1, z2, z3⟩ : Shape)
  | _ => none
def y3b (k : Nat) : PG := fun _ l K => (y38 l).bind fun a => (L_toShape k a).bind fun r => K (y39 r)
theorem y3c (k : Nat) (a : Shape) : ev (y33 k) (y36 (Shape) k) 0 y35 (st0 Tryz.f49 (y37 a)) (fin Tryz.prog Tryz.f49 (.agg [.sc, .sc, .sc]) y3a) = L_toShape k a := by kernel_rfl
theorem y3d (k : Nat) : PureOk Tryz.prog 49 (y3b k) :=
  pureOk_of_ev (y34 k) Tryz.func49 (by kernel_rfl) (by kernel_rfl) y37 y38
    (fun l a h => by unfold y38 at h; split at h <;> first | (cases h; rfl) | cases h) (fun a => rfl) (lpgood_none (by kernel_rfl))
    (fun o r h => by unfold y3a at h; split at h <;> first | (cases h; rfl) | cases h) (y3c k)
def y3e (k : Nat) : Orc := pureOrc [.agg [(.int .i64), (.int .i64), (.int .i64)]] (y3b k)
theorem y3f (k : Nat) : OrcOk Tryz.prog 49 (y3e k) := pureOrc_ok (y3d k)
noncomputable def y3g (k : Nat) : Env := { P := Tryz.prog, tt := tt, orc := fun g => noOrc }
theorem y3h (k : Nat) : EnvOk (y3g k) := fun g => (noOrc_ok _ _)
noncomputable def y3i : Code := (Tryz.f51.body).getD .skip
noncomputable def y3j : Code := ((loopsIn 0 y3i).getD 0 (0, .skip)).2
def y3k : List Nat := [0, 3, 4]
def y3l : List (Where × Co) := []
def y3m : Ex → List Nat
  | .exit j => cond (Nat.beq j 0) [3] []
  | .ret => []
  | .normal => []
def y3n : Ex → List (Where × Co)
  | .exit j => cond (Nat.beq j 0) [] []
  | .ret => []
  | .normal => []
def y3o (pv : (List Int) × (Int × List Int)) : St := { slots := [(0, .r [] (.sl (.int .i64) pv.1)), (3, .own 0), (4, .r [] (.int .i64 pv.2.1))], heap := [(0, .arr none (.int .i64) pv.2.2)], nid := 1, n := 22, gh := [] }
def y3p (nf : NF) : Option ((List Int) × (Int × List Int)) := match nf with
  | ([.r [] (.sl (.int .i64) w0), .own 0, .r [] (.int .i64 w1)], [.arr none (.int .i64) w2], []) => some (w0, (w1, w2))
  | _ => none
theorem y3q (nf : NF) (v : (List Int) × (Int × List Int)) (h : y3p nf = some v) : denorm y3k 22 nf = y3o v := by
  unfold y3p at h
  split at h
  · cases h; rfl
  · cases h
def y3r (p : List Int) (x : List Int) : St := { slots := [(3, .own 0)], heap := [(0, .arr none (.int .i64) x)], nid := 1, n := 22, gh := [] }
def y3s (ρ : Type) (k : Nat) : Nat → Ev ρ → Ev ρ := fun id f => cond (Nat.beq id 0) (loopOrc y3k y3l (fun n nf => cond (Nat.beq n 22) (y3p nf) none) fun pv K => iter (fun v next => L_toIntS_g0 k pv.1 v next (fun x => K (.exit 0) (y3r pv.1 x))) k pv.2) ((fun _ _ _ _ => none) id f)
theorem y3t {ρ : Type} (k : Nat) (p : List Int) (v : Int × List Int) (K K1 : Ex → St → Option ρ) : ev (y3g k) (y3s ρ k) 0 y3j (y3o (p, v)) (fun e st' => match e with
    | .normal => (normC y3k y3l st').bind fun nf => K1 .normal (denorm y3k st'.n nf)
    | e => (normC (y3m e) (y3n e) st').bind fun nf => K e (denorm (y3m e) st'.n nf)) = L_toIntS_g0 k p v (fun v' => K1 .normal (y3o (p, v'))) (fun x => K (.exit 0) (y3r p x)) := by kernel_rfl
theorem y3u {ρ : Type} (k : Nat) : Sound Tryz.prog (.loop y3j) (y3s ρ k 0 fun st K => ev (y3g k) (y3s ρ k) 0 y3j st K) :=
  loop_ok (ev_sound (y3h k) y3j 0 (lpgood_none (by kernel_rfl))) y3m y3n k (g := fun p v next K => L_toIntS_g0 k p v next (fun x => K (.exit 0) (y3r p x))) (dec_at y3q) (fun p v K K1 => y3t k p v K K1)
def y3v (a : List Int) : List Arg := [.one (.sl (.int .i64) a)]
def y3w (l : List Arg) : Option (List Int) := match l with
  | [.one (.sl (.int .i64) b0)] => some b0
  | _ => none
def y3x (r : List Int) : Out := (.own 0, [.arr none (.int .i64) r])
def y3y (o : Out) : Option (List Int) := match o with
  | (.own 0, [.arr none (.int .i64) z1]) => some z1
  | _ => none
def y3z (k : Nat) : PG := fun _ l K => (y3w l).bind fun a => (L_toIntS k a).bind fun r => K (y3x r)
theorem y40 (k : Nat) (a : List Int) : ev (y3g k) (y3s (List Int) k) 0 y3i (st0 Tryz.f51 (y3v a)) (fin Tryz.prog Tryz.f51 (.own (.int .i64)) y3y) = L_toIntS k a := by kernel_rfl
theorem y41 (k : Nat) : PureOk Tryz.prog 51 (y3z k) :=
  pureOk_of_ev (y3h k) Tryz.func51 (by kernel_rfl) (by kernel_rfl) y3v y3w
    (fun l a h => by unfold y3w at h; split at h <;> first | (cases h; rfl) | cases h) (fun a => rfl) (lpgood_of (l := [(0, y3j)]) (by kernel_rfl) ⟨y3u k, trivial⟩)
    (fun o r h => by unfold y3y at h; split at h <;> first | (cases h; rfl) | cases h) (y40 k)
def y42 (k : Nat) : Orc := pureOrc [.one (.sl (.int .i64))] (y3z k)
theorem y43 (k : Nat) : OrcOk Tryz.prog 51 (y42 k) := pureOrc_ok (y41 k)
noncomputable def y44 (k : Nat) : Env := { P := Tryz.prog, tt := tt, orc := fun g => cond (Nat.beq g 51) (y42 k) (noOrc) }
theorem y45 (k : Nat) : EnvOk (y44 k) := fun g => (orc_cond (y43 k) (noOrc_ok _ _))
noncomputable def y46 : Code := (Tryz.f75.body).getD .skip
def y47 (ρ : Type) (k : Nat) : Nat → Ev ρ → Ev ρ := fun _ _ _ _ => none
def y48 (a : Layer) : List Arg := [.agg [.int .i64 a.kind, .int .i64 a.out, .int .i64 a.size, .int .i64 a.step, .int .i64 a.mult, .int .i64 a.shift, .int .i64 a.zero, .sl (.int .i64) a.weights, .sl (.int .i64) a.bias]]
def y49 (l : List Arg) : Option (Layer) := match l with
  | [.agg [.int .i64 b0_0, .int .i64 b0_1, .int .i64 b0_2, .int .i64 b0_3, .int .i64 b0_4, .int .i64 b0_5, .int .i64 b0_6, .sl (.int .i64) b0_7, .sl (.int .i64) b0_8]] => some (⟨b0_0, b0_1, b0_2, b0_3, b0_4, b0_5, b0_6, b0_7, b0_8⟩ : Layer)
  | _ => none
def y4a (r : Layer) : Out := (.agg [.r [] (.int .i64 r.kind), .r [] (.int .i64 r.out), .r [] (.int .i64 r.size), .r [] (.int .i64 r.step), .r [] (.int .i64 r.mult), .r [] (.int .i64 r.shift), .r [] (.int .i64 r.zero), .own 0, .own 1], [.arr none (.int .i64) r.weights, .arr none (.int .i64) r.bias])
def y4b (o : Out) : Option (Layer) := match o with
  | (.agg [.r [] (.int .i64 z1), .r [] (.int .i64 z2), .r [] (.int .i64 z3), .r [] (.int .i64 z4), .r [] (.int .i64 z5), .r [] (.int .i64 z6), .r [] (.int .i64 z7), .own 0, .own 1], [.arr none (.int .i64) z8, .arr none (.int .i64) z9]) => some (⟨z1, z2, z3, z4, z5, z6, z7, z8, z9⟩ : Layer)
  | _ => none
def y4c (k : Nat) : PG := fun _ l K => (y49 l).bind fun a => (L_toLayer k a).bind fun r => K (y4a r)
theorem y4d (k : Nat) (a : Layer) : ev (y44 k) (y47 (Layer) k) 0 y46 (st0 Tryz.f75 (y48 a)) (fin Tryz.prog Tryz.f75 (.agg [.sc, .sc, .sc, .sc, .sc, .sc, .sc, .own (.int .i64), .own (.int .i64)]) y4b) = L_toLayer k a := by kernel_rfl
theorem y4e (k : Nat) : PureOk Tryz.prog 75 (y4c k) :=
  pureOk_of_ev (y45 k) Tryz.func75 (by kernel_rfl) (by kernel_rfl) y48 y49
    (fun l a h => by unfold y49 at h; split at h <;> first | (cases h; rfl) | cases h) (fun a => rfl) (lpgood_none (by kernel_rfl))
    (fun o r h => by unfold y4b at h; split at h <;> first | (cases h; rfl) | cases h) (y4d k)
def y4f (k : Nat) : Orc := pureOrc [.agg [(.int .i64), (.int .i64), (.int .i64), (.int .i64), (.int .i64), (.int .i64), (.int .i64), (.sl (.int .i64)), (.sl (.int .i64))]] (y4c k)
theorem y4g (k : Nat) : OrcOk Tryz.prog 75 (y4f k) := pureOrc_ok (y4e k)
noncomputable def y4h (k : Nat) : Env := { P := Tryz.prog, tt := tt, orc := fun g => cond (Nat.beq g 75) (y4f k) (noOrc) }
theorem y4i (k : Nat) : EnvOk (y4h k) := fun g => (orc_cond (y4g k) (noOrc_ok _ _))
noncomputable def y4j : Code := (Tryz.f50.body).getD .skip
noncomputable def y4k : Code := ((loopsIn 0 y4j).getD 0 (0, .skip)).2
def y4l : List Nat := [0, 3, 4]
def y4m : List (Where × Co) := []
def y4n : Ex → List Nat
  | .exit j => cond (Nat.beq j 0) [3] []
  | .ret => []
  | .normal => []
def y4o : Ex → List (Where × Co)
  | .exit j => cond (Nat.beq j 0) [] []
  | .ret => []
  | .normal => []
def y4p (pv : (List Layer) × (Int × List Layer)) : St := { slots := [(0, .r [] (.sl (.st .layer) pv.1)), (3, .own 0), (4, .r [] (.int .i64 pv.2.1))], heap := [(0, .arr none (.st .layer) pv.2.2)], nid := 1, n := 23, gh := [] }
def y4q (nf : NF) : Option ((List Layer) × (Int × List Layer)) := match nf with
  | ([.r [] (.sl (.st .layer) w0), .own 0, .r [] (.int .i64 w1)], [.arr none (.st .layer) w2], []) => some (w0, (w1, w2))
  | _ => none
theorem y4r (nf : NF) (v : (List Layer) × (Int × List Layer)) (h : y4q nf = some v) : denorm y4l 23 nf = y4p v := by
  unfold y4q at h
  split at h
  · cases h; rfl
  · cases h
def y4s (p : List Layer) (x : List Layer) : St := { slots := [(3, .own 0)], heap := [(0, .arr none (.st .layer) x)], nid := 1, n := 23, gh := [] }
def y4t (ρ : Type) (k : Nat) : Nat → Ev ρ → Ev ρ := fun id f => cond (Nat.beq id 0) (loopOrc y4l y4m (fun n nf => cond (Nat.beq n 23) (y4q nf) none) fun pv K => iter (fun v next => L_toLayerS_g0 k pv.1 v next (fun x => K (.exit 0) (y4s pv.1 x))) k pv.2) ((fun _ _ _ _ => none) id f)
theorem y4u {ρ : Type} (k : Nat) (p : List Layer) (v : Int × List Layer) (K K1 : Ex → St → Option ρ) : ev (y4h k) (y4t ρ k) 0 y4k (y4p (p, v)) (fun e st' => match e with
    | .normal => (normC y4l y4m st').bind fun nf => K1 .normal (denorm y4l st'.n nf)
    | e => (normC (y4n e) (y4o e) st').bind fun nf => K e (denorm (y4n e) st'.n nf)) = L_toLayerS_g0 k p v (fun v' => K1 .normal (y4p (p, v'))) (fun x => K (.exit 0) (y4s p x)) := by kernel_rfl
theorem y4v {ρ : Type} (k : Nat) : Sound Tryz.prog (.loop y4k) (y4t ρ k 0 fun st K => ev (y4h k) (y4t ρ k) 0 y4k st K) :=
  loop_ok (ev_sound (y4i k) y4k 0 (lpgood_none (by kernel_rfl))) y4n y4o k (g := fun p v next K => L_toLayerS_g0 k p v next (fun x => K (.exit 0) (y4s p x))) (dec_at y4r) (fun p v K K1 => y4u k p v K K1)
def y4w (a : List Layer) : List Arg := [.one (.sl (.st .layer) a)]
def y4x (l : List Arg) : Option (List Layer) := match l with
  | [.one (.sl (.st .layer) b0)] => some b0
  | _ => none
def y4y (r : List Layer) : Out := (.own 0, [.arr none (.st .layer) r])
def y4z (o : Out) : Option (List Layer) := match o with
  | (.own 0, [.arr none (.st .layer) z1]) => some z1
  | _ => none
def y50 (k : Nat) : PG := fun _ l K => (y4x l).bind fun a => (L_toLayerS k a).bind fun r => K (y4y r)
theorem y51 (k : Nat) (a : List Layer) : ev (y4h k) (y4t (List Layer) k) 0 y4j (st0 Tryz.f50 (y4w a)) (fin Tryz.prog Tryz.f50 (.own (.st .layer)) y4z) = L_toLayerS k a := by kernel_rfl
theorem y52 (k : Nat) : PureOk Tryz.prog 50 (y50 k) :=
  pureOk_of_ev (y4i k) Tryz.func50 (by kernel_rfl) (by kernel_rfl) y4w y4x
    (fun l a h => by unfold y4x at h; split at h <;> first | (cases h; rfl) | cases h) (fun a => rfl) (lpgood_of (l := [(0, y4k)]) (by kernel_rfl) ⟨y4v k, trivial⟩)
    (fun o r h => by unfold y4z at h; split at h <;> first | (cases h; rfl) | cases h) (y51 k)
def y53 (k : Nat) : Orc := pureOrc [.one (.sl (.st .layer))] (y50 k)
theorem y54 (k : Nat) : OrcOk Tryz.prog 50 (y53 k) := pureOrc_ok (y52 k)
noncomputable def y55 (k : Nat) : Env := { P := Tryz.prog, tt := tt, orc := fun g => cond (Nat.beq g 49) (y3e k) (cond (Nat.beq g 50) (y53 k) (noOrc)) }
theorem y56 (k : Nat) : EnvOk (y55 k) := fun g => (orc_cond (y3f k) (orc_cond (y54 k) (noOrc_ok _ _)))
noncomputable def y57 : Code := (Tryz.f25.body).getD .skip
def y58 (ρ : Type) (k : Nat) : Nat → Ev ρ → Ev ρ := fun _ _ _ _ => none
def y59 (a : Model) : List Arg := [.agg [.int .i64 a.inp.h, .int .i64 a.inp.w, .int .i64 a.inp.c, .sl (.st .layer) a.layers]]
def y5a (l : List Arg) : Option (Model) := match l with
  | [.agg [.int .i64 b0_0, .int .i64 b0_1, .int .i64 b0_2, .sl (.st .layer) b0_3]] => some (⟨(⟨b0_0, b0_1, b0_2⟩ : Shape), b0_3⟩ : Model)
  | _ => none
def y5b (r : Model) : Out := (.agg [.r [] (.int .i64 r.inp.h), .r [] (.int .i64 r.inp.w), .r [] (.int .i64 r.inp.c), .own 0], [.arr none (.st .layer) r.layers])
def y5c (o : Out) : Option (Model) := match o with
  | (.agg [.r [] (.int .i64 z1), .r [] (.int .i64 z2), .r [] (.int .i64 z3), .own 0], [.arr none (.st .layer) z4]) => some (⟨(⟨z1, z2, z3⟩ : Shape), z4⟩ : Model)
  | _ => none
def y5d (k : Nat) : PG := fun _ l K => (y5a l).bind fun a => (L_toModel k a).bind fun r => K (y5b r)
theorem y5e (k : Nat) (a : Model) : ev (y55 k) (y58 (Model) k) 0 y57 (st0 Tryz.f25 (y59 a)) (fin Tryz.prog Tryz.f25 (.agg [.sc, .sc, .sc, .own (.st .layer)]) y5c) = L_toModel k a := by kernel_rfl
theorem y5f (k : Nat) : PureOk Tryz.prog 25 (y5d k) :=
  pureOk_of_ev (y56 k) Tryz.func25 (by kernel_rfl) (by kernel_rfl) y59 y5a
    (fun l a h => by unfold y5a at h; split at h <;> first | (cases h; rfl) | cases h) (fun a => rfl) (lpgood_none (by kernel_rfl))
    (fun o r h => by unfold y5c at h; split at h <;> first | (cases h; rfl) | cases h) (y5e k)
def y5g (k : Nat) : Orc := pureOrc [.agg [(.int .i64), (.int .i64), (.int .i64), (.sl (.st .layer))]] (y5d k)
theorem y5h (k : Nat) : OrcOk Tryz.prog 25 (y5g k) := pureOrc_ok (y5f k)
noncomputable def y5i (k : Nat) : Env := { P := Tryz.prog, tt := tt, orc := fun g => cond (Nat.beq g 49) (y3e k) (cond (Nat.beq g 51) (y42 k) (noOrc)) }
theorem y5j (k : Nat) : EnvOk (y5i k) := fun g => (orc_cond (y3f k) (orc_cond (y43 k) (noOrc_ok _ _)))
noncomputable def y5k : Code := (Tryz.f26.body).getD .skip
def y5l (ρ : Type) (k : Nat) : Nat → Ev ρ → Ev ρ := fun _ _ _ _ => none
def y5m (a : Tensor) : List Arg := [.agg [.int .i64 a.sh.h, .int .i64 a.sh.w, .int .i64 a.sh.c, .sl (.int .i64) a.data]]
def y5n (l : List Arg) : Option (Tensor) := match l with
  | [.agg [.int .i64 b0_0, .int .i64 b0_1, .int .i64 b0_2, .sl (.int .i64) b0_3]] => some (⟨(⟨b0_0, b0_1, b0_2⟩ : Shape), b0_3⟩ : Tensor)
  | _ => none
def y5o (r : Tensor) : Out := (.agg [.r [] (.int .i64 r.sh.h), .r [] (.int .i64 r.sh.w), .r [] (.int .i64 r.sh.c), .own 0], [.arr none (.int .i64) r.data])
def y5p (o : Out) : Option (Tensor) := match o with
  | (.agg [.r [] (.int .i64 z1), .r [] (.int .i64 z2), .r [] (.int .i64 z3), .own 0], [.arr none (.int .i64) z4]) => some (⟨(⟨z1, z2, z3⟩ : Shape), z4⟩ : Tensor)
  | _ => none
def y5q (k : Nat) : PG := fun _ l K => (y5n l).bind fun a => (L_toTensor k a).bind fun r => K (y5o r)
theorem y5r (k : Nat) (a : Tensor) : ev (y5i k) (y5l (Tensor) k) 0 y5k (st0 Tryz.f26 (y5m a)) (fin Tryz.prog Tryz.f26 (.agg [.sc, .sc, .sc, .own (.int .i64)]) y5p) = L_toTensor k a := by kernel_rfl
theorem y5s (k : Nat) : PureOk Tryz.prog 26 (y5q k) :=
  pureOk_of_ev (y5j k) Tryz.func26 (by kernel_rfl) (by kernel_rfl) y5m y5n
    (fun l a h => by unfold y5n at h; split at h <;> first | (cases h; rfl) | cases h) (fun a => rfl) (lpgood_none (by kernel_rfl))
    (fun o r h => by unfold y5p at h; split at h <;> first | (cases h; rfl) | cases h) (y5r k)
def y5t (k : Nat) : Orc := pureOrc [.agg [(.int .i64), (.int .i64), (.int .i64), (.sl (.int .i64))]] (y5q k)
theorem y5u (k : Nat) : OrcOk Tryz.prog 26 (y5t k) := pureOrc_ok (y5s k)
noncomputable def y5v (k : Nat) : Env := { P := Tryz.prog, tt := tt, orc := fun g => cond (Nat.beq g 25) (y5g k) (cond (Nat.beq g 26) (y5t k) (noOrc)) }
theorem y5w (k : Nat) : EnvOk (y5v k) := fun g => (orc_cond (y5h k) (orc_cond (y5u k) (noOrc_ok _ _)))
noncomputable def y5x : Code := (Tryz.f8.body).getD .skip
def y5y (ρ : Type) (k : Nat) : Nat → Ev ρ → Ev ρ := fun _ _ _ _ => none
def y5z (a : Job) : List Arg := [.agg [.int .i64 a.model.inp.h, .int .i64 a.model.inp.w, .int .i64 a.model.inp.c, .sl (.st .layer) a.model.layers, .int .i64 a.at_, .int .i64 a.act.sh.h, .int .i64 a.act.sh.w, .int .i64 a.act.sh.c, .sl (.int .i64) a.act.data, .int .i64 a.spent]]
def y60 (l : List Arg) : Option (Job) := match l with
  | [.agg [.int .i64 b0_0, .int .i64 b0_1, .int .i64 b0_2, .sl (.st .layer) b0_3, .int .i64 b0_4, .int .i64 b0_5, .int .i64 b0_6, .int .i64 b0_7, .sl (.int .i64) b0_8, .int .i64 b0_9]] => some (⟨(⟨(⟨b0_0, b0_1, b0_2⟩ : Shape), b0_3⟩ : Model), b0_4, (⟨(⟨b0_5, b0_6, b0_7⟩ : Shape), b0_8⟩ : Tensor), b0_9⟩ : Job)
  | _ => none
def y61 (r : Job) : Out := (.agg [.r [] (.int .i64 r.model.inp.h), .r [] (.int .i64 r.model.inp.w), .r [] (.int .i64 r.model.inp.c), .own 0, .r [] (.int .i64 r.at_), .r [] (.int .i64 r.act.sh.h), .r [] (.int .i64 r.act.sh.w), .r [] (.int .i64 r.act.sh.c), .own 1, .r [] (.int .i64 r.spent)], [.arr none (.st .layer) r.model.layers, .arr none (.int .i64) r.act.data])
def y62 (o : Out) : Option (Job) := match o with
  | (.agg [.r [] (.int .i64 z1), .r [] (.int .i64 z2), .r [] (.int .i64 z3), .own 0, .r [] (.int .i64 z5), .r [] (.int .i64 z6), .r [] (.int .i64 z7), .r [] (.int .i64 z8), .own 1, .r [] (.int .i64 z10)], [.arr none (.st .layer) z4, .arr none (.int .i64) z9]) => some (⟨(⟨(⟨z1, z2, z3⟩ : Shape), z4⟩ : Model), z5, (⟨(⟨z6, z7, z8⟩ : Shape), z9⟩ : Tensor), z10⟩ : Job)
  | _ => none
def y63 (k : Nat) : PG := fun _ l K => (y60 l).bind fun a => (L_toJob k a).bind fun r => K (y61 r)
theorem y64 (k : Nat) (a : Job) : ev (y5v k) (y5y (Job) k) 0 y5x (st0 Tryz.f8 (y5z a)) (fin Tryz.prog Tryz.f8 (.agg [.sc, .sc, .sc, .own (.st .layer), .sc, .sc, .sc, .sc, .own (.int .i64), .sc]) y62) = L_toJob k a := by kernel_rfl
theorem y65 (k : Nat) : PureOk Tryz.prog 8 (y63 k) :=
  pureOk_of_ev (y5w k) Tryz.func8 (by kernel_rfl) (by kernel_rfl) y5z y60
    (fun l a h => by unfold y60 at h; split at h <;> first | (cases h; rfl) | cases h) (fun a => rfl) (lpgood_none (by kernel_rfl))
    (fun o r h => by unfold y62 at h; split at h <;> first | (cases h; rfl) | cases h) (y64 k)
def y66 (k : Nat) : Orc := pureOrc [.agg [(.int .i64), (.int .i64), (.int .i64), (.sl (.st .layer)), (.int .i64), (.int .i64), (.int .i64), (.int .i64), (.sl (.int .i64)), (.int .i64)]] (y63 k)
theorem y67 (k : Nat) : OrcOk Tryz.prog 8 (y66 k) := pureOrc_ok (y65 k)
noncomputable def y68 (k : Nat) : Env := { P := Tryz.prog, tt := tt, orc := fun g => noOrc }
theorem y69 (k : Nat) : EnvOk (y68 k) := fun g => (noOrc_ok _ _)
noncomputable def y6a : Code := (Tryz.f74.body).getD .skip
noncomputable def y6b : Code := ((loopsIn 0 y6a).getD 0 (0, .skip)).2
def y6c : List Nat := [0, 3, 4]
def y6d : List (Where × Co) := []
def y6e : Ex → List Nat
  | .exit j => cond (Nat.beq j 0) [3] []
  | .ret => []
  | .normal => []
def y6f : Ex → List (Where × Co)
  | .exit j => cond (Nat.beq j 0) [] []
  | .ret => []
  | .normal => []
def y6g (pv : (List Int) × (Int × List Int)) : St := { slots := [(0, .r [] (.sl (.int .i64) pv.1)), (3, .own 0), (4, .r [] (.int .i64 pv.2.1))], heap := [(0, .arr none (.int .i64) pv.2.2)], nid := 1, n := 20, gh := [] }
def y6h (nf : NF) : Option ((List Int) × (Int × List Int)) := match nf with
  | ([.r [] (.sl (.int .i64) w0), .own 0, .r [] (.int .i64 w1)], [.arr none (.int .i64) w2], []) => some (w0, (w1, w2))
  | _ => none
theorem y6i (nf : NF) (v : (List Int) × (Int × List Int)) (h : y6h nf = some v) : denorm y6c 20 nf = y6g v := by
  unfold y6h at h
  split at h
  · cases h; rfl
  · cases h
def y6j (p : List Int) (x : List Int) : St := { slots := [(3, .own 0)], heap := [(0, .arr none (.int .i64) x)], nid := 1, n := 20, gh := [] }
def y6k (ρ : Type) (k : Nat) : Nat → Ev ρ → Ev ρ := fun id f => cond (Nat.beq id 0) (loopOrc y6c y6d (fun n nf => cond (Nat.beq n 20) (y6h nf) none) fun pv K => iter (fun v next => S_l01Copy_g0 k pv.1 v next (fun x => K (.exit 0) (y6j pv.1 x))) k pv.2) ((fun _ _ _ _ => none) id f)
theorem y6l {ρ : Type} (k : Nat) (p : List Int) (v : Int × List Int) (K K1 : Ex → St → Option ρ) : ev (y68 k) (y6k ρ k) 0 y6b (y6g (p, v)) (fun e st' => match e with
    | .normal => (normC y6c y6d st').bind fun nf => K1 .normal (denorm y6c st'.n nf)
    | e => (normC (y6e e) (y6f e) st').bind fun nf => K e (denorm (y6e e) st'.n nf)) = S_l01Copy_g0 k p v (fun v' => K1 .normal (y6g (p, v'))) (fun x => K (.exit 0) (y6j p x)) := by kernel_rfl
theorem y6m {ρ : Type} (k : Nat) : Sound Tryz.prog (.loop y6b) (y6k ρ k 0 fun st K => ev (y68 k) (y6k ρ k) 0 y6b st K) :=
  loop_ok (ev_sound (y69 k) y6b 0 (lpgood_none (by kernel_rfl))) y6e y6f k (g := fun p v next K => S_l01Copy_g0 k p v next (fun x => K (.exit 0) (y6j p x))) (dec_at y6i) (fun p v K K1 => y6l k p v K K1)
def y6n (a : List Int) : List Arg := [.one (.sl (.int .i64) a)]
def y6o (l : List Arg) : Option (List Int) := match l with
  | [.one (.sl (.int .i64) b0)] => some b0
  | _ => none
def y6p (r : List Int) : Out := (.own 0, [.arr none (.int .i64) r])
def y6q (o : Out) : Option (List Int) := match o with
  | (.own 0, [.arr none (.int .i64) z1]) => some z1
  | _ => none
def y6r (k : Nat) : PG := fun _ l K => (y6o l).bind fun a => (S_l01Copy k a).bind fun r => K (y6p r)
theorem y6s (k : Nat) (a : List Int) : ev (y68 k) (y6k (List Int) k) 0 y6a (st0 Tryz.f74 (y6n a)) (fin Tryz.prog Tryz.f74 (.own (.int .i64)) y6q) = S_l01Copy k a := by kernel_rfl
theorem y6t (k : Nat) : PureOk Tryz.prog 74 (y6r k) :=
  pureOk_of_ev (y69 k) Tryz.func74 (by kernel_rfl) (by kernel_rfl) y6n y6o
    (fun l a h => by unfold y6o at h; split at h <;> first | (cases h; rfl) | cases h) (fun a => rfl) (lpgood_of (l := [(0, y6b)]) (by kernel_rfl) ⟨y6m k, trivial⟩)
    (fun o r h => by unfold y6q at h; split at h <;> first | (cases h; rfl) | cases h) (y6s k)
def y6u (k : Nat) : Orc := pureOrc [.one (.sl (.int .i64))] (y6r k)
theorem y6v (k : Nat) : OrcOk Tryz.prog 74 (y6u k) := pureOrc_ok (y6t k)
noncomputable def y6w (k : Nat) : Env := { P := Tryz.prog, tt := tt, orc := fun g => cond (Nat.beq g 74) (y6u k) (noOrc) }
theorem y6x (k : Nat) : EnvOk (y6w k) := fun g => (orc_cond (y6v k) (noOrc_ok _ _))
noncomputable def y6y : Code := (Tryz.f73.body).getD .skip
def y6z (ρ : Type) (k : Nat) : Nat → Ev ρ → Ev ρ := fun _ _ _ _ => none
def y70 (a : Layer) : List Arg := [.agg [.int .i64 a.kind, .int .i64 a.out, .int .i64 a.size, .int .i64 a.step, .int .i64 a.mult, .int .i64 a.shift, .int .i64 a.zero, .sl (.int .i64) a.weights, .sl (.int .i64) a.bias]]
def y71 (l : List Arg) : Option (Layer) := match l with
  | [.agg [.int .i64 b0_0, .int .i64 b0_1, .int .i64 b0_2, .int .i64 b0_3, .int .i64 b0_4, .int .i64 b0_5, .int .i64 b0_6, .sl (.int .i64) b0_7, .sl (.int .i64) b0_8]] => some (⟨b0_0, b0_1, b0_2, b0_3, b0_4, b0_5, b0_6, b0_7, b0_8⟩ : Layer)
  | _ => none
def y72 (r : Layer) : Out := (.agg [.r [] (.int .i64 r.kind), .r [] (.int .i64 r.out), .r [] (.int .i64 r.size), .r [] (.int .i64 r.step), .r [] (.int .i64 r.mult), .r [] (.int .i64 r.shift), .r [] (.int .i64 r.zero), .own 0, .own 1], [.arr none (.int .i64) r.weights, .arr none (.int .i64) r.bias])
def y73 (o : Out) : Option (Layer) := match o with
  | (.agg [.r [] (.int .i64 z1), .r [] (.int .i64 z2), .r [] (.int .i64 z3), .r [] (.int .i64 z4), .r [] (.int .i64 z5), .r [] (.int .i64 z6), .r [] (.int .i64 z7), .own 0, .own 1], [.arr none (.int .i64) z8, .arr none (.int .i64) z9]) => some (⟨z1, z2, z3, z4, z5, z6, z7, z8, z9⟩ : Layer)
  | _ => none
def y74 (k : Nat) : PG := fun _ l K => (y71 l).bind fun a => (S_l03Copy k a).bind fun r => K (y72 r)
theorem y75 (k : Nat) (a : Layer) : ev (y6w k) (y6z (Layer) k) 0 y6y (st0 Tryz.f73 (y70 a)) (fin Tryz.prog Tryz.f73 (.agg [.sc, .sc, .sc, .sc, .sc, .sc, .sc, .own (.int .i64), .own (.int .i64)]) y73) = S_l03Copy k a := by kernel_rfl
theorem y76 (k : Nat) : PureOk Tryz.prog 73 (y74 k) :=
  pureOk_of_ev (y6x k) Tryz.func73 (by kernel_rfl) (by kernel_rfl) y70 y71
    (fun l a h => by unfold y71 at h; split at h <;> first | (cases h; rfl) | cases h) (fun a => rfl) (lpgood_none (by kernel_rfl))
    (fun o r h => by unfold y73 at h; split at h <;> first | (cases h; rfl) | cases h) (y75 k)
def y77 (k : Nat) : Orc := pureOrc [.agg [(.int .i64), (.int .i64), (.int .i64), (.int .i64), (.int .i64), (.int .i64), (.int .i64), (.sl (.int .i64)), (.sl (.int .i64))]] (y74 k)
theorem y78 (k : Nat) : OrcOk Tryz.prog 73 (y77 k) := pureOrc_ok (y76 k)
noncomputable def y79 (k : Nat) : Env := { P := Tryz.prog, tt := tt, orc := fun g => cond (Nat.beq g 73) (y77 k) (noOrc) }
theorem y7a (k : Nat) : EnvOk (y79 k) := fun g => (orc_cond (y78 k) (noOrc_ok _ _))
noncomputable def y7b : Code := (Tryz.f47.body).getD .skip
noncomputable def y7c : Code := ((loopsIn 0 y7b).getD 0 (0, .skip)).2
def y7d : List Nat := [1, 2, 3, 4]
def y7e : List (Where × Co) := [((.pbox 3 3), (.nilOwn false (.st .layer)))]
def y7f : Ex → List Nat
  | .exit j => cond (Nat.beq j 0) [2, 3] []
  | .ret => []
  | .normal => []
def y7g : Ex → List (Where × Co)
  | .exit j => cond (Nat.beq j 0) [] []
  | .ret => []
  | .normal => []
def y7h (pv : (Int × Int × Int × List Layer × Int × Int × Int × Int × Int × Int) × (Int × List Layer)) : St := { slots := [(1, .ptr 0 0 0), (2, .ptr 1 0 0), (3, .ptr 2 0 0), (4, .r [] (.int .i64 pv.2.1))], heap := [(0, .box [.r [] (.int .i64 pv.1.1), .r [] (.int .i64 pv.1.2.1), .r [] (.int .i64 pv.1.2.2.1), .r [] (.sl (.st .layer) pv.1.2.2.2.1)]), (1, .box [.r [] (.int .i64 pv.1.2.2.2.2.1), .r [] (.int .i64 pv.1.2.2.2.2.2.1), .r [] (.int .i64 pv.1.2.2.2.2.2.2.1), .nilS]), (2, .box [.r [] (.int .i64 pv.1.2.2.2.2.2.2.2.1), .r [] (.int .i64 pv.1.2.2.2.2.2.2.2.2.1), .r [] (.int .i64 pv.1.2.2.2.2.2.2.2.2.2), .own 3]), (3, .arr none (.st .layer) pv.2.2)], nid := 4, n := 27, gh := [] }
def y7i (nf : NF) : Option ((Int × Int × Int × List Layer × Int × Int × Int × Int × Int × Int) × (Int × List Layer)) := match nf with
  | ([.ptr 0 0 0, .ptr 1 0 0, .ptr 2 0 0, .r [] (.int .i64 w0)], [.box [.r [] (.int .i64 w1), .r [] (.int .i64 w2), .r [] (.int .i64 w3), .r [] (.sl (.st .layer) w4)], .box [.r [] (.int .i64 w5), .r [] (.int .i64 w6), .r [] (.int .i64 w7), .nilS], .box [.r [] (.int .i64 w8), .r [] (.int .i64 w9), .r [] (.int .i64 w10), .own 3], .arr none (.st .layer) w11], []) => some ((w1, w2, w3, w4, w5, w6, w7, w8, w9, w10), (w0, w11))
  | _ => none
theorem y7j (nf : NF) (v : (Int × Int × Int × List Layer × Int × Int × Int × Int × Int × Int) × (Int × List Layer)) (h : y7i nf = some v) : denorm y7d 27 nf = y7h v := by
  unfold y7i at h
  split at h
  · cases h; rfl
  · cases h
def y7k (p : Int × Int × Int × List Layer × Int × Int × Int × Int × Int × Int) (x : List Layer) : St := { slots := [(2, .ptr 0 0 0), (3, .ptr 1 0 0)], heap := [(0, .box [.r [] (.int .i64 p.2.2.2.2.1), .r [] (.int .i64 p.2.2.2.2.2.1), .r [] (.int .i64 p.2.2.2.2.2.2.1), .nilS]), (1, .box [.r [] (.int .i64 p.2.2.2.2.2.2.2.1), .r [] (.int .i64 p.2.2.2.2.2.2.2.2.1), .r [] (.int .i64 p.2.2.2.2.2.2.2.2.2), .own 2]), (2, .arr none (.st .layer) x)], nid := 3, n := 27, gh := [] }
def y7l (ρ : Type) (k : Nat) : Nat → Ev ρ → Ev ρ := fun id f => cond (Nat.beq id 0) (loopOrc y7d y7e (fun n nf => cond (Nat.beq n 27) (y7i nf) none) fun pv K => iter (fun v next => S_l04Copy_g0 k pv.1 v next (fun x => K (.exit 0) (y7k pv.1 x))) k pv.2) ((fun _ _ _ _ => none) id f)
theorem y7m {ρ : Type} (k : Nat) (p : Int × Int × Int × List Layer × Int × Int × Int × Int × Int × Int) (v : Int × List Layer) (K K1 : Ex → St → Option ρ) : ev (y79 k) (y7l ρ k) 0 y7c (y7h (p, v)) (fun e st' => match e with
    | .normal => (normC y7d y7e st').bind fun nf => K1 .normal (denorm y7d st'.n nf)
    | e => (normC (y7f e) (y7g e) st').bind fun nf => K e (denorm (y7f e) st'.n nf)) = S_l04Copy_g0 k p v (fun v' => K1 .normal (y7h (p, v'))) (fun x => K (.exit 0) (y7k p x)) := by kernel_rfl
theorem y7n {ρ : Type} (k : Nat) : Sound Tryz.prog (.loop y7c) (y7l ρ k 0 fun st K => ev (y79 k) (y7l ρ k) 0 y7c st K) :=
  loop_ok (ev_sound (y7a k) y7c 0 (lpgood_none (by kernel_rfl))) y7f y7g k (g := fun p v next K => S_l04Copy_g0 k p v next (fun x => K (.exit 0) (y7k p x))) (dec_at y7j) (fun p v K K1 => y7m k p v K K1)
def y7o (a : Model) : List Arg := [.agg [.int .i64 a.inp.h, .int .i64 a.inp.w, .int .i64 a.inp.c, .sl (.st .layer) a.layers]]
def y7p (l : List Arg) : Option (Model) := match l with
  | [.agg [.int .i64 b0_0, .int .i64 b0_1, .int .i64 b0_2, .sl (.st .layer) b0_3]] => some (⟨(⟨b0_0, b0_1, b0_2⟩ : Shape), b0_3⟩ : Model)
  | _ => none
def y7q (r : Model) : Out := (.agg [.r [] (.int .i64 r.inp.h), .r [] (.int .i64 r.inp.w), .r [] (.int .i64 r.inp.c), .own 0], [.arr none (.st .layer) r.layers])
def y7r (o : Out) : Option (Model) := match o with
  | (.agg [.r [] (.int .i64 z1), .r [] (.int .i64 z2), .r [] (.int .i64 z3), .own 0], [.arr none (.st .layer) z4]) => some (⟨(⟨z1, z2, z3⟩ : Shape), z4⟩ : Model)
  | _ => none
def y7s (k : Nat) : PG := fun _ l K => (y7p l).bind fun a => (S_l04Copy k a).bind fun r => K (y7q r)
theorem y7t (k : Nat) (a : Model) : ev (y79 k) (y7l (Model) k) 0 y7b (st0 Tryz.f47 (y7o a)) (fin Tryz.prog Tryz.f47 (.agg [.sc, .sc, .sc, .own (.st .layer)]) y7r) = S_l04Copy k a := by kernel_rfl
theorem y7u (k : Nat) : PureOk Tryz.prog 47 (y7s k) :=
  pureOk_of_ev (y7a k) Tryz.func47 (by kernel_rfl) (by kernel_rfl) y7o y7p
    (fun l a h => by unfold y7p at h; split at h <;> first | (cases h; rfl) | cases h) (fun a => rfl) (lpgood_of (l := [(0, y7c)]) (by kernel_rfl) ⟨y7n k, trivial⟩)
    (fun o r h => by unfold y7r at h; split at h <;> first | (cases h; rfl) | cases h) (y7t k)
def y7v (k : Nat) : Orc := pureOrc [.agg [(.int .i64), (.int .i64), (.int .i64), (.sl (.st .layer))]] (y7s k)
theorem y7w (k : Nat) : OrcOk Tryz.prog 47 (y7v k) := pureOrc_ok (y7u k)
noncomputable def y7x (k : Nat) : Env := { P := Tryz.prog, tt := tt, orc := fun g => cond (Nat.beq g 74) (y6u k) (noOrc) }
theorem y7y (k : Nat) : EnvOk (y7x k) := fun g => (orc_cond (y6v k) (noOrc_ok _ _))
noncomputable def y7z : Code := (Tryz.f48.body).getD .skip
def y80 (ρ : Type) (k : Nat) : Nat → Ev ρ → Ev ρ := fun _ _ _ _ => none
def y81 (a : Tensor) : List Arg := [.agg [.int .i64 a.sh.h, .int .i64 a.sh.w, .int .i64 a.sh.c, .sl (.int .i64) a.data]]
def y82 (l : List Arg) : Option (Tensor) := match l with
  | [.agg [.int .i64 b0_0, .int .i64 b0_1, .int .i64 b0_2, .sl (.int .i64) b0_3]] => some (⟨(⟨b0_0, b0_1, b0_2⟩ : Shape), b0_3⟩ : Tensor)
  | _ => none
def y83 (r : Tensor) : Out := (.agg [.r [] (.int .i64 r.sh.h), .r [] (.int .i64 r.sh.w), .r [] (.int .i64 r.sh.c), .own 0], [.arr none (.int .i64) r.data])
def y84 (o : Out) : Option (Tensor) := match o with
  | (.agg [.r [] (.int .i64 z1), .r [] (.int .i64 z2), .r [] (.int .i64 z3), .own 0], [.arr none (.int .i64) z4]) => some (⟨(⟨z1, z2, z3⟩ : Shape), z4⟩ : Tensor)
  | _ => none
def y85 (k : Nat) : PG := fun _ l K => (y82 l).bind fun a => (S_l02Copy k a).bind fun r => K (y83 r)
theorem y86 (k : Nat) (a : Tensor) : ev (y7x k) (y80 (Tensor) k) 0 y7z (st0 Tryz.f48 (y81 a)) (fin Tryz.prog Tryz.f48 (.agg [.sc, .sc, .sc, .own (.int .i64)]) y84) = S_l02Copy k a := by kernel_rfl
theorem y87 (k : Nat) : PureOk Tryz.prog 48 (y85 k) :=
  pureOk_of_ev (y7y k) Tryz.func48 (by kernel_rfl) (by kernel_rfl) y81 y82
    (fun l a h => by unfold y82 at h; split at h <;> first | (cases h; rfl) | cases h) (fun a => rfl) (lpgood_none (by kernel_rfl))
    (fun o r h => by unfold y84 at h; split at h <;> first | (cases h; rfl) | cases h) (y86 k)
def y88 (k : Nat) : Orc := pureOrc [.agg [(.int .i64), (.int .i64), (.int .i64), (.sl (.int .i64))]] (y85 k)
theorem y89 (k : Nat) : OrcOk Tryz.prog 48 (y88 k) := pureOrc_ok (y87 k)
noncomputable def y8a (k : Nat) : Env := { P := Tryz.prog, tt := tt, orc := fun g => cond (Nat.beq g 47) (y7v k) (cond (Nat.beq g 48) (y88 k) (noOrc)) }
theorem y8b (k : Nat) : EnvOk (y8a k) := fun g => (orc_cond (y7w k) (orc_cond (y89 k) (noOrc_ok _ _)))
noncomputable def y8c : Code := (Tryz.f23.body).getD .skip
def y8d (ρ : Type) (k : Nat) : Nat → Ev ρ → Ev ρ := fun _ _ _ _ => none
def y8e (a : Job) : List Arg := [.agg [.int .i64 a.model.inp.h, .int .i64 a.model.inp.w, .int .i64 a.model.inp.c, .sl (.st .layer) a.model.layers, .int .i64 a.at_, .int .i64 a.act.sh.h, .int .i64 a.act.sh.w, .int .i64 a.act.sh.c, .sl (.int .i64) a.act.data, .int .i64 a.spent]]
def y8f (l : List Arg) : Option (Job) := match l with
  | [.agg [.int .i64 b0_0, .int .i64 b0_1, .int .i64 b0_2, .sl (.st .layer) b0_3, .int .i64 b0_4, .int .i64 b0_5, .int .i64 b0_6, .int .i64 b0_7, .sl (.int .i64) b0_8, .int .i64 b0_9]] => some (⟨(⟨(⟨b0_0, b0_1, b0_2⟩ : Shape), b0_3⟩ : Model), b0_4, (⟨(⟨b0_5, b0_6, b0_7⟩ : Shape), b0_8⟩ : Tensor), b0_9⟩ : Job)
  | _ => none
def y8g (r : Job) : Out := (.agg [.r [] (.int .i64 r.model.inp.h), .r [] (.int .i64 r.model.inp.w), .r [] (.int .i64 r.model.inp.c), .own 0, .r [] (.int .i64 r.at_), .r [] (.int .i64 r.act.sh.h), .r [] (.int .i64 r.act.sh.w), .r [] (.int .i64 r.act.sh.c), .own 1, .r [] (.int .i64 r.spent)], [.arr none (.st .layer) r.model.layers, .arr none (.int .i64) r.act.data])
def y8h (o : Out) : Option (Job) := match o with
  | (.agg [.r [] (.int .i64 z1), .r [] (.int .i64 z2), .r [] (.int .i64 z3), .own 0, .r [] (.int .i64 z5), .r [] (.int .i64 z6), .r [] (.int .i64 z7), .r [] (.int .i64 z8), .own 1, .r [] (.int .i64 z10)], [.arr none (.st .layer) z4, .arr none (.int .i64) z9]) => some (⟨(⟨(⟨z1, z2, z3⟩ : Shape), z4⟩ : Model), z5, (⟨(⟨z6, z7, z8⟩ : Shape), z9⟩ : Tensor), z10⟩ : Job)
  | _ => none
def y8i (k : Nat) : PG := fun _ l K => (y8f l).bind fun a => (S_l06Copy k a).bind fun r => K (y8g r)
theorem y8j (k : Nat) (a : Job) : ev (y8a k) (y8d (Job) k) 0 y8c (st0 Tryz.f23 (y8e a)) (fin Tryz.prog Tryz.f23 (.agg [.sc, .sc, .sc, .own (.st .layer), .sc, .sc, .sc, .sc, .own (.int .i64), .sc]) y8h) = S_l06Copy k a := by kernel_rfl
theorem y8k (k : Nat) : PureOk Tryz.prog 23 (y8i k) :=
  pureOk_of_ev (y8b k) Tryz.func23 (by kernel_rfl) (by kernel_rfl) y8e y8f
    (fun l a h => by unfold y8f at h; split at h <;> first | (cases h; rfl) | cases h) (fun a => rfl) (lpgood_none (by kernel_rfl))
    (fun o r h => by unfold y8h at h; split at h <;> first | (cases h; rfl) | cases h) (y8j k)
def y8l (k : Nat) : Orc := pureOrc [.agg [(.int .i64), (.int .i64), (.int .i64), (.sl (.st .layer)), (.int .i64), (.int .i64), (.int .i64), (.int .i64), (.sl (.int .i64)), (.int .i64)]] (y8i k)
theorem y8m (k : Nat) : OrcOk Tryz.prog 23 (y8l k) := pureOrc_ok (y8k k)
noncomputable def y8n (k : Nat) : Env := { P := Tryz.prog, tt := tt, orc := fun g => noOrc }
theorem y8o (k : Nat) : EnvOk (y8n k) := fun g => (noOrc_ok _ _)
noncomputable def y8p : Code := (Tryz.f44.body).getD .skip
def y8q (ρ : Type) (k : Nat) : Nat → Ev ρ → Ev ρ := fun _ _ _ _ => none
def y8r (a : Int × Int × Int) : List Arg := [.one (.int .i64 a.1), .one (.int .i64 a.2.1), .one (.int .i64 a.2.2)]
def y8s (l : List Arg) : Option (Int × Int × Int) := match l with
  | [.one (.int .i64 b0), .one (.int .i64 b1), .one (.int .i64 b2)] => some (b0, b1, b2)
  | _ => none
def y8t (r : Bool) : Out := (.r [] (.bool r), [])
def y8u (o : Out) : Option (Bool) := match o with
  | (.r [] (.bool z1), []) => some z1
  | _ => none
def y8v (k : Nat) : PG := fun _ l K => (y8s l).bind fun a => (S_l01In k a.1 a.2.1 a.2.2).bind fun r => K (y8t r)
theorem y8w (k : Nat) (a : Int × Int × Int) : ev (y8n k) (y8q (Bool) k) 0 y8p (st0 Tryz.f44 (y8r a)) (fin Tryz.prog Tryz.f44 (.sc) y8u) = S_l01In k a.1 a.2.1 a.2.2 := by kernel_rfl
theorem y8x (k : Nat) : PureOk Tryz.prog 44 (y8v k) :=
  pureOk_of_ev (y8o k) Tryz.func44 (by kernel_rfl) (by kernel_rfl) y8r y8s
    (fun l a h => by unfold y8s at h; split at h <;> first | (cases h; rfl) | cases h) (fun a => rfl) (lpgood_none (by kernel_rfl))
    (fun o r h => by unfold y8u at h; split at h <;> first | (cases h; rfl) | cases h) (y8w k)
def y8y (k : Nat) : Orc := pureOrc [.one (.int .i64), .one (.int .i64), .one (.int .i64)] (y8v k)
theorem y8z (k : Nat) : OrcOk Tryz.prog 44 (y8y k) := pureOrc_ok (y8x k)
noncomputable def y90 (k : Nat) : Env := { P := Tryz.prog, tt := tt, orc := fun g => cond (Nat.beq g 44) (y8y k) (noOrc) }
theorem y91 (k : Nat) : EnvOk (y90 k) := fun g => (orc_cond (y8z k) (noOrc_ok _ _))
noncomputable def y92 : Code := (Tryz.f69.body).getD .skip
def y93 (ρ : Type) (k : Nat) : Nat → Ev ρ → Ev ρ := fun _ _ _ _ => none
def y94 (a : Shape) : List Arg := [.agg [.int .i64 a.h, .int .i64 a.w, .int .i64 a.c]]
def y95 (l : List Arg) : Option (Shape) := match l with
  | [.agg [.int .i64 b0_0, .int .i64 b0_1, .int .i64 b0_2]] => some (⟨b0_0, b0_1, b0_2⟩ : Shape)
  | _ => none
def y96 (r : Bool) : Out := (.r [] (.bool r), [])
def y97 (o : Out) : Option (Bool) := match o with
  | (.r [] (.bool z1), []) => some z1
  | _ => none
def y98 (k : Nat) : PG := fun _ l K => (y95 l).bind fun a => (S_ShapeOk k a).bind fun r => K (y96 r)
theorem y99 (k : Nat) (a : Shape) : ev (y90 k) (y93 (Bool) k) 0 y92 (st0 Tryz.f69 (y94 a)) (fin Tryz.prog Tryz.f69 (.sc) y97) = S_ShapeOk k a := by kernel_rfl
theorem y9a (k : Nat) : PureOk Tryz.prog 69 (y98 k) :=
  pureOk_of_ev (y91 k) Tryz.func69 (by kernel_rfl) (by kernel_rfl) y94 y95
    (fun l a h => by unfold y95 at h; split at h <;> first | (cases h; rfl) | cases h) (fun a => rfl) (lpgood_none (by kernel_rfl))
    (fun o r h => by unfold y97 at h; split at h <;> first | (cases h; rfl) | cases h) (y99 k)
def y9b (k : Nat) : Orc := pureOrc [.agg [(.int .i64), (.int .i64), (.int .i64)]] (y98 k)
theorem y9c (k : Nat) : OrcOk Tryz.prog 69 (y9b k) := pureOrc_ok (y9a k)
noncomputable def y9d (k : Nat) : Env := { P := Tryz.prog, tt := tt, orc := fun g => cond (Nat.beq g 44) (y8y k) (noOrc) }
theorem y9e (k : Nat) : EnvOk (y9d k) := fun g => (orc_cond (y8z k) (noOrc_ok _ _))
noncomputable def y9f : Code := (Tryz.f71.body).getD .skip
def y9g (ρ : Type) (k : Nat) : Nat → Ev ρ → Ev ρ := fun _ _ _ _ => none
def y9h (a : Int) : List Arg := [.one (.int .i64 a)]
def y9i (l : List Arg) : Option (Int) := match l with
  | [.one (.int .i64 b0)] => some b0
  | _ => none
def y9j (r : Bool) : Out := (.r [] (.bool r), [])
def y9k (o : Out) : Option (Bool) := match o with
  | (.r [] (.bool z1), []) => some z1
  | _ => none
def y9l (k : Nat) : PG := fun _ l K => (y9i l).bind fun a => (S_l02Int8 k a).bind fun r => K (y9j r)
theorem y9m (k : Nat) (a : Int) : ev (y9d k) (y9g (Bool) k) 0 y9f (st0 Tryz.f71 (y9h a)) (fin Tryz.prog Tryz.f71 (.sc) y9k) = S_l02Int8 k a := by kernel_rfl
theorem y9n (k : Nat) : PureOk Tryz.prog 71 (y9l k) :=
  pureOk_of_ev (y9e k) Tryz.func71 (by kernel_rfl) (by kernel_rfl) y9h y9i
    (fun l a h => by unfold y9i at h; split at h <;> first | (cases h; rfl) | cases h) (fun a => rfl) (lpgood_none (by kernel_rfl))
    (fun o r h => by unfold y9k at h; split at h <;> first | (cases h; rfl) | cases h) (y9m k)
def y9o (k : Nat) : Orc := pureOrc [.one (.int .i64)] (y9l k)
theorem y9p (k : Nat) : OrcOk Tryz.prog 71 (y9o k) := pureOrc_ok (y9n k)
noncomputable def y9q (k : Nat) : Env := { P := Tryz.prog, tt := tt, orc := fun g => cond (Nat.beq g 44) (y8y k) (cond (Nat.beq g 71) (y9o k) (noOrc)) }
theorem y9r (k : Nat) : EnvOk (y9q k) := fun g => (orc_cond (y8z k) (orc_cond (y9p k) (noOrc_ok _ _)))
noncomputable def y9s : Code := (Tryz.f86.body).getD .skip
noncomputable def y9t : Code := ((loopsIn 0 y9s).getD 0 (0, .skip)).2
noncomputable def y9u : Code := ((loopsIn 0 y9s).getD 1 (0, .skip)).2
def y9v : List Nat := [3, 7]
def y9w : List (Where × Co) := []
def y9x : Ex → List Nat
  | .exit j => cond (Nat.beq j 0) [3] []
  | .ret => [6]
  | .normal => []
def y9y : Ex → List (Where × Co)
  | .exit j => cond (Nat.beq j 0) [] []
  | .ret => []
  | .normal => []
def y9z (pv : (Int × Int × Int × Int × Int × Int × Int × List Int × List Int) × (Int)) : St := { slots := [(3, .ptr 0 0 0), (7, .r [] (.int .i64 pv.2))], heap := [(0, .box [.r [] (.int .i64 pv.1.1), .r [] (.int .i64 pv.1.2.1), .r [] (.int .i64 pv.1.2.2.1), .r [] (.int .i64 pv.1.2.2.2.1), .r [] (.int .i64 pv.1.2.2.2.2.1), .r [] (.int .i64 pv.1.2.2.2.2.2.1), .r [] (.int .i64 pv.1.2.2.2.2.2.2.1), .r [] (.sl (.int .i64) pv.1.2.2.2.2.2.2.2.1), .r [] (.sl (.int .i64) pv.1.2.2.2.2.2.2.2.2)])], nid := 1, n := 121, gh := [] }
def ya0 (nf : NF) : Option ((Int × Int × Int × Int × Int × Int × Int × List Int × List Int) × (Int)) := match nf with
  | ([.ptr 0 0 0, .r [] (.int .i64 w0)], [.box [.r [] (.int .i64 w1), .r [] (.int .i64 w2), .r [] (.int .i64 w3), .r [] (.int .i64 w4), .r [] (.int .i64 w5), .r [] (.int .i64 w6), .r [] (.int .i64 w7), .r [] (.sl (.int .i64) w8), .r [] (.sl (.int .i64) w9)]], []) => some ((w1, w2, w3, w4, w5, w6, w7, w8, w9), w0)
  | _ => none
theorem ya1 (nf : NF) (v : (Int × Int × Int × Int × Int × Int × Int × List Int × List Int) × (Int)) (h : ya0 nf = some v) : denorm y9v 121 nf = y9z v := by
  unfold ya0 at h
  split at h
  · cases h; rfl
  · cases h
def ya2 (p : Int × Int × Int × Int × Int × Int × Int × List Int × List Int) (x : Unit) : St := { slots := [(3, .ptr 0 0 0)], heap := [(0, .box [.r [] (.int .i64 p.1), .r [] (.int .i64 p.2.1), .r [] (.int .i64 p.2.2.1), .r [] (.int .i64 p.2.2.2.1), .r [] (.int .i64 p.2.2.2.2.1), .r [] (.int .i64 p.2.2.2.2.2.1), .r [] (.int .i64 p.2.2.2.2.2.2.1), .r [] (.sl (.int .i64) p.2.2.2.2.2.2.2.1), .r [] (.sl (.int .i64) p.2.2.2.2.2.2.2.2)])], nid := 1, n := 121, gh := [] }
def ya3 (p : Int × Int × Int × Int × Int × Int × Int × List Int × List Int) (x : Bool) : St := { slots := [(6, .r [] (.bool x))], heap := [], nid := 0, n := 121, gh := [] }
def ya4 : List Nat := [3, 8]
def ya5 : List (Where × Co) := []
def ya6 : Ex → List Nat
  | .exit j => cond (Nat.beq j 2) [] []
  | .ret => [6]
  | .normal => []
def ya7 : Ex → List (Where × Co)
  | .exit j => cond (Nat.beq j 2) [] []
  | .ret => []
  | .normal => []
def ya8 (pv : (Int × Int × Int × Int × Int × Int × Int × List Int × List Int) × (Int)) : St := { slots := [(3, .ptr 0 0 0), (8, .r [] (.int .i64 pv.2))], heap := [(0, .box [.r [] (.int .i64 pv.1.1), .r [] (.int .i64 pv.1.2.1), .r [] (.int .i64 pv.1.2.2.1), .r [] (.int .i64 pv.1.2.2.2.1), .r [] (.int .i64 pv.1.2.2.2.2.1), .r [] (.int .i64 pv.1.2.2.2.2.2.1), .r [] (.int .i64 pv.1.2.2.2.2.2.2.1), .r [] (.sl (.int .i64) pv.1.2.2.2.2.2.2.2.1), .r [] (.sl (.int .i64) pv.1.2.2.2.2.2.2.2.2)])], nid := 1, n := 121, gh := [] }
def ya9 (nf : NF) : Option ((Int × Int × Int × Int × Int × Int × Int × List Int × List Int) × (Int)) := match nf with
  | ([.ptr 0 0 0, .r [] (.int .i64 w0)], [.box [.r [] (.int .i64 w1), .r [] (.int .i64 w2), .r [] (.int .i64 w3), .r [] (.int .i64 w4), .r [] (.int .i64 w5), .r [] (.int .i64 w6), .r [] (.int .i64 w7), .r [] (.sl (.int .i64) w8), .r [] (.sl (.int .i64) w9)]], []) => some ((w1, w2, w3, w4, w5, w6, w7, w8, w9), w0)
  | _ => none
theorem yaa (nf : NF) (v : (Int × Int × Int × Int × Int × Int × Int × List Int × List Int) × (Int)) (h : ya9 nf = some v) : denorm ya4 121 nf = ya8 v := by
  unfold ya9 at h
  split at h
  · cases h; rfl
  · cases h
def yab (p : Int × Int × Int × Int × Int × Int × Int × List Int × List Int) (x : Unit) : St := { slots := [], heap := [], nid := 0, n := 121, gh := [] }
def yac (p : Int × Int × Int × Int × Int × Int × Int × List Int × List Int) (x : Bool) : St := { slots := [(6, .r [] (.bool x))], heap := [], nid := 0, n := 121, gh := [] }
def yad (ρ : Type) (k : Nat) : Nat → Ev ρ → Ev ρ := fun id f => cond (Nat.beq id 2) (loopOrc ya4 ya5 (fun n nf => cond (Nat.beq n 121) (ya9 nf) none) fun pv K => iter (fun v next => S_l03Plain_g1 k pv.1 v next (fun x => K (.exit 2) (yab pv.1 x)) (fun x => K .ret (yac pv.1 x))) k pv.2) ((fun id f => cond (Nat.beq id 0) (loopOrc y9v y9w (fun n nf => cond (Nat.beq n 121) (ya0 nf) none) fun pv K => iter (fun v next => S_l03Plain_g0 k pv.1 v next (fun x => K (.exit 0) (ya2 pv.1 x)) (fun x => K .ret (ya3 pv.1 x))) k pv.2) ((fun _ _ _ _ => none) id f)) id f)
theorem yae {ρ : Type} (k : Nat) (p : Int × Int × Int × Int × Int × Int × Int × List Int × List Int) (v : Int) (K K1 : Ex → St → Option ρ) : ev (y9q k) (yad ρ k) 0 y9t (y9z (p, v)) (fun e st' => match e with
    | .normal => (normC y9v y9w st').bind fun nf => K1 .normal (denorm y9v st'.n nf)
    | e => (normC (y9x e) (y9y e) st').bind fun nf => K e (denorm (y9x e) st'.n nf)) = S_l03Plain_g0 k p v (fun v' => K1 .normal (y9z (p, v'))) (fun x => K (.exit 0) (ya2 p x)) (fun x => K .ret (ya3 p x)) := by kernel_rfl
theorem yaf {ρ : Type} (k : Nat) : Sound Tryz.prog (.loop y9t) (yad ρ k 0 fun st K => ev (y9q k) (yad ρ k) 0 y9t st K) :=
  loop_ok (ev_sound (y9r k) y9t 0 (lpgood_none (by kernel_rfl))) y9x y9y k (g := fun p v next K => S_l03Plain_g0 k p v next (fun x => K (.exit 0) (ya2 p x)) (fun x => K .ret (ya3 p x))) (dec_at ya1) (fun p v K K1 => yae k p v K K1)
theorem yag {ρ : Type} (k : Nat) (p : Int × Int × Int × Int × Int × Int × Int × List Int × List Int) (v : Int) (K K1 : Ex → St → Option ρ) : ev (y9q k) (yad ρ k) 2 y9u (ya8 (p, v)) (fun e st' => match e with
    | .normal => (normC ya4 ya5 st').bind fun nf => K1 .normal (denorm ya4 st'.n nf)
    | e => (normC (ya6 e) (ya7 e) st').bind fun nf => K e (denorm (ya6 e) st'.n nf)) = S_l03Plain_g1 k p v (fun v' => K1 .normal (ya8 (p, v'))) (fun x => K (.exit 2) (yab p x)) (fun x => K .ret (yac p x)) := by kernel_rfl
theorem yah {ρ : Type} (k : Nat) : Sound Tryz.prog (.loop y9u) (yad ρ k 2 fun st K => ev (y9q k) (yad ρ k) 2 y9u st K) :=
  loop_ok (ev_sound (y9r k) y9u 2 (lpgood_none (by kernel_rfl))) ya6 ya7 k (g := fun p v next K => S_l03Plain_g1 k p v next (fun x => K (.exit 2) (yab p x)) (fun x => K .ret (yac p x))) (dec_at yaa) (fun p v K K1 => yag k p v K K1)
def yai (a : Layer × Bool × Bool) : List Arg := [.agg [.int .i64 a.1.kind, .int .i64 a.1.out, .int .i64 a.1.size, .int .i64 a.1.step, .int .i64 a.1.mult, .int .i64 a.1.shift, .int .i64 a.1.zero, .sl (.int .i64) a.1.weights, .sl (.int .i64) a.1.bias], .one (.bool a.2.1), .one (.bool a.2.2)]
def yaj (l : List Arg) : Option (Layer × Bool × Bool) := match l with
  | [.agg [.int .i64 b0_0, .int .i64 b0_1, .int .i64 b0_2, .int .i64 b0_3, .int .i64 b0_4, .int .i64 b0_5, .int .i64 b0_6, .sl (.int .i64) b0_7, .sl (.int .i64) b0_8], .one (.bool b1), .one (.bool b2)] => some ((⟨b0_0, b0_1, b0_2, b0_3, b0_4, b0_5, b0_6, b0_7, b0_8⟩ : Layer), b1, b2)
  | _ => none
def yak (r : Bool) : Out := (.r [] (.bool r), [])
def yal (o : Out) : Option (Bool) := match o with
  | (.r [] (.bool z1), []) => some z1
  | _ => none
def yam (k : Nat) : PG := fun _ l K => (yaj l).bind fun a => (S_l03Plain k a.1 a.2.1 a.2.2).bind fun r => K (yak r)
theorem yan (k : Nat) (a : Layer × Bool × Bool) : ev (y9q k) (yad (Bool) k) 0 y9s (st0 Tryz.f86 (yai a)) (fin Tryz.prog Tryz.f86 (.sc) yal) = S_l03Plain k a.1 a.2.1 a.2.2 := by kernel_rfl
theorem yao (k : Nat) : PureOk Tryz.prog 86 (yam k) :=
  pureOk_of_ev (y9r k) Tryz.func86 (by kernel_rfl) (by kernel_rfl) yai yaj
    (fun l a h => by unfold yaj at h; split at h <;> first | (cases h; rfl) | cases h) (fun a => rfl) (lpgood_of (l := [(0, y9t), (2, y9u)]) (by kernel_rfl) ⟨yaf k, ⟨yah k, trivial⟩⟩)
    (fun o r h => by unfold yal at h; split at h <;> first | (cases h; rfl) | cases h) (yan k)
def yap (k : Nat) : Orc := pureOrc [.agg [(.int .i64), (.int .i64), (.int .i64), (.int .i64), (.int .i64), (.int .i64), (.int .i64), (.sl (.int .i64)), (.sl (.int .i64))], .one .bool, .one .bool] (yam k)
theorem yaq (k : Nat) : OrcOk Tryz.prog 86 (yap k) := pureOrc_ok (yao k)
noncomputable def yar (k : Nat) : Env := { P := Tryz.prog, tt := tt, orc := fun g => cond (Nat.beq g 69) (y9b k) (noOrc) }
theorem yas (k : Nat) : EnvOk (yar k) := fun g => (orc_cond (y9c k) (noOrc_ok _ _))
noncomputable def yat : Code := (Tryz.f70.body).getD .skip
def yau (ρ : Type) (k : Nat) : Nat → Ev ρ → Ev ρ := fun _ _ _ _ => none
def yav (a : Shape) : List Arg := [.agg [.int .i64 a.h, .int .i64 a.w, .int .i64 a.c]]
def yaw (l : List Arg) : Option (Shape) := match l with
  | [.agg [.int .i64 b0_0, .int .i64 b0_1, .int .i64 b0_2]] => some (⟨b0_0, b0_1, b0_2⟩ : Shape)
  | _ => none
def yax (r : Int) : Out := (.r [] (.int .i64 r), [])
def yay (o : Out) : Option (Int) := match o with
  | (.r [] (.int .i64 z1), []) => some z1
  | _ => none
def yaz (k : Nat) : PG := fun _ l K => (yaw l).bind fun a => (S_SizeOf k a).bind fun r => K (yax r)
theorem yb0 (k : Nat) (a : Shape) : ev (yar k) (yau (Int) k) 0 yat (st0 Tryz.f70 (yav a)) (fin Tryz.prog Tryz.f70 (.sc) yay) = S_SizeOf k a := by kernel_rfl
theorem yb1 (k : Nat) : PureOk Tryz.prog 70 (yaz k) :=
  pureOk_of_ev (yas k) Tryz.func70 (by kernel_rfl) (by kernel_rfl) yav yaw
    (fun l a h => by unfold yaw at h; split at h <;> first | (cases h; rfl) | cases h) (fun a => rfl) (lpgood_none (by kernel_rfl))
    (fun o r h => by unfold yay at h; split at h <;> first | (cases h; rfl) | cases h) (yb0 k)
def yb2 (k : Nat) : Orc := pureOrc [.agg [(.int .i64), (.int .i64), (.int .i64)]] (yaz k)
theorem yb3 (k : Nat) : OrcOk Tryz.prog 70 (yb2 k) := pureOrc_ok (yb1 k)
noncomputable def yb4 (k : Nat) : Env := { P := Tryz.prog, tt := tt, orc := fun g => cond (Nat.beq g 44) (y8y k) (cond (Nat.beq g 69) (y9b k) (cond (Nat.beq g 70) (yb2 k) (cond (Nat.beq g 86) (yap k) (noOrc)))) }
theorem yb5 (k : Nat) : EnvOk (yb4 k) := fun g => (orc_cond (y8z k) (orc_cond (y9c k) (orc_cond (yb3 k) (orc_cond (yaq k) (noOrc_ok _ _)))))
noncomputable def yb6 : Code := (Tryz.f63.body).getD .skip
def yb7 (ρ : Type) (k : Nat) : Nat → Ev ρ → Ev ρ := fun _ _ _ _ => none
def yb8 (a : Shape × Layer) : List Arg := [.agg [.int .i64 a.1.h, .int .i64 a.1.w, .int .i64 a.1.c], .agg [.int .i64 a.2.kind, .int .i64 a.2.out, .int .i64 a.2.size, .int .i64 a.2.step, .int .i64 a.2.mult, .int .i64 a.2.shift, .int .i64 a.2.zero, .sl (.int .i64) a.2.weights, .sl (.int .i64) a.2.bias]]
def yb9 (l : List Arg) : Option (Shape × Layer) := match l with
  | [.agg [.int .i64 b0_0, .int .i64 b0_1, .int .i64 b0_2], .agg [.int .i64 b1_0, .int .i64 b1_1, .int .i64 b1_2, .int .i64 b1_3, .int .i64 b1_4, .int .i64 b1_5, .int .i64 b1_6, .sl (.int .i64) b1_7, .sl (.int .i64) b1_8]] => some ((⟨b0_0, b0_1, b0_2⟩ : Shape), (⟨b1_0, b1_1, b1_2, b1_3, b1_4, b1_5, b1_6, b1_7, b1_8⟩ : Layer))
  | _ => none
def yba (r : Shape × Bool) : Out := (.tup [.agg [.r [] (.int .i64 r.1.h), .r [] (.int .i64 r.1.w), .r [] (.int .i64 r.1.c)], .r [] (.bool r.2)], [])
def ybb (o : Out) : Option (Shape × Bool) := match o with
  | (.tup [.agg [.r [] (.int .i64 z1), .r [] (.int .i64 z2), .r [] (.int .i64 z3)], .r [] (.bool z4)], []) => some ((⟨z1, z2, z3⟩ : Shape), z4)
  | _ => none
def ybc (k : Nat) : PG := fun _ l K => (yb9 l).bind fun a => (S_OutShape k a.1 a.2).bind fun r => K (yba r)
theorem ybd (k : Nat) (a : Shape × Layer) : ev (yb4 k) (yb7 (Shape × Bool) k) 0 yb6 (st0 Tryz.f63 (yb8 a)) (fin Tryz.prog Tryz.f63 (.tup [.agg [.sc, .sc, .sc], .sc]) ybb) = S_OutShape k a.1 a.2 := by kernel_rfl
theorem ybe (k : Nat) : PureOk Tryz.prog 63 (ybc k) :=
  pureOk_of_ev (yb5 k) Tryz.func63 (by kernel_rfl) (by kernel_rfl) yb8 yb9
    (fun l a h => by unfold yb9 at h; split at h <;> first | (cases h; rfl) | cases h) (fun a => rfl) (lpgood_none (by kernel_rfl))
    (fun o r h => by unfold ybb at h; split at h <;> first | (cases h; rfl) | cases h) (ybd k)
def ybf (k : Nat) : Orc := pureOrc [.agg [(.int .i64), (.int .i64), (.int .i64)], .agg [(.int .i64), (.int .i64), (.int .i64), (.int .i64), (.int .i64), (.int .i64), (.int .i64), (.sl (.int .i64)), (.sl (.int .i64))]] (ybc k)
theorem ybg (k : Nat) : OrcOk Tryz.prog 63 (ybf k) := pureOrc_ok (ybe k)
noncomputable def ybh (k : Nat) : Env := { P := Tryz.prog, tt := tt, orc := fun g => cond (Nat.beq g 44) (y8y k) (cond (Nat.beq g 63) (ybf k) (cond (Nat.beq g 69) (y9b k) (noOrc))) }
theorem ybi (k : Nat) : EnvOk (ybh k) := fun g => (orc_cond (y8z k) (orc_cond (ybg k) (orc_cond (y9c k) (noOrc_ok _ _))))
noncomputable def ybj : Code := (Tryz.f43.body).getD .skip
noncomputable def ybk : Code := ((loopsIn 0 ybj).getD 0 (0, .skip)).2
def ybl : List Nat := [1, 4, 5]
def ybm : List (Where × Co) := []
def ybn : Ex → List Nat
  | .exit j => cond (Nat.beq j 0) [4] []
  | .ret => [2, 3]
  | .normal => []
def ybo : Ex → List (Where × Co)
  | .exit j => cond (Nat.beq j 0) [] []
  | .ret => []
  | .normal => []
def ybp (pv : (Int × Int × Int × List Layer) × (Int × List Shape)) : St := { slots := [(1, .ptr 0 0 0), (4, .own 1), (5, .r [] (.int .i64 pv.2.1))], heap := [(0, .box [.r [] (.int .i64 pv.1.1), .r [] (.int .i64 pv.1.2.1), .r [] (.int .i64 pv.1.2.2.1), .r [] (.sl (.st .layer) pv.1.2.2.2)]), (1, .arr none (.st .shape) pv.2.2)], nid := 2, n := 49, gh := [] }
def ybq (nf : NF) : Option ((Int × Int × Int × List Layer) × (Int × List Shape)) := match nf with
  | ([.ptr 0 0 0, .own 1, .r [] (.int .i64 w0)], [.box [.r [] (.int .i64 w1), .r [] (.int .i64 w2), .r [] (.int .i64 w3), .r [] (.sl (.st .layer) w4)], .arr none (.st .shape) w5], []) => some ((w1, w2, w3, w4), (w0, w5))
  | _ => none
theorem ybr (nf : NF) (v : (Int × Int × Int × List Layer) × (Int × List Shape)) (h : ybq nf = some v) : denorm ybl 49 nf = ybp v := by
  unfold ybq at h
  split at h
  · cases h; rfl
  · cases h
def ybs (p : Int × Int × Int × List Layer) (x : List Shape) : St := { slots := [(4, .own 0)], heap := [(0, .arr none (.st .shape) x)], nid := 1, n := 49, gh := [] }
def ybt (p : Int × Int × Int × List Layer) (x : Bool) : St := { slots := [(2, .nilS), (3, .r [] (.bool x))], heap := [], nid := 0, n := 49, gh := [] }
def ybu (ρ : Type) (k : Nat) : Nat → Ev ρ → Ev ρ := fun id f => cond (Nat.beq id 0) (loopOrc ybl ybm (fun n nf => cond (Nat.beq n 49) (ybq nf) none) fun pv K => iter (fun v next => S_l04Shapes_g0 k pv.1 v next (fun x => K (.exit 0) (ybs pv.1 x)) (fun x => K .ret (ybt pv.1 x))) k pv.2) ((fun _ _ _ _ => none) id f)
theorem ybv {ρ : Type} (k : Nat) (p : Int × Int × Int × List Layer) (v : Int × List Shape) (K K1 : Ex → St → Option ρ) : ev (ybh k) (ybu ρ k) 0 ybk (ybp (p, v)) (fun e st' => match e with
    | .normal => (normC ybl ybm st').bind fun nf => K1 .normal (denorm ybl st'.n nf)
    | e => (normC (ybn e) (ybo e) st').bind fun nf => K e (denorm (ybn e) st'.n nf)) = S_l04Shapes_g0 k p v (fun v' => K1 .normal (ybp (p, v'))) (fun x => K (.exit 0) (ybs p x)) (fun x => K .ret (ybt p x)) := by kernel_rfl
theorem ybw {ρ : Type} (k : Nat) : Sound Tryz.prog (.loop ybk) (ybu ρ k 0 fun st K => ev (ybh k) (ybu ρ k) 0 ybk st K) :=
  loop_ok (ev_sound (ybi k) ybk 0 (lpgood_none (by kernel_rfl))) ybn ybo k (g := fun p v next K => S_l04Shapes_g0 k p v next (fun x => K (.exit 0) (ybs p x)) (fun x => K .ret (ybt p x))) (dec_at ybr) (fun p v K K1 => ybv k p v K K1)
def ybx (a : Model) : List Arg := [.agg [.int .i64 a.inp.h, .int .i64 a.inp.w, .int .i64 a.inp.c, .sl (.st .layer) a.layers]]
def yby (l : List Arg) : Option (Model) := match l with
  | [.agg [.int .i64 b0_0, .int .i64 b0_1, .int .i64 b0_2, .sl (.st .layer) b0_3]] => some (⟨(⟨b0_0, b0_1, b0_2⟩ : Shape), b0_3⟩ : Model)
  | _ => none
def ybz (r : List Shape × Bool) : Out := (.tup [.own 0, .r [] (.bool r.2)], [.arr none (.st .shape) r.1])
def yc0 (o : Out) : Option (List Shape × Bool) := match o with
  | (.tup [.own 0, .r [] (.bool z2)], [.arr none (.st .shape) z1]) => some (z1, z2)
  | _ => none
def yc1 (k : Nat) : PG := fun _ l K => (yby l).bind fun a => (S_l04Shapes k a).bind fun r => K (ybz r)
theorem yc2 (k : Nat) (a : Model) : ev (ybh k) (ybu (List Shape × Bool) k) 0 ybj (st0 Tryz.f43 (ybx a)) (fin Tryz.prog Tryz.f43 (.tup [.own (.st .shape), .sc]) yc0) = S_l04Shapes k a := by kernel_rfl
theorem yc3 (k : Nat) : PureOk Tryz.prog 43 (yc1 k) :=
  pureOk_of_ev (ybi k) Tryz.func43 (by kernel_rfl) (by kernel_rfl) ybx yby
    (fun l a h => by unfold yby at h; split at h <;> first | (cases h; rfl) | cases h) (fun a => rfl) (lpgood_of (l := [(0, ybk)]) (by kernel_rfl) ⟨ybw k, trivial⟩)
    (fun o r h => by unfold yc0 at h; split at h <;> first | (cases h; rfl) | cases h) (yc2 k)
def yc4 (k : Nat) : Orc := pureOrc [.agg [(.int .i64), (.int .i64), (.int .i64), (.sl (.st .layer))]] (yc1 k)
theorem yc5 (k : Nat) : OrcOk Tryz.prog 43 (yc4 k) := pureOrc_ok (yc3 k)
noncomputable def yc6 (k : Nat) : Env := { P := Tryz.prog, tt := tt, orc := fun g => cond (Nat.beq g 69) (y9b k) (cond (Nat.beq g 70) (yb2 k) (cond (Nat.beq g 71) (y9o k) (noOrc))) }
theorem yc7 (k : Nat) : EnvOk (yc6 k) := fun g => (orc_cond (y9c k) (orc_cond (yb3 k) (orc_cond (y9p k) (noOrc_ok _ _))))
noncomputable def yc8 : Code := (Tryz.f45.body).getD .skip
noncomputable def yc9 : Code := ((loopsIn 0 yc8).getD 0 (0, .skip)).2
def yca : List Nat := [1, 3]
def ycb : List (Where × Co) := []
def ycc : Ex → List Nat
  | .exit j => cond (Nat.beq j 0) [] []
  | .ret => [2]
  | .normal => []
def ycd : Ex → List (Where × Co)
  | .exit j => cond (Nat.beq j 0) [] []
  | .ret => []
  | .normal => []
def yce (pv : (Int × Int × Int × List Int) × (Int)) : St := { slots := [(1, .ptr 0 0 0), (3, .r [] (.int .i64 pv.2))], heap := [(0, .box [.r [] (.int .i64 pv.1.1), .r [] (.int .i64 pv.1.2.1), .r [] (.int .i64 pv.1.2.2.1), .r [] (.sl (.int .i64) pv.1.2.2.2)])], nid := 1, n := 31, gh := [] }
def ycf (nf : NF) : Option ((Int × Int × Int × List Int) × (Int)) := match nf with
  | ([.ptr 0 0 0, .r [] (.int .i64 w0)], [.box [.r [] (.int .i64 w1), .r [] (.int .i64 w2), .r [] (.int .i64 w3), .r [] (.sl (.int .i64) w4)]], []) => some ((w1, w2, w3, w4), w0)
  | _ => none
theorem ycg (nf : NF) (v : (Int × Int × Int × List Int) × (Int)) (h : ycf nf = some v) : denorm yca 31 nf = yce v := by
  unfold ycf at h
  split at h
  · cases h; rfl
  · cases h
def ych (p : Int × Int × Int × List Int) (x : Unit) : St := { slots := [], heap := [], nid := 0, n := 31, gh := [] }
def yci (p : Int × Int × Int × List Int) (x : Bool) : St := { slots := [(2, .r [] (.bool x))], heap := [], nid := 0, n := 31, gh := [] }
def ycj (ρ : Type) (k : Nat) : Nat → Ev ρ → Ev ρ := fun id f => cond (Nat.beq id 0) (loopOrc yca ycb (fun n nf => cond (Nat.beq n 31) (ycf nf) none) fun pv K => iter (fun v next => S_TensorOk_g0 k pv.1 v next (fun x => K (.exit 0) (ych pv.1 x)) (fun x => K .ret (yci pv.1 x))) k pv.2) ((fun _ _ _ _ => none) id f)
theorem yck {ρ : Type} (k : Nat) (p : Int × Int × Int × List Int) (v : Int) (K K1 : Ex → St → Option ρ) : ev (yc6 k) (ycj ρ k) 0 yc9 (yce (p, v)) (fun e st' => match e with
    | .normal => (normC yca ycb st').bind fun nf => K1 .normal (denorm yca st'.n nf)
    | e => (normC (ycc e) (ycd e) st').bind fun nf => K e (denorm (ycc e) st'.n nf)) = S_TensorOk_g0 k p v (fun v' => K1 .normal (yce (p, v'))) (fun x => K (.exit 0) (ych p x)) (fun x => K .ret (yci p x)) := by kernel_rfl
theorem ycl {ρ : Type} (k : Nat) : Sound Tryz.prog (.loop yc9) (ycj ρ k 0 fun st K => ev (yc6 k) (ycj ρ k) 0 yc9 st K) :=
  loop_ok (ev_sound (yc7 k) yc9 0 (lpgood_none (by kernel_rfl))) ycc ycd k (g := fun p v next K => S_TensorOk_g0 k p v next (fun x => K (.exit 0) (ych p x)) (fun x => K .ret (yci p x))) (dec_at ycg) (fun p v K K1 => yck k p v K K1)
def ycm (a : Tensor) : List Arg := [.agg [.int .i64 a.sh.h, .int .i64 a.sh.w, .int .i64 a.sh.c, .sl (.int .i64) a.data]]
def ycn (l : List Arg) : Option (Tensor) := match l with
  | [.agg [.int .i64 b0_0, .int .i64 b0_1, .int .i64 b0_2, .sl (.int .i64) b0_3]] => some (⟨(⟨b0_0, b0_1, b0_2⟩ : Shape), b0_3⟩ : Tensor)
  | _ => none
def yco (r : Bool) : Out := (.r [] (.bool r), [])
def ycp (o : Out) : Option (Bool) := match o with
  | (.r [] (.bool z1), []) => some z1
  | _ => none
def ycq (k : Nat) : PG := fun _ l K => (ycn l).bind fun a => (S_TensorOk k a).bind fun r => K (yco r)
theorem ycr (k : Nat) (a : Tensor) : ev (yc6 k) (ycj (Bool) k) 0 yc8 (st0 Tryz.f45 (ycm a)) (fin Tryz.prog Tryz.f45 (.sc) ycp) = S_TensorOk k a := by kernel_rfl
theorem ycs (k : Nat) : PureOk Tryz.prog 45 (ycq k) :=
  pureOk_of_ev (yc7 k) Tryz.func45 (by kernel_rfl) (by kernel_rfl) ycm ycn
    (fun l a h => by unfold ycn at h; split at h <;> first | (cases h; rfl) | cases h) (fun a => rfl) (lpgood_of (l := [(0, yc9)]) (by kernel_rfl) ⟨ycl k, trivial⟩)
    (fun o r h => by unfold ycp at h; split at h <;> first | (cases h; rfl) | cases h) (ycr k)
def yct (k : Nat) : Orc := pureOrc [.agg [(.int .i64), (.int .i64), (.int .i64), (.sl (.int .i64))]] (ycq k)
theorem ycu (k : Nat) : OrcOk Tryz.prog 45 (yct k) := pureOrc_ok (ycs k)
noncomputable def ycv (k : Nat) : Env := { P := Tryz.prog, tt := tt, orc := fun g => cond (Nat.beq g 63) (ybf k) (cond (Nat.beq g 70) (yb2 k) (noOrc)) }
theorem ycw (k : Nat) : EnvOk (ycv k) := fun g => (orc_cond (ybg k) (orc_cond (yb3 k) (noOrc_ok _ _)))
noncomputable def ycx : Code := (Tryz.f72.body).getD .skip
def ycy (ρ : Type) (k : Nat) : Nat → Ev ρ → Ev ρ := fun _ _ _ _ => none
def ycz (a : Shape × Layer) : List Arg := [.agg [.int .i64 a.1.h, .int .i64 a.1.w, .int .i64 a.1.c], .agg [.int .i64 a.2.kind, .int .i64 a.2.out, .int .i64 a.2.size, .int .i64 a.2.step, .int .i64 a.2.mult, .int .i64 a.2.shift, .int .i64 a.2.zero, .sl (.int .i64) a.2.weights, .sl (.int .i64) a.2.bias]]
def yd0 (l : List Arg) : Option (Shape × Layer) := match l with
  | [.agg [.int .i64 b0_0, .int .i64 b0_1, .int .i64 b0_2], .agg [.int .i64 b1_0, .int .i64 b1_1, .int .i64 b1_2, .int .i64 b1_3, .int .i64 b1_4, .int .i64 b1_5, .int .i64 b1_6, .sl (.int .i64) b1_7, .sl (.int .i64) b1_8]] => some ((⟨b0_0, b0_1, b0_2⟩ : Shape), (⟨b1_0, b1_1, b1_2, b1_3, b1_4, b1_5, b1_6, b1_7, b1_8⟩ : Layer))
  | _ => none
def yd1 (r : Int) : Out := (.r [] (.int .i64 r), [])
def yd2 (o : Out) : Option (Int) := match o with
  | (.r [] (.int .i64 z1), []) => some z1
  | _ => none
def yd3 (k : Nat) : PG := fun _ l K => (yd0 l).bind fun a => (S_CostOf k a.1 a.2).bind fun r => K (yd1 r)
theorem yd4 (k : Nat) (a : Shape × Layer) : ev (ycv k) (ycy (Int) k) 0 ycx (st0 Tryz.f72 (ycz a)) (fin Tryz.prog Tryz.f72 (.sc) yd2) = S_CostOf k a.1 a.2 := by kernel_rfl
theorem yd5 (k : Nat) : PureOk Tryz.prog 72 (yd3 k) :=
  pureOk_of_ev (ycw k) Tryz.func72 (by kernel_rfl) (by kernel_rfl) ycz yd0
    (fun l a h => by unfold yd0 at h; split at h <;> first | (cases h; rfl) | cases h) (fun a => rfl) (lpgood_none (by kernel_rfl))
    (fun o r h => by unfold yd2 at h; split at h <;> first | (cases h; rfl) | cases h) (yd4 k)
def yd6 (k : Nat) : Orc := pureOrc [.agg [(.int .i64), (.int .i64), (.int .i64)], .agg [(.int .i64), (.int .i64), (.int .i64), (.int .i64), (.int .i64), (.int .i64), (.int .i64), (.sl (.int .i64)), (.sl (.int .i64))]] (yd3 k)
theorem yd7 (k : Nat) : OrcOk Tryz.prog 72 (yd6 k) := pureOrc_ok (yd5 k)
noncomputable def yd8 (k : Nat) : Env := { P := Tryz.prog, tt := tt, orc := fun g => cond (Nat.beq g 43) (yc4 k) (cond (Nat.beq g 72) (yd6 k) (noOrc)) }
theorem yd9 (k : Nat) : EnvOk (yd8 k) := fun g => (orc_cond (yc5 k) (orc_cond (yd7 k) (noOrc_ok _ _)))
noncomputable def yda : Code := (Tryz.f46.body).getD .skip
noncomputable def ydb : Code := ((loopsIn 0 yda).getD 0 (0, .skip)).2
def ydc : List Nat := [1, 3, 4, 6]
def ydd : List (Where × Co) := []
def yde : Ex → List Nat
  | .exit j => cond (Nat.beq j 0) [3] []
  | .ret => []
  | .normal => []
def ydf : Ex → List (Where × Co)
  | .exit j => cond (Nat.beq j 0) [] []
  | .ret => []
  | .normal => []
def ydg (pv : (Int × Int × Int × List Layer × List Shape) × (Int × List Int)) : St := { slots := [(1, .ptr 0 0 0), (3, .own 1), (4, .own 2), (6, .r [] (.int .i64 pv.2.1))], heap := [(0, .box [.r [] (.int .i64 pv.1.1), .r [] (.int .i64 pv.1.2.1), .r [] (.int .i64 pv.1.2.2.1), .r [] (.sl (.st .layer) pv.1.2.2.2.1)]), (1, .arr none (.int .i64) pv.2.2), (2, .arr none (.st .shape) pv.1.2.2.2.2)], nid := 3, n := 36, gh := [] }
def ydh (nf : NF) : Option ((Int × Int × Int × List Layer × List Shape) × (Int × List Int)) := match nf with
  | ([.ptr 0 0 0, .own 1, .own 2, .r [] (.int .i64 w0)], [.box [.r [] (.int .i64 w1), .r [] (.int .i64 w2), .r [] (.int .i64 w3), .r [] (.sl (.st .layer) w4)], .arr none (.int .i64) w5, .arr none (.st .shape) w6], []) => some ((w1, w2, w3, w4, w6), (w0, w5))
  | _ => none
theorem ydi (nf : NF) (v : (Int × Int × Int × List Layer × List Shape) × (Int × List Int)) (h : ydh nf = some v) : denorm ydc 36 nf = ydg v := by
  unfold ydh at h
  split at h
  · cases h; rfl
  · cases h
def ydj (p : Int × Int × Int × List Layer × List Shape) (x : List Int) : St := { slots := [(3, .own 0)], heap := [(0, .arr none (.int .i64) x)], nid := 1, n := 36, gh := [] }
def ydk (ρ : Type) (k : Nat) : Nat → Ev ρ → Ev ρ := fun id f => cond (Nat.beq id 0) (loopOrc ydc ydd (fun n nf => cond (Nat.beq n 36) (ydh nf) none) fun pv K => iter (fun v next => S_CostsOf_g0 k pv.1 v next (fun x => K (.exit 0) (ydj pv.1 x))) k pv.2) ((fun _ _ _ _ => none) id f)
theorem ydl {ρ : Type} (k : Nat) (p : Int × Int × Int × List Layer × List Shape) (v : Int × List Int) (K K1 : Ex → St → Option ρ) : ev (yd8 k) (ydk ρ k) 0 ydb (ydg (p, v)) (fun e st' => match e with
    | .normal => (normC ydc ydd st').bind fun nf => K1 .normal (denorm ydc st'.n nf)
    | e => (normC (yde e) (ydf e) st').bind fun nf => K e (denorm (yde e) st'.n nf)) = S_CostsOf_g0 k p v (fun v' => K1 .normal (ydg (p, v'))) (fun x => K (.exit 0) (ydj p x)) := by kernel_rfl
theorem ydm {ρ : Type} (k : Nat) : Sound Tryz.prog (.loop ydb) (ydk ρ k 0 fun st K => ev (yd8 k) (ydk ρ k) 0 ydb st K) :=
  loop_ok (ev_sound (yd9 k) ydb 0 (lpgood_none (by kernel_rfl))) yde ydf k (g := fun p v next K => S_CostsOf_g0 k p v next (fun x => K (.exit 0) (ydj p x))) (dec_at ydi) (fun p v K K1 => ydl k p v K K1)
def ydn (a : Model) : List Arg := [.agg [.int .i64 a.inp.h, .int .i64 a.inp.w, .int .i64 a.inp.c, .sl (.st .layer) a.layers]]
def ydo (l : List Arg) : Option (Model) := match l with
  | [.agg [.int .i64 b0_0, .int .i64 b0_1, .int .i64 b0_2, .sl (.st .layer) b0_3]] => some (⟨(⟨b0_0, b0_1, b0_2⟩ : Shape), b0_3⟩ : Model)
  | _ => none
def ydp (r : List Int) : Out := (.own 0, [.arr none (.int .i64) r])
def ydq (o : Out) : Option (List Int) := match o with
  | (.own 0, [.arr none (.int .i64) z1]) => some z1
  | _ => none
def ydr (k : Nat) : PG := fun _ l K => (ydo l).bind fun a => (S_CostsOf k a).bind fun r => K (ydp r)
theorem yds (k : Nat) (a : Model) : ev (yd8 k) (ydk (List Int) k) 0 yda (st0 Tryz.f46 (ydn a)) (fin Tryz.prog Tryz.f46 (.own (.int .i64)) ydq) = S_CostsOf k a := by kernel_rfl
theorem ydt (k : Nat) : PureOk Tryz.prog 46 (ydr k) :=
  pureOk_of_ev (yd9 k) Tryz.func46 (by kernel_rfl) (by kernel_rfl) ydn ydo
    (fun l a h => by unfold ydo at h; split at h <;> first | (cases h; rfl) | cases h) (fun a => rfl) (lpgood_of (l := [(0, ydb)]) (by kernel_rfl) ⟨ydm k, trivial⟩)
    (fun o r h => by unfold ydq at h; split at h <;> first | (cases h; rfl) | cases h) (yds k)
def ydu (k : Nat) : Orc := pureOrc [.agg [(.int .i64), (.int .i64), (.int .i64), (.sl (.st .layer))]] (ydr k)
theorem ydv (k : Nat) : OrcOk Tryz.prog 46 (ydu k) := pureOrc_ok (ydt k)
noncomputable def ydw (k : Nat) : Env := { P := Tryz.prog, tt := tt, orc := fun g => cond (Nat.beq g 43) (yc4 k) (cond (Nat.beq g 44) (y8y k) (cond (Nat.beq g 45) (yct k) (cond (Nat.beq g 46) (ydu k) (noOrc)))) }
theorem ydx (k : Nat) : EnvOk (ydw k) := fun g => (orc_cond (yc5 k) (orc_cond (y8z k) (orc_cond (ycu k) (orc_cond (ydv k) (noOrc_ok _ _)))))
noncomputable def ydy : Code := (Tryz.f22.body).getD .skip
noncomputable def ydz : Code := ((loopsIn 0 ydy).getD 0 (0, .skip)).2
def ye0 : List Nat := [1, 5, 6, 7]
def ye1 : List (Where × Co) := []
def ye2 : Ex → List Nat
  | .exit j => cond (Nat.beq j 0) [1, 6] []
  | .ret => []
  | .normal => []
def ye3 : Ex → List (Where × Co)
  | .exit j => cond (Nat.beq j 0) [] []
  | .ret => []
  | .normal => []
def ye4 (pv : (Int × Int × Int × List Layer × Int × Int × Int × Int × List Int × Int × List Int) × (Int × Int)) : St := { slots := [(1, .ptr 0 0 0), (5, .own 1), (6, .r [] (.int .i64 pv.2.1)), (7, .r [] (.int .i64 pv.2.2))], heap := [(0, .box [.r [] (.int .i64 pv.1.1), .r [] (.int .i64 pv.1.2.1), .r [] (.int .i64 pv.1.2.2.1), .r [] (.sl (.st .layer) pv.1.2.2.2.1), .r [] (.int .i64 pv.1.2.2.2.2.1), .r [] (.int .i64 pv.1.2.2.2.2.2.1), .r [] (.int .i64 pv.1.2.2.2.2.2.2.1), .r [] (.int .i64 pv.1.2.2.2.2.2.2.2.1), .r [] (.sl (.int .i64) pv.1.2.2.2.2.2.2.2.2.1), .r [] (.int .i64 pv.1.2.2.2.2.2.2.2.2.2.1)]), (1, .arr none (.int .i64) pv.1.2.2.2.2.2.2.2.2.2.2)], nid := 2, n := 62, gh := [] }
def ye5 (nf : NF) : Option ((Int × Int × Int × List Layer × Int × Int × Int × Int × List Int × Int × List Int) × (Int × Int)) := match nf with
  | ([.ptr 0 0 0, .own 1, .r [] (.int .i64 w0), .r [] (.int .i64 w1)], [.box [.r [] (.int .i64 w2), .r [] (.int .i64 w3), .r [] (.int .i64 w4), .r [] (.sl (.st .layer) w5), .r [] (.int .i64 w6), .r [] (.int .i64 w7), .r [] (.int .i64 w8), .r [] (.int .i64 w9), .r [] (.sl (.int .i64) w10), .r [] (.int .i64 w11)], .arr none (.int .i64) w12], []) => some ((w2, w3, w4, w5, w6, w7, w8, w9, w10, w11, w12), (w0, w1))
  | _ => none
theorem ye6 (nf : NF) (v : (Int × Int × Int × List Layer × Int × Int × Int × Int × List Int × Int × List Int) × (Int × Int)) (h : ye5 nf = some v) : denorm ye0 62 nf = ye4 v := by
  unfold ye5 at h
  split at h
  · cases h; rfl
  · cases h
def ye7 (p : Int × Int × Int × List Layer × Int × Int × Int × Int × List Int × Int × List Int) (x : Int) : St := { slots := [(1, .ptr 0 0 0), (6, .r [] (.int .i64 x))], heap := [(0, .box [.r [] (.int .i64 p.1), .r [] (.int .i64 p.2.1), .r [] (.int .i64 p.2.2.1), .r [] (.sl (.st .layer) p.2.2.2.1), .r [] (.int .i64 p.2.2.2.2.1), .r [] (.int .i64 p.2.2.2.2.2.1), .r [] (.int .i64 p.2.2.2.2.2.2.1), .r [] (.int .i64 p.2.2.2.2.2.2.2.1), .r [] (.sl (.int .i64) p.2.2.2.2.2.2.2.2.1), .r [] (.int .i64 p.2.2.2.2.2.2.2.2.2.1)])], nid := 1, n := 62, gh := [] }
def ye8 (ρ : Type) (k : Nat) : Nat → Ev ρ → Ev ρ := fun id f => cond (Nat.beq id 0) (loopOrc ye0 ye1 (fun n nf => cond (Nat.beq n 62) (ye5 nf) none) fun pv K => iter (fun v next => S_JobOk_g0 k pv.1 v next (fun x => K (.exit 0) (ye7 pv.1 x))) k pv.2) ((fun _ _ _ _ => none) id f)
theorem ye9 {ρ : Type} (k : Nat) (p : Int × Int × Int × List Layer × Int × Int × Int × Int × List Int × Int × List Int) (v : Int × Int) (K K1 : Ex → St → Option ρ) : ev (ydw k) (ye8 ρ k) 0 ydz (ye4 (p, v)) (fun e st' => match e with
    | .normal => (normC ye0 ye1 st').bind fun nf => K1 .normal (denorm ye0 st'.n nf)
    | e => (normC (ye2 e) (ye3 e) st').bind fun nf => K e (denorm (ye2 e) st'.n nf)) = S_JobOk_g0 k p v (fun v' => K1 .normal (ye4 (p, v'))) (fun x => K (.exit 0) (ye7 p x)) := by kernel_rfl
theorem yea {ρ : Type} (k : Nat) : Sound Tryz.prog (.loop ydz) (ye8 ρ k 0 fun st K => ev (ydw k) (ye8 ρ k) 0 ydz st K) :=
  loop_ok (ev_sound (ydx k) ydz 0 (lpgood_none (by kernel_rfl))) ye2 ye3 k (g := fun p v next K => S_JobOk_g0 k p v next (fun x => K (.exit 0) (ye7 p x))) (dec_at ye6) (fun p v K K1 => ye9 k p v K K1)
def yeb (a : Job) : List Arg := [.agg [.int .i64 a.model.inp.h, .int .i64 a.model.inp.w, .int .i64 a.model.inp.c, .sl (.st .layer) a.model.layers, .int .i64 a.at_, .int .i64 a.act.sh.h, .int .i64 a.act.sh.w, .int .i64 a.act.sh.c, .sl (.int .i64) a.act.data, .int .i64 a.spent]]
def yec (l : List Arg) : Option (Job) := match l with
  | [.agg [.int .i64 b0_0, .int .i64 b0_1, .int .i64 b0_2, .sl (.st .layer) b0_3, .int .i64 b0_4, .int .i64 b0_5, .int .i64 b0_6, .int .i64 b0_7, .sl (.int .i64) b0_8, .int .i64 b0_9]] => some (⟨(⟨(⟨b0_0, b0_1, b0_2⟩ : Shape), b0_3⟩ : Model), b0_4, (⟨(⟨b0_5, b0_6, b0_7⟩ : Shape), b0_8⟩ : Tensor), b0_9⟩ : Job)
  | _ => none
def yed (r : Bool) : Out := (.r [] (.bool r), [])
def yee (o : Out) : Option (Bool) := match o with
  | (.r [] (.bool z1), []) => some z1
  | _ => none
def yef (k : Nat) : PG := fun _ l K => (yec l).bind fun a => (S_JobOk k a).bind fun r => K (yed r)
theorem yeg (k : Nat) (a : Job) : ev (ydw k) (ye8 (Bool) k) 0 ydy (st0 Tryz.f22 (yeb a)) (fin Tryz.prog Tryz.f22 (.sc) yee) = S_JobOk k a := by kernel_rfl
theorem yeh (k : Nat) : PureOk Tryz.prog 22 (yef k) :=
  pureOk_of_ev (ydx k) Tryz.func22 (by kernel_rfl) (by kernel_rfl) yeb yec
    (fun l a h => by unfold yec at h; split at h <;> first | (cases h; rfl) | cases h) (fun a => rfl) (lpgood_of (l := [(0, ydz)]) (by kernel_rfl) ⟨yea k, trivial⟩)
    (fun o r h => by unfold yee at h; split at h <;> first | (cases h; rfl) | cases h) (yeg k)
def yei (k : Nat) : Orc := pureOrc [.agg [(.int .i64), (.int .i64), (.int .i64), (.sl (.st .layer)), (.int .i64), (.int .i64), (.int .i64), (.int .i64), (.sl (.int .i64)), (.int .i64)]] (yef k)
theorem yej (k : Nat) : OrcOk Tryz.prog 22 (yei k) := pureOrc_ok (yeh k)
noncomputable def yek (k : Nat) : Env := { P := Tryz.prog, tt := tt, orc := fun g => cond (Nat.beq g 22) (yei k) (noOrc) }
theorem yel (k : Nat) : EnvOk (yek k) := fun g => (orc_cond (yej k) (noOrc_ok _ _))
noncomputable def yem : Code := (Tryz.f24.body).getD .skip
def yen (ρ : Type) (k : Nat) : Nat → Ev ρ → Ev ρ := fun _ _ _ _ => none
def yeo (a : Job) : List Arg := [.agg [.int .i64 a.model.inp.h, .int .i64 a.model.inp.w, .int .i64 a.model.inp.c, .sl (.st .layer) a.model.layers, .int .i64 a.at_, .int .i64 a.act.sh.h, .int .i64 a.act.sh.w, .int .i64 a.act.sh.c, .sl (.int .i64) a.act.data, .int .i64 a.spent]]
def yep (l : List Arg) : Option (Job) := match l with
  | [.agg [.int .i64 b0_0, .int .i64 b0_1, .int .i64 b0_2, .sl (.st .layer) b0_3, .int .i64 b0_4, .int .i64 b0_5, .int .i64 b0_6, .int .i64 b0_7, .sl (.int .i64) b0_8, .int .i64 b0_9]] => some (⟨(⟨(⟨b0_0, b0_1, b0_2⟩ : Shape), b0_3⟩ : Model), b0_4, (⟨(⟨b0_5, b0_6, b0_7⟩ : Shape), b0_8⟩ : Tensor), b0_9⟩ : Job)
  | _ => none
def yeq (r : Bool) : Out := (.r [] (.bool r), [])
def yer (o : Out) : Option (Bool) := match o with
  | (.r [] (.bool z1), []) => some z1
  | _ => none
def yet (k : Nat) : PG := fun _ l K => (yep l).bind fun a => (S_JobDone k a).bind fun r => K (yeq r)
theorem yeu (k : Nat) (a : Job) : ev (yek k) (yen (Bool) k) 0 yem (st0 Tryz.f24 (yeo a)) (fin Tryz.prog Tryz.f24 (.sc) yer) = S_JobDone k a := by kernel_rfl
theorem yev (k : Nat) : PureOk Tryz.prog 24 (yet k) :=
  pureOk_of_ev (yel k) Tryz.func24 (by kernel_rfl) (by kernel_rfl) yeo yep
    (fun l a h => by unfold yep at h; split at h <;> first | (cases h; rfl) | cases h) (fun a => rfl) (lpgood_none (by kernel_rfl))
    (fun o r h => by unfold yer at h; split at h <;> first | (cases h; rfl) | cases h) (yeu k)
def yew (k : Nat) : Orc := pureOrc [.agg [(.int .i64), (.int .i64), (.int .i64), (.sl (.st .layer)), (.int .i64), (.int .i64), (.int .i64), (.int .i64), (.sl (.int .i64)), (.int .i64)]] (yet k)
theorem yex (k : Nat) : OrcOk Tryz.prog 24 (yew k) := pureOrc_ok (yev k)
noncomputable def yey (k : Nat) : Env := { P := Tryz.prog, tt := tt, orc := fun g => cond (Nat.beq g 22) (yei k) (cond (Nat.beq g 46) (ydu k) (noOrc)) }
theorem yez (k : Nat) : EnvOk (yey k) := fun g => (orc_cond (yej k) (orc_cond (ydv k) (noOrc_ok _ _)))
noncomputable def yf0 : Code := (Tryz.f65.body).getD .skip
noncomputable def yf1 : Code := ((loopsIn 0 yf0).getD 0 (0, .skip)).2
def yf2 : List Nat := [3, 4, 5]
def yf3 : List (Where × Co) := []
def yf4 : Ex → List Nat
  | .exit j => cond (Nat.beq j 0) [3] []
  | .ret => []
  | .normal => []
def yf5 : Ex → List (Where × Co)
  | .exit j => cond (Nat.beq j 0) [] []
  | .ret => []
  | .normal => []
def yf6 (pv : (List Int) × (Int × List Int)) : St := { slots := [(3, .own 0), (4, .own 1), (5, .r [] (.int .i64 pv.2.1))], heap := [(0, .arr none (.int .i64) pv.2.2), (1, .arr none (.int .i64) pv.1)], nid := 2, n := 29, gh := [] }
def yf7 (nf : NF) : Option ((List Int) × (Int × List Int)) := match nf with
  | ([.own 0, .own 1, .r [] (.int .i64 w0)], [.arr none (.int .i64) w1, .arr none (.int .i64) w2], []) => some (w2, (w0, w1))
  | _ => none
theorem yf8 (nf : NF) (v : (List Int) × (Int × List Int)) (h : yf7 nf = some v) : denorm yf2 29 nf = yf6 v := by
  unfold yf7 at h
  split at h
  · cases h; rfl
  · cases h
def yf9 (p : List Int) (x : List Int) : St := { slots := [(3, .own 0)], heap := [(0, .arr none (.int .i64) x)], nid := 1, n := 29, gh := [] }
def yfa (ρ : Type) (k : Nat) : Nat → Ev ρ → Ev ρ := fun id f => cond (Nat.beq id 0) (loopOrc yf2 yf3 (fun n nf => cond (Nat.beq n 29) (yf7 nf) none) fun pv K => iter (fun v next => S_LeftOf_g0 k pv.1 v next (fun x => K (.exit 0) (yf9 pv.1 x))) k pv.2) ((fun _ _ _ _ => none) id f)
theorem yfb {ρ : Type} (k : Nat) (p : List Int) (v : Int × List Int) (K K1 : Ex → St → Option ρ) : ev (yey k) (yfa ρ k) 0 yf1 (yf6 (p, v)) (fun e st' => match e with
    | .normal => (normC yf2 yf3 st').bind fun nf => K1 .normal (denorm yf2 st'.n nf)
    | e => (normC (yf4 e) (yf5 e) st').bind fun nf => K e (denorm (yf4 e) st'.n nf)) = S_LeftOf_g0 k p v (fun v' => K1 .normal (yf6 (p, v'))) (fun x => K (.exit 0) (yf9 p x)) := by kernel_rfl
theorem yfc {ρ : Type} (k : Nat) : Sound Tryz.prog (.loop yf1) (yfa ρ k 0 fun st K => ev (yey k) (yfa ρ k) 0 yf1 st K) :=
  loop_ok (ev_sound (yez k) yf1 0 (lpgood_none (by kernel_rfl))) yf4 yf5 k (g := fun p v next K => S_LeftOf_g0 k p v next (fun x => K (.exit 0) (yf9 p x))) (dec_at yf8) (fun p v K K1 => yfb k p v K K1)
def yfd (a : Job) : List Arg := [.agg [.int .i64 a.model.inp.h, .int .i64 a.model.inp.w, .int .i64 a.model.inp.c, .sl (.st .layer) a.model.layers, .int .i64 a.at_, .int .i64 a.act.sh.h, .int .i64 a.act.sh.w, .int .i64 a.act.sh.c, .sl (.int .i64) a.act.data, .int .i64 a.spent]]
def yfe (l : List Arg) : Option (Job) := match l with
  | [.agg [.int .i64 b0_0, .int .i64 b0_1, .int .i64 b0_2, .sl (.st .layer) b0_3, .int .i64 b0_4, .int .i64 b0_5, .int .i64 b0_6, .int .i64 b0_7, .sl (.int .i64) b0_8, .int .i64 b0_9]] => some (⟨(⟨(⟨b0_0, b0_1, b0_2⟩ : Shape), b0_3⟩ : Model), b0_4, (⟨(⟨b0_5, b0_6, b0_7⟩ : Shape), b0_8⟩ : Tensor), b0_9⟩ : Job)
  | _ => none
def yff (r : List Int) : Out := (.own 0, [.arr none (.int .i64) r])
def yfg (o : Out) : Option (List Int) := match o with
  | (.own 0, [.arr none (.int .i64) z1]) => some z1
  | _ => none
def yfh (k : Nat) : PG := fun _ l K => (yfe l).bind fun a => (S_LeftOf k a).bind fun r => K (yff r)
theorem yfi (k : Nat) (a : Job) : ev (yey k) (yfa (List Int) k) 0 yf0 (st0 Tryz.f65 (yfd a)) (fin Tryz.prog Tryz.f65 (.own (.int .i64)) yfg) = S_LeftOf k a := by kernel_rfl
theorem yfj (k : Nat) : PureOk Tryz.prog 65 (yfh k) :=
  pureOk_of_ev (yez k) Tryz.func65 (by kernel_rfl) (by kernel_rfl) yfd yfe
    (fun l a h => by unfold yfe at h; split at h <;> first | (cases h; rfl) | cases h) (fun a => rfl) (lpgood_of (l := [(0, yf1)]) (by kernel_rfl) ⟨yfc k, trivial⟩)
    (fun o r h => by unfold yfg at h; split at h <;> first | (cases h; rfl) | cases h) (yfi k)
def yfk (k : Nat) : Orc := pureOrc [.agg [(.int .i64), (.int .i64), (.int .i64), (.sl (.st .layer)), (.int .i64), (.int .i64), (.int .i64), (.int .i64), (.sl (.int .i64)), (.int .i64)]] (yfh k)
theorem yfl (k : Nat) : OrcOk Tryz.prog 65 (yfk k) := pureOrc_ok (yfj k)
noncomputable def yfm (k : Nat) : Env := { P := Tryz.prog, tt := tt, orc := fun g => cond (Nat.beq g 65) (yfk k) (noOrc) }
theorem yfn (k : Nat) : EnvOk (yfm k) := fun g => (orc_cond (yfl k) (noOrc_ok _ _))
noncomputable def yfo : Code := (Tryz.f38.body).getD .skip
def yfp (ρ : Type) (k : Nat) : Nat → Ev ρ → Ev ρ := fun _ _ _ _ => none
def yfq (a : Job) : List Arg := [.agg [.int .i64 a.model.inp.h, .int .i64 a.model.inp.w, .int .i64 a.model.inp.c, .sl (.st .layer) a.model.layers, .int .i64 a.at_, .int .i64 a.act.sh.h, .int .i64 a.act.sh.w, .int .i64 a.act.sh.c, .sl (.int .i64) a.act.data, .int .i64 a.spent]]
def yfr (l : List Arg) : Option (Job) := match l with
  | [.agg [.int .i64 b0_0, .int .i64 b0_1, .int .i64 b0_2, .sl (.st .layer) b0_3, .int .i64 b0_4, .int .i64 b0_5, .int .i64 b0_6, .int .i64 b0_7, .sl (.int .i64) b0_8, .int .i64 b0_9]] => some (⟨(⟨(⟨b0_0, b0_1, b0_2⟩ : Shape), b0_3⟩ : Model), b0_4, (⟨(⟨b0_5, b0_6, b0_7⟩ : Shape), b0_8⟩ : Tensor), b0_9⟩ : Job)
  | _ => none
def yfs (r : Int) : Out := (.r [] (.int .i64 r), [])
def yft (o : Out) : Option (Int) := match o with
  | (.r [] (.int .i64 z1), []) => some z1
  | _ => none
def yfu (k : Nat) : PG := fun _ l K => (yfr l).bind fun a => (S_NextCost k a).bind fun r => K (yfs r)
theorem yfv (k : Nat) (a : Job) : ev (yfm k) (yfp (Int) k) 0 yfo (st0 Tryz.f38 (yfq a)) (fin Tryz.prog Tryz.f38 (.sc) yft) = S_NextCost k a := by kernel_rfl
theorem yfw (k : Nat) : PureOk Tryz.prog 38 (yfu k) :=
  pureOk_of_ev (yfn k) Tryz.func38 (by kernel_rfl) (by kernel_rfl) yfq yfr
    (fun l a h => by unfold yfr at h; split at h <;> first | (cases h; rfl) | cases h) (fun a => rfl) (lpgood_none (by kernel_rfl))
    (fun o r h => by unfold yft at h; split at h <;> first | (cases h; rfl) | cases h) (yfv k)
def yfx (k : Nat) : Orc := pureOrc [.agg [(.int .i64), (.int .i64), (.int .i64), (.sl (.st .layer)), (.int .i64), (.int .i64), (.int .i64), (.int .i64), (.sl (.int .i64)), (.int .i64)]] (yfu k)
theorem yfy (k : Nat) : OrcOk Tryz.prog 38 (yfx k) := pureOrc_ok (yfw k)
noncomputable def yfz (k : Nat) : Env := { P := Tryz.prog, tt := tt, orc := fun g => noOrc }
theorem yg0 (k : Nat) : EnvOk (yfz k) := fun g => (noOrc_ok _ _)
noncomputable def yg1 : Code := (Tryz.f115.body).getD .skip
def yg2 (ρ : Type) (k : Nat) : Nat → Ev ρ → Ev ρ := fun _ _ _ _ => none
def yg3 (a : Int × Int × Int) : List Arg := [.one (.int .i64 a.1), .one (.int .i64 a.2.1), .one (.int .i64 a.2.2)]
def yg4 (l : List Arg) : Option (Int × Int × Int) := match l with
  | [.one (.int .i64 b0), .one (.int .i64 b1), .one (.int .i64 b2)] => some (b0, b1, b2)
  | _ => none
def yg5 (r : Int) : Out := (.r [] (.int .i64 r), [])
def yg6 (o : Out) : Option (Int) := match o with
  | (.r [] (.int .i64 z1), []) => some z1
  | _ => none
def yg7 (k : Nat) : PG := fun _ l K => (yg4 l).bind fun a => (S_ClampTo k a.1 a.2.1 a.2.2).bind fun r => K (yg5 r)
theorem yg8 (k : Nat) (a : Int × Int × Int) : ev (yfz k) (yg2 (Int) k) 0 yg1 (st0 Tryz.f115 (yg3 a)) (fin Tryz.prog Tryz.f115 (.sc) yg6) = S_ClampTo k a.1 a.2.1 a.2.2 := by kernel_rfl
theorem yg9 (k : Nat) : PureOk Tryz.prog 115 (yg7 k) :=
  pureOk_of_ev (yg0 k) Tryz.func115 (by kernel_rfl) (by kernel_rfl) yg3 yg4
    (fun l a h => by unfold yg4 at h; split at h <;> first | (cases h; rfl) | cases h) (fun a => rfl) (lpgood_none (by kernel_rfl))
    (fun o r h => by unfold yg6 at h; split at h <;> first | (cases h; rfl) | cases h) (yg8 k)
def yga (k : Nat) : Orc := pureOrc [.one (.int .i64), .one (.int .i64), .one (.int .i64)] (yg7 k)
theorem ygb (k : Nat) : OrcOk Tryz.prog 115 (yga k) := pureOrc_ok (yg9 k)
noncomputable def ygc (k : Nat) : Env := { P := Tryz.prog, tt := tt, orc := fun g => cond (Nat.beq g 115) (yga k) (noOrc) }
theorem ygd (k : Nat) : EnvOk (ygc k) := fun g => (orc_cond (ygb k) (noOrc_ok _ _))
noncomputable def yge : Code := (Tryz.f105.body).getD .skip
def ygf (ρ : Type) (k : Nat) : Nat → Ev ρ → Ev ρ := fun _ _ _ _ => none
def ygg (a : Int) : List Arg := [.one (.int .i64 a)]
def ygh (l : List Arg) : Option (Int) := match l with
  | [.one (.int .i64 b0)] => some b0
  | _ => none
def ygi (r : Int) : Out := (.r [] (.int .i64 r), [])
def ygj (o : Out) : Option (Int) := match o with
  | (.r [] (.int .i64 z1), []) => some z1
  | _ => none
def ygk (k : Nat) : PG := fun _ l K => (ygh l).bind fun a => (S_Sat8 k a).bind fun r => K (ygi r)
theorem ygl (k : Nat) (a : Int) : ev (ygc k) (ygf (Int) k) 0 yge (st0 Tryz.f105 (ygg a)) (fin Tryz.prog Tryz.f105 (.sc) ygj) = S_Sat8 k a := by kernel_rfl
theorem ygm (k : Nat) : PureOk Tryz.prog 105 (ygk k) :=
  pureOk_of_ev (ygd k) Tryz.func105 (by kernel_rfl) (by kernel_rfl) ygg ygh
    (fun l a h => by unfold ygh at h; split at h <;> first | (cases h; rfl) | cases h) (fun a => rfl) (lpgood_none (by kernel_rfl))
    (fun o r h => by unfold ygj at h; split at h <;> first | (cases h; rfl) | cases h) (ygl k)
def ygn (k : Nat) : Orc := pureOrc [.one (.int .i64)] (ygk k)
theorem ygo (k : Nat) : OrcOk Tryz.prog 105 (ygn k) := pureOrc_ok (ygm k)
noncomputable def ygp (k : Nat) : Env := { P := Tryz.prog, tt := tt, orc := fun g => cond (Nat.beq g 115) (yga k) (noOrc) }
theorem ygq (k : Nat) : EnvOk (ygp k) := fun g => (orc_cond (ygb k) (noOrc_ok _ _))
noncomputable def ygr : Code := (Tryz.f108.body).getD .skip
def ygs (ρ : Type) (k : Nat) : Nat → Ev ρ → Ev ρ := fun _ _ _ _ => none
def ygt (a : Int) : List Arg := [.one (.int .i64 a)]
def ygu (l : List Arg) : Option (Int) := match l with
  | [.one (.int .i64 b0)] => some b0
  | _ => none
def ygv (r : Int) : Out := (.r [] (.int .i64 r), [])
def ygw (o : Out) : Option (Int) := match o with
  | (.r [] (.int .i64 z1), []) => some z1
  | _ => none
def ygx (k : Nat) : PG := fun _ l K => (ygu l).bind fun a => (S_Sat32 k a).bind fun r => K (ygv r)
theorem ygy (k : Nat) (a : Int) : ev (ygp k) (ygs (Int) k) 0 ygr (st0 Tryz.f108 (ygt a)) (fin Tryz.prog Tryz.f108 (.sc) ygw) = S_Sat32 k a := by kernel_rfl
theorem ygz (k : Nat) : PureOk Tryz.prog 108 (ygx k) :=
  pureOk_of_ev (ygq k) Tryz.func108 (by kernel_rfl) (by kernel_rfl) ygt ygu
    (fun l a h => by unfold ygu at h; split at h <;> first | (cases h; rfl) | cases h) (fun a => rfl) (lpgood_none (by kernel_rfl))
    (fun o r h => by unfold ygw at h; split at h <;> first | (cases h; rfl) | cases h) (ygy k)
def yh0 (k : Nat) : Orc := pureOrc [.one (.int .i64)] (ygx k)
theorem yh1 (k : Nat) : OrcOk Tryz.prog 108 (yh0 k) := pureOrc_ok (ygz k)
noncomputable def yh2 (k : Nat) : Env := { P := Tryz.prog, tt := tt, orc := fun g => cond (Nat.beq g 108) (yh0 k) (noOrc) }
theorem yh3 (k : Nat) : EnvOk (yh2 k) := fun g => (orc_cond (yh1 k) (noOrc_ok _ _))
noncomputable def yh4 : Code := (Tryz.f88.body).getD .skip
def yh5 (ρ : Type) (k : Nat) : Nat → Ev ρ → Ev ρ := fun _ _ _ _ => none
def yh6 (a : Int × Int) : List Arg := [.one (.int .i64 a.1), .one (.int .i64 a.2)]
def yh7 (l : List Arg) : Option (Int × Int) := match l with
  | [.one (.int .i64 b0), .one (.int .i64 b1)] => some (b0, b1)
  | _ => none
def yh8 (r : Int) : Out := (.r [] (.int .i64 r), [])
def yh9 (o : Out) : Option (Int) := match o with
  | (.r [] (.int .i64 z1), []) => some z1
  | _ => none
def yha (k : Nat) : PG := fun _ l K => (yh7 l).bind fun a => (S_AddSat k a.1 a.2).bind fun r => K (yh8 r)
theorem yhb (k : Nat) (a : Int × Int) : ev (yh2 k) (yh5 (Int) k) 0 yh4 (st0 Tryz.f88 (yh6 a)) (fin Tryz.prog Tryz.f88 (.sc) yh9) = S_AddSat k a.1 a.2 := by kernel_rfl
theorem yhc (k : Nat) : PureOk Tryz.prog 88 (yha k) :=
  pureOk_of_ev (yh3 k) Tryz.func88 (by kernel_rfl) (by kernel_rfl) yh6 yh7
    (fun l a h => by unfold yh7 at h; split at h <;> first | (cases h; rfl) | cases h) (fun a => rfl) (lpgood_none (by kernel_rfl))
    (fun o r h => by unfold yh9 at h; split at h <;> first | (cases h; rfl) | cases h) (yhb k)
def yhd (k : Nat) : Orc := pureOrc [.one (.int .i64), .one (.int .i64)] (yha k)
theorem yhe (k : Nat) : OrcOk Tryz.prog 88 (yhd k) := pureOrc_ok (yhc k)
noncomputable def yhf (k : Nat) : Env := { P := Tryz.prog, tt := tt, orc := fun g => cond (Nat.beq g 88) (yhd k) (cond (Nat.beq g 105) (ygn k) (noOrc)) }
theorem yhg (k : Nat) : EnvOk (yhf k) := fun g => (orc_cond (yhe k) (orc_cond (ygo k) (noOrc_ok _ _)))
noncomputable def yhh : Code := (Tryz.f89.body).getD .skip
noncomputable def yhi : Code := ((loopsIn 0 yhh).getD 0 (0, .skip)).2
def yhj : List Nat := [0, 1, 5, 6]
def yhk : List (Where × Co) := []
def yhl : Ex → List Nat
  | .exit j => cond (Nat.beq j 0) [5] []
  | .ret => []
  | .normal => []
def yhm : Ex → List (Where × Co)
  | .exit j => cond (Nat.beq j 0) [] []
  | .ret => []
  | .normal => []
def yhn (pv : (List Int × List Int) × (Int × Int)) : St := { slots := [(0, .r [] (.sl (.int .i64) pv.1.1)), (1, .r [] (.sl (.int .i64) pv.1.2)), (5, .r [] (.int .i64 pv.2.1)), (6, .r [] (.int .i64 pv.2.2))], heap := [], nid := 0, n := 33, gh := [] }
def yho (nf : NF) : Option ((List Int × List Int) × (Int × Int)) := match nf with
  | ([.r [] (.sl (.int .i64) w0), .r [] (.sl (.int .i64) w1), .r [] (.int .i64 w2), .r [] (.int .i64 w3)], [], []) => some ((w0, w1), (w2, w3))
  | _ => none
theorem yhp (nf : NF) (v : (List Int × List Int) × (Int × Int)) (h : yho nf = some v) : denorm yhj 33 nf = yhn v := by
  unfold yho at h
  split at h
  · cases h; rfl
  · cases h
def yhq (p : List Int × List Int) (x : Int) : St := { slots := [(5, .r [] (.int .i64 x))], heap := [], nid := 0, n := 33, gh := [] }
def yhr (ρ : Type) (k : Nat) : Nat → Ev ρ → Ev ρ := fun id f => cond (Nat.beq id 0) (loopOrc yhj yhk (fun n nf => cond (Nat.beq n 33) (yho nf) none) fun pv K => iter (fun v next => S_DotOf_g0 k pv.1 v next (fun x => K (.exit 0) (yhq pv.1 x))) k pv.2) ((fun _ _ _ _ => none) id f)
theorem yhs {ρ : Type} (k : Nat) (p : List Int × List Int) (v : Int × Int) (K K1 : Ex → St → Option ρ) : ev (yhf k) (yhr ρ k) 0 yhi (yhn (p, v)) (fun e st' => match e with
    | .normal => (normC yhj yhk st').bind fun nf => K1 .normal (denorm yhj st'.n nf)
    | e => (normC (yhl e) (yhm e) st').bind fun nf => K e (denorm (yhl e) st'.n nf)) = S_DotOf_g0 k p v (fun v' => K1 .normal (yhn (p, v'))) (fun x => K (.exit 0) (yhq p x)) := by kernel_rfl
theorem yht {ρ : Type} (k : Nat) : Sound Tryz.prog (.loop yhi) (yhr ρ k 0 fun st K => ev (yhf k) (yhr ρ k) 0 yhi st K) :=
  loop_ok (ev_sound (yhg k) yhi 0 (lpgood_none (by kernel_rfl))) yhl yhm k (g := fun p v next K => S_DotOf_g0 k p v next (fun x => K (.exit 0) (yhq p x))) (dec_at yhp) (fun p v K K1 => yhs k p v K K1)
def yhu (a : List Int × List Int) : List Arg := [.one (.sl (.int .i64) a.1), .one (.sl (.int .i64) a.2)]
def yhv (l : List Arg) : Option (List Int × List Int) := match l with
  | [.one (.sl (.int .i64) b0), .one (.sl (.int .i64) b1)] => some (b0, b1)
  | _ => none
def yhw (r : Int) : Out := (.r [] (.int .i64 r), [])
def yhx (o : Out) : Option (Int) := match o with
  | (.r [] (.int .i64 z1), []) => some z1
  | _ => none
def yhy (k : Nat) : PG := fun _ l K => (yhv l).bind fun a => (S_DotOf k a.1 a.2).bind fun r => K (yhw r)
theorem yhz (k : Nat) (a : List Int × List Int) : ev (yhf k) (yhr (Int) k) 0 yhh (st0 Tryz.f89 (yhu a)) (fin Tryz.prog Tryz.f89 (.sc) yhx) = S_DotOf k a.1 a.2 := by kernel_rfl
theorem yi0 (k : Nat) : PureOk Tryz.prog 89 (yhy k) :=
  pureOk_of_ev (yhg k) Tryz.func89 (by kernel_rfl) (by kernel_rfl) yhu yhv
    (fun l a h => by unfold yhv at h; split at h <;> first | (cases h; rfl) | cases h) (fun a => rfl) (lpgood_of (l := [(0, yhi)]) (by kernel_rfl) ⟨yht k, trivial⟩)
    (fun o r h => by unfold yhx at h; split at h <;> first | (cases h; rfl) | cases h) (yhz k)
def yi1 (k : Nat) : Orc := pureOrc [.one (.sl (.int .i64)), .one (.sl (.int .i64))] (yhy k)
theorem yi2 (k : Nat) : OrcOk Tryz.prog 89 (yi1 k) := pureOrc_ok (yi0 k)
noncomputable def yi3 (k : Nat) : Env := { P := Tryz.prog, tt := tt, orc := fun g => noOrc }
theorem yi4 (k : Nat) : EnvOk (yi3 k) := fun g => (noOrc_ok _ _)
noncomputable def yi5 : Code := (Tryz.f116.body).getD .skip
def yi6 (ρ : Type) (k : Nat) : Nat → Ev ρ → Ev ρ := fun _ _ _ _ => none
def yi7 (a : Int × Int) : List Arg := [.one (.int .i64 a.1), .one (.int .i64 a.2)]
def yi8 (l : List Arg) : Option (Int × Int) := match l with
  | [.one (.int .i64 b0), .one (.int .i64 b1)] => some (b0, b1)
  | _ => none
def yi9 (r : Int) : Out := (.r [] (.int .i64 r), [])
def yia (o : Out) : Option (Int) := match o with
  | (.r [] (.int .i64 z1), []) => some z1
  | _ => none
def yib (k : Nat) : PG := fun _ l K => (yi8 l).bind fun a => (S_l01Down k a.1 a.2).bind fun r => K (yi9 r)
theorem yic (k : Nat) (a : Int × Int) : ev (yi3 k) (yi6 (Int) k) 0 yi5 (st0 Tryz.f116 (yi7 a)) (fin Tryz.prog Tryz.f116 (.sc) yia) = S_l01Down k a.1 a.2 := by kernel_rfl
theorem yid (k : Nat) : PureOk Tryz.prog 116 (yib k) :=
  pureOk_of_ev (yi4 k) Tryz.func116 (by kernel_rfl) (by kernel_rfl) yi7 yi8
    (fun l a h => by unfold yi8 at h; split at h <;> first | (cases h; rfl) | cases h) (fun a => rfl) (lpgood_none (by kernel_rfl))
    (fun o r h => by unfold yia at h; split at h <;> first | (cases h; rfl) | cases h) (yic k)
def yie (k : Nat) : Orc := pureOrc [.one (.int .i64), .one (.int .i64)] (yib k)
theorem yif (k : Nat) : OrcOk Tryz.prog 116 (yie k) := pureOrc_ok (yid k)
noncomputable def yig (k : Nat) : Env := { P := Tryz.prog, tt := tt, orc := fun g => cond (Nat.beq g 108) (yh0 k) (cond (Nat.beq g 116) (yie k) (noOrc)) }
theorem yih (k : Nat) : EnvOk (yig k) := fun g => (orc_cond (yh1 k) (orc_cond (yif k) (noOrc_ok _ _)))
noncomputable def yii : Code := (Tryz.f107.body).getD .skip
def yij (ρ : Type) (k : Nat) : Nat → Ev ρ → Ev ρ := fun _ _ _ _ => none
def yik (a : Int × Int) : List Arg := [.one (.int .i64 a.1), .one (.int .i64 a.2)]
def yil (l : List Arg) : Option (Int × Int) := match l with
  | [.one (.int .i64 b0), .one (.int .i64 b1)] => some (b0, b1)
  | _ => none
def yim (r : Int) : Out := (.r [] (.int .i64 r), [])
def yin (o : Out) : Option (Int) := match o with
  | (.r [] (.int .i64 z1), []) => some z1
  | _ => none
def yio (k : Nat) : PG := fun _ l K => (yil l).bind fun a => (S_MulHigh k a.1 a.2).bind fun r => K (yim r)
theorem yip (k : Nat) (a : Int × Int) : ev (yig k) (yij (Int) k) 0 yii (st0 Tryz.f107 (yik a)) (fin Tryz.prog Tryz.f107 (.sc) yin) = S_MulHigh k a.1 a.2 := by kernel_rfl
theorem yiq (k : Nat) : PureOk Tryz.prog 107 (yio k) :=
  pureOk_of_ev (yih k) Tryz.func107 (by kernel_rfl) (by kernel_rfl) yik yil
    (fun l a h => by unfold yil at h; split at h <;> first | (cases h; rfl) | cases h) (fun a => rfl) (lpgood_none (by kernel_rfl))
    (fun o r h => by unfold yin at h; split at h <;> first | (cases h; rfl) | cases h) (yip k)
def yir (k : Nat) : Orc := pureOrc [.one (.int .i64), .one (.int .i64)] (yio k)
theorem yis (k : Nat) : OrcOk Tryz.prog 107 (yir k) := pureOrc_ok (yiq k)
noncomputable def yit (k : Nat) : Env := { P := Tryz.prog, tt := tt, orc := fun g => cond (Nat.beq g 108) (yh0 k) (cond (Nat.beq g 115) (yga k) (noOrc)) }
theorem yiu (k : Nat) : EnvOk (yit k) := fun g => (orc_cond (yh1 k) (orc_cond (ygb k) (noOrc_ok _ _)))
noncomputable def yiv : Code := (Tryz.f106.body).getD .skip
def yiw (ρ : Type) (k : Nat) : Nat → Ev ρ → Ev ρ := fun _ _ _ _ => none
def yix (a : Int × Int) : List Arg := [.one (.int .i64 a.1), .one (.int .i64 a.2)]
def yiy (l : List Arg) : Option (Int × Int) := match l with
  | [.one (.int .i64 b0), .one (.int .i64 b1)] => some (b0, b1)
  | _ => none
def yiz (r : Int) : Out := (.r [] (.int .i64 r), [])
def yj0 (o : Out) : Option (Int) := match o with
  | (.r [] (.int .i64 z1), []) => some z1
  | _ => none
def yj1 (k : Nat) : PG := fun _ l K => (yiy l).bind fun a => (S_RoundShift k a.1 a.2).bind fun r => K (yiz r)
theorem yj2 (k : Nat) (a : Int × Int) : ev (yit k) (yiw (Int) k) 0 yiv (st0 Tryz.f106 (yix a)) (fin Tryz.prog Tryz.f106 (.sc) yj0) = S_RoundShift k a.1 a.2 := by kernel_rfl
theorem yj3 (k : Nat) : PureOk Tryz.prog 106 (yj1 k) :=
  pureOk_of_ev (yiu k) Tryz.func106 (by kernel_rfl) (by kernel_rfl) yix yiy
    (fun l a h => by unfold yiy at h; split at h <;> first | (cases h; rfl) | cases h) (fun a => rfl) (lpgood_none (by kernel_rfl))
    (fun o r h => by unfold yj0 at h; split at h <;> first | (cases h; rfl) | cases h) (yj2 k)
def yj4 (k : Nat) : Orc := pureOrc [.one (.int .i64), .one (.int .i64)] (yj1 k)
theorem yj5 (k : Nat) : OrcOk Tryz.prog 106 (yj4 k) := pureOrc_ok (yj3 k)
noncomputable def yj6 (k : Nat) : Env := { P := Tryz.prog, tt := tt, orc := fun g => cond (Nat.beq g 105) (ygn k) (cond (Nat.beq g 106) (yj4 k) (cond (Nat.beq g 107) (yir k) (noOrc))) }
theorem yj7 (k : Nat) : EnvOk (yj6 k) := fun g => (orc_cond (ygo k) (orc_cond (yj5 k) (orc_cond (yis k) (noOrc_ok _ _))))
noncomputable def yj8 : Code := (Tryz.f87.body).getD .skip
def yj9 (ρ : Type) (k : Nat) : Nat → Ev ρ → Ev ρ := fun _ _ _ _ => none
def yja (a : Int × Int × Int × Int) : List Arg := [.one (.int .i64 a.1), .one (.int .i64 a.2.1), .one (.int .i64 a.2.2.1), .one (.int .i64 a.2.2.2)]
def yjb (l : List Arg) : Option (Int × Int × Int × Int) := match l with
  | [.one (.int .i64 b0), .one (.int .i64 b1), .one (.int .i64 b2), .one (.int .i64 b3)] => some (b0, b1, b2, b3)
  | _ => none
def yjc (r : Int) : Out := (.r [] (.int .i64 r), [])
def yjd (o : Out) : Option (Int) := match o with
  | (.r [] (.int .i64 z1), []) => some z1
  | _ => none
def yje (k : Nat) : PG := fun _ l K => (yjb l).bind fun a => (S_Requant k a.1 a.2.1 a.2.2.1 a.2.2.2).bind fun r => K (yjc r)
theorem yjf (k : Nat) (a : Int × Int × Int × Int) : ev (yj6 k) (yj9 (Int) k) 0 yj8 (st0 Tryz.f87 (yja a)) (fin Tryz.prog Tryz.f87 (.sc) yjd) = S_Requant k a.1 a.2.1 a.2.2.1 a.2.2.2 := by kernel_rfl
theorem yjg (k : Nat) : PureOk Tryz.prog 87 (yje k) :=
  pureOk_of_ev (yj7 k) Tryz.func87 (by kernel_rfl) (by kernel_rfl) yja yjb
    (fun l a h => by unfold yjb at h; split at h <;> first | (cases h; rfl) | cases h) (fun a => rfl) (lpgood_none (by kernel_rfl))
    (fun o r h => by unfold yjd at h; split at h <;> first | (cases h; rfl) | cases h) (yjf k)
def yjh (k : Nat) : Orc := pureOrc [.one (.int .i64), .one (.int .i64), .one (.int .i64), .one (.int .i64)] (yje k)
theorem yji (k : Nat) : OrcOk Tryz.prog 87 (yjh k) := pureOrc_ok (yjg k)
noncomputable def yjj (k : Nat) : Env := { P := Tryz.prog, tt := tt, orc := fun g => cond (Nat.beq g 44) (y8y k) (cond (Nat.beq g 69) (y9b k) (noOrc)) }
theorem yjk (k : Nat) : EnvOk (yjj k) := fun g => (orc_cond (y8z k) (orc_cond (y9c k) (noOrc_ok _ _)))
noncomputable def yjl : Code := (Tryz.f109.body).getD .skip
def yjm (ρ : Type) (k : Nat) : Nat → Ev ρ → Ev ρ := fun _ _ _ _ => none
def yjn (a : Shape × Int × Int × Int) : List Arg := [.agg [.int .i64 a.1.h, .int .i64 a.1.w, .int .i64 a.1.c], .one (.int .i64 a.2.1), .one (.int .i64 a.2.2.1), .one (.int .i64 a.2.2.2)]
def yjo (l : List Arg) : Option (Shape × Int × Int × Int) := match l with
  | [.agg [.int .i64 b0_0, .int .i64 b0_1, .int .i64 b0_2], .one (.int .i64 b1), .one (.int .i64 b2), .one (.int .i64 b3)] => some ((⟨b0_0, b0_1, b0_2⟩ : Shape), b1, b2, b3)
  | _ => none
def yjp (r : Int) : Out := (.r [] (.int .i64 r), [])
def yjq (o : Out) : Option (Int) := match o with
  | (.r [] (.int .i64 z1), []) => some z1
  | _ => none
def yjr (k : Nat) : PG := fun _ l K => (yjo l).bind fun a => (S_PlaceOf k a.1 a.2.1 a.2.2.1 a.2.2.2).bind fun r => K (yjp r)
theorem yjs (k : Nat) (a : Shape × Int × Int × Int) : ev (yjj k) (yjm (Int) k) 0 yjl (st0 Tryz.f109 (yjn a)) (fin Tryz.prog Tryz.f109 (.sc) yjq) = S_PlaceOf k a.1 a.2.1 a.2.2.1 a.2.2.2 := by kernel_rfl
theorem yjt (k : Nat) : PureOk Tryz.prog 109 (yjr k) :=
  pureOk_of_ev (yjk k) Tryz.func109 (by kernel_rfl) (by kernel_rfl) yjn yjo
    (fun l a h => by unfold yjo at h; split at h <;> first | (cases h; rfl) | cases h) (fun a => rfl) (lpgood_none (by kernel_rfl))
    (fun o r h => by unfold yjq at h; split at h <;> first | (cases h; rfl) | cases h) (yjs k)
def yju (k : Nat) : Orc := pureOrc [.agg [(.int .i64), (.int .i64), (.int .i64)], .one (.int .i64), .one (.int .i64), .one (.int .i64)] (yjr k)
theorem yjv (k : Nat) : OrcOk Tryz.prog 109 (yju k) := pureOrc_ok (yjt k)
noncomputable def yjw (k : Nat) : Env := { P := Tryz.prog, tt := tt, orc := fun g => cond (Nat.beq g 45) (yct k) (cond (Nat.beq g 109) (yju k) (noOrc)) }
theorem yjx (k : Nat) : EnvOk (yjw k) := fun g => (orc_cond (ycu k) (orc_cond (yjv k) (noOrc_ok _ _)))
noncomputable def yjy : Code := (Tryz.f90.body).getD .skip
def yjz (ρ : Type) (k : Nat) : Nat → Ev ρ → Ev ρ := fun _ _ _ _ => none
def yk0 (a : Tensor × Int × Int × Int) : List Arg := [.agg [.int .i64 a.1.sh.h, .int .i64 a.1.sh.w, .int .i64 a.1.sh.c, .sl (.int .i64) a.1.data], .one (.int .i64 a.2.1), .one (.int .i64 a.2.2.1), .one (.int .i64 a.2.2.2)]
def yk1 (l : List Arg) : Option (Tensor × Int × Int × Int) := match l with
  | [.agg [.int .i64 b0_0, .int .i64 b0_1, .int .i64 b0_2, .sl (.int .i64) b0_3], .one (.int .i64 b1), .one (.int .i64 b2), .one (.int .i64 b3)] => some ((⟨(⟨b0_0, b0_1, b0_2⟩ : Shape), b0_3⟩ : Tensor), b1, b2, b3)
  | _ => none
def yk2 (r : Int × Bool) : Out := (.tup [.r [] (.int .i64 r.1), .r [] (.bool r.2)], [])
def yk3 (o : Out) : Option (Int × Bool) := match o with
  | (.tup [.r [] (.int .i64 z1), .r [] (.bool z2)], []) => some (z1, z2)
  | _ => none
def yk4 (k : Nat) : PG := fun _ l K => (yk1 l).bind fun a => (S_ItemAt k a.1 a.2.1 a.2.2.1 a.2.2.2).bind fun r => K (yk2 r)
theorem yk5 (k : Nat) (a : Tensor × Int × Int × Int) : ev (yjw k) (yjz (Int × Bool) k) 0 yjy (st0 Tryz.f90 (yk0 a)) (fin Tryz.prog Tryz.f90 (.tup [.sc, .sc]) yk3) = S_ItemAt k a.1 a.2.1 a.2.2.1 a.2.2.2 := by kernel_rfl
theorem yk6 (k : Nat) : PureOk Tryz.prog 90 (yk4 k) :=
  pureOk_of_ev (yjx k) Tryz.func90 (by kernel_rfl) (by kernel_rfl) yk0 yk1
    (fun l a h => by unfold yk1 at h; split at h <;> first | (cases h; rfl) | cases h) (fun a => rfl) (lpgood_none (by kernel_rfl))
    (fun o r h => by unfold yk3 at h; split at h <;> first | (cases h; rfl) | cases h) (yk5 k)
def yk7 (k : Nat) : Orc := pureOrc [.agg [(.int .i64), (.int .i64), (.int .i64), (.sl (.int .i64))], .one (.int .i64), .one (.int .i64), .one (.int .i64)] (yk4 k)
theorem yk8 (k : Nat) : OrcOk Tryz.prog 90 (yk7 k) := pureOrc_ok (yk6 k)
noncomputable def yk9 (k : Nat) : Env := { P := Tryz.prog, tt := tt, orc := fun g => cond (Nat.beq g 90) (yk7 k) (noOrc) }
theorem yka (k : Nat) : EnvOk (yk9 k) := fun g => (orc_cond (yk8 k) (noOrc_ok _ _))
noncomputable def ykb : Code := (Tryz.f91.body).getD .skip
noncomputable def ykc : Code := ((loopsIn 0 ykb).getD 0 (0, .skip)).2
noncomputable def ykd : Code := ((loopsIn 0 ykc).getD 0 (0, .skip)).2
def yke : List Nat := [2, 3, 4, 5, 6, 11, 12, 13]
def ykf : List (Where × Co) := []
def ykg : Ex → List Nat
  | .exit j => cond (Nat.beq j 2) [2, 3, 4, 5, 6, 11, 12] []
  | .ret => []
  | .normal => []
def ykh : Ex → List (Where × Co)
  | .exit j => cond (Nat.beq j 2) [] []
  | .ret => []
  | .normal => []
def yki (pv : (Int × Int × Int × Int × Int × Int × Int × List Int × Int × Int × Int × Int × Int × Int × Int × List Int × List Int) × (Int × List Int)) : St := { slots := [(2, .r [] (.int .i64 pv.1.1)), (3, .r [] (.int .i64 pv.1.2.1)), (4, .r [] (.int .i64 pv.1.2.2.1)), (5, .ptr 0 0 0), (6, .ptr 1 0 0), (11, .own 2), (12, .r [] (.int .i64 pv.1.2.2.2.1)), (13, .r [] (.int .i64 pv.2.1))], heap := [(0, .box [.r [] (.int .i64 pv.1.2.2.2.2.1), .r [] (.int .i64 pv.1.2.2.2.2.2.1), .r [] (.int .i64 pv.1.2.2.2.2.2.2.1), .r [] (.sl (.int .i64) pv.1.2.2.2.2.2.2.2.1)]), (1, .box [.r [] (.int .i64 pv.1.2.2.2.2.2.2.2.2.1), .r [] (.int .i64 pv.1.2.2.2.2.2.2.2.2.2.1), .r [] (.int .i64 pv.1.2.2.2.2.2.2.2.2.2.2.1), .r [] (.int .i64 pv.1.2.2.2.2.2.2.2.2.2.2.2.1), .r [] (.int .i64 pv.1.2.2.2.2.2.2.2.2.2.2.2.2.1), .r [] (.int .i64 pv.1.2.2.2.2.2.2.2.2.2.2.2.2.2.1), .r [] (.int .i64 pv.1.2.2.2.2.2.2.2.2.2.2.2.2.2.2.1), .r [] (.sl (.int .i64) pv.1.2.2.2.2.2.2.2.2.2.2.2.2.2.2.2.1), .r [] (.sl (.int .i64) pv.1.2.2.2.2.2.2.2.2.2.2.2.2.2.2.2.2)]), (2, .arr none (.int .i64) pv.2.2)], nid := 3, n := 52, gh := [] }
def ykj (nf : NF) : Option ((Int × Int × Int × Int × Int × Int × Int × List Int × Int × Int × Int × Int × Int × Int × Int × List Int × List Int) × (Int × List Int)) := match nf with
  | ([.r [] (.int .i64 w0), .r [] (.int .i64 w1), .r [] (.int .i64 w2), .ptr 0 0 0, .ptr 1 0 0, .own 2, .r [] (.int .i64 w3), .r [] (.int .i64 w4)], [.box [.r [] (.int .i64 w5), .r [] (.int .i64 w6), .r [] (.int .i64 w7), .r [] (.sl (.int .i64) w8)], .box [.r [] (.int .i64 w9), .r [] (.int .i64 w10), .r [] (.int .i64 w11), .r [] (.int .i64 w12), .r [] (.int .i64 w13), .r [] (.int .i64 w14), .r [] (.int .i64 w15), .r [] (.sl (.int .i64) w16), .r [] (.sl (.int .i64) w17)], .arr none (.int .i64) w18], []) => some ((w0, w1, w2, w3, w5, w6, w7, w8, w9, w10, w11, w12, w13, w14, w15, w16, w17), (w4, w18))
  | _ => none
theorem ykk (nf : NF) (v : (Int × Int × Int × Int × Int × Int × Int × List Int × Int × Int × Int × Int × Int × Int × Int × List Int × List Int) × (Int × List Int)) (h : ykj nf = some v) : denorm yke 52 nf = yki v := by
  unfold ykj at h
  split at h
  · cases h; rfl
  · cases h
def ykl (p : Int × Int × Int × Int × Int × Int × Int × List Int × Int × Int × Int × Int × Int × Int × Int × List Int × List Int) (x : List Int) : St := { slots := [(2, .r [] (.int .i64 p.1)), (3, .r [] (.int .i64 p.2.1)), (4, .r [] (.int .i64 p.2.2.1)), (5, .ptr 0 0 0), (6, .ptr 1 0 0), (11, .own 2), (12, .r [] (.int .i64 p.2.2.2.1))], heap := [(0, .box [.r [] (.int .i64 p.2.2.2.2.1), .r [] (.int .i64 p.2.2.2.2.2.1), .r [] (.int .i64 p.2.2.2.2.2.2.1), .r [] (.sl (.int .i64) p.2.2.2.2.2.2.2.1)]), (1, .box [.r [] (.int .i64 p.2.2.2.2.2.2.2.2.1), .r [] (.int .i64 p.2.2.2.2.2.2.2.2.2.1), .r [] (.int .i64 p.2.2.2.2.2.2.2.2.2.2.1), .r [] (.int .i64 p.2.2.2.2.2.2.2.2.2.2.2.1), .r [] (.int .i64 p.2.2.2.2.2.2.2.2.2.2.2.2.1), .r [] (.int .i64 p.2.2.2.2.2.2.2.2.2.2.2.2.2.1), .r [] (.int .i64 p.2.2.2.2.2.2.2.2.2.2.2.2.2.2.1), .r [] (.sl (.int .i64) p.2.2.2.2.2.2.2.2.2.2.2.2.2.2.2.1), .r [] (.sl (.int .i64) p.2.2.2.2.2.2.2.2.2.2.2.2.2.2.2.2)]), (2, .arr none (.int .i64) x)], nid := 3, n := 52, gh := [] }
def ykm : List Nat := [2, 3, 4, 5, 6, 11, 12]
def ykn : List (Where × Co) := []
def yko : Ex → List Nat
  | .exit j => cond (Nat.beq j 0) [11] []
  | .ret => []
  | .normal => []
def ykp : Ex → List (Where × Co)
  | .exit j => cond (Nat.beq j 0) [] []
  | .ret => []
  | .normal => []
def ykq (pv : (Int × Int × Int × Int × Int × Int × List Int × Int × Int × Int × Int × Int × Int × Int × List Int × List Int) × (Int × List Int)) : St := { slots := [(2, .r [] (.int .i64 pv.1.1)), (3, .r [] (.int .i64 pv.1.2.1)), (4, .r [] (.int .i64 pv.1.2.2.1)), (5, .ptr 0 0 0), (6, .ptr 1 0 0), (11, .own 2), (12, .r [] (.int .i64 pv.2.1))], heap := [(0, .box [.r [] (.int .i64 pv.1.2.2.2.1), .r [] (.int .i64 pv.1.2.2.2.2.1), .r [] (.int .i64 pv.1.2.2.2.2.2.1), .r [] (.sl (.int .i64) pv.1.2.2.2.2.2.2.1)]), (1, .box [.r [] (.int .i64 pv.1.2.2.2.2.2.2.2.1), .r [] (.int .i64 pv.1.2.2.2.2.2.2.2.2.1), .r [] (.int .i64 pv.1.2.2.2.2.2.2.2.2.2.1), .r [] (.int .i64 pv.1.2.2.2.2.2.2.2.2.2.2.1), .r [] (.int .i64 pv.1.2.2.2.2.2.2.2.2.2.2.2.1), .r [] (.int .i64 pv.1.2.2.2.2.2.2.2.2.2.2.2.2.1), .r [] (.int .i64 pv.1.2.2.2.2.2.2.2.2.2.2.2.2.2.1), .r [] (.sl (.int .i64) pv.1.2.2.2.2.2.2.2.2.2.2.2.2.2.2.1), .r [] (.sl (.int .i64) pv.1.2.2.2.2.2.2.2.2.2.2.2.2.2.2.2)]), (2, .arr none (.int .i64) pv.2.2)], nid := 3, n := 52, gh := [] }
def ykr (nf : NF) : Option ((Int × Int × Int × Int × Int × Int × List Int × Int × Int × Int × Int × Int × Int × Int × List Int × List Int) × (Int × List Int)) := match nf with
  | ([.r [] (.int .i64 w0), .r [] (.int .i64 w1), .r [] (.int .i64 w2), .ptr 0 0 0, .ptr 1 0 0, .own 2, .r [] (.int .i64 w3)], [.box [.r [] (.int .i64 w4), .r [] (.int .i64 w5), .r [] (.int .i64 w6), .r [] (.sl (.int .i64) w7)], .box [.r [] (.int .i64 w8), .r [] (.int .i64 w9), .r [] (.int .i64 w10), .r [] (.int .i64 w11), .r [] (.int .i64 w12), .r [] (.int .i64 w13), .r [] (.int .i64 w14), .r [] (.sl (.int .i64) w15), .r [] (.sl (.int .i64) w16)], .arr none (.int .i64) w17], []) => some ((w0, w1, w2, w4, w5, w6, w7, w8, w9, w10, w11, w12, w13, w14, w15, w16), (w3, w17))
  | _ => none
theorem yks (nf : NF) (v : (Int × Int × Int × Int × Int × Int × List Int × Int × Int × Int × Int × Int × Int × Int × List Int × List Int) × (Int × List Int)) (h : ykr nf = some v) : denorm ykm 52 nf = ykq v := by
  unfold ykr at h
  split at h
  · cases h; rfl
  · cases h
def ykt (p : Int × Int × Int × Int × Int × Int × List Int × Int × Int × Int × Int × Int × Int × Int × List Int × List Int) (x : List Int) : St := { slots := [(11, .own 0)], heap := [(0, .arr none (.int .i64) x)], nid := 1, n := 52, gh := [] }
def yku (ρ : Type) (k : Nat) : Nat → Ev ρ → Ev ρ := fun id f => cond (Nat.beq id 0) (loopOrc ykm ykn (fun n nf => cond (Nat.beq n 52) (ykr nf) none) fun pv K => iter (fun v next => S_l03Pool_g0 k pv.1 v next (fun x => K (.exit 0) (ykt pv.1 x))) k pv.2) ((fun id f => cond (Nat.beq id 2) (loopOrc yke ykf (fun n nf => cond (Nat.beq n 52) (ykj nf) none) fun pv K => iter (fun v next => S_l03Pool_g1 k pv.1 v next (fun x => K (.exit 2) (ykl pv.1 x))) k pv.2) ((fun _ _ _ _ => none) id f)) id f)
theorem ykv {ρ : Type} (k : Nat) (p : Int × Int × Int × Int × Int × Int × Int × List Int × Int × Int × Int × Int × Int × Int × Int × List Int × List Int) (v : Int × List Int) (K K1 : Ex → St → Option ρ) : ev (yk9 k) (yku ρ k) 2 ykd (yki (p, v)) (fun e st' => match e with
    | .normal => (normC yke ykf st').bind fun nf => K1 .normal (denorm yke st'.n nf)
    | e => (normC (ykg e) (ykh e) st').bind fun nf => K e (denorm (ykg e) st'.n nf)) = S_l03Pool_g1 k p v (fun v' => K1 .normal (yki (p, v'))) (fun x => K (.exit 2) (ykl p x)) := by kernel_rfl
theorem ykw {ρ : Type} (k : Nat) : Sound Tryz.prog (.loop ykd) (yku ρ k 2 fun st K => ev (yk9 k) (yku ρ k) 2 ykd st K) :=
  loop_ok (ev_sound (yka k) ykd 2 (lpgood_none (by kernel_rfl))) ykg ykh k (g := fun p v next K => S_l03Pool_g1 k p v next (fun x => K (.exit 2) (ykl p x))) (dec_at ykk) (fun p v K K1 => ykv k p v K K1)
theorem ykx {ρ : Type} (k : Nat) (p : Int × Int × Int × Int × Int × Int × List Int × Int × Int × Int × Int × Int × Int × Int × List Int × List Int) (v : Int × List Int) (K K1 : Ex → St → Option ρ) : ev (yk9 k) (yku ρ k) 0 ykc (ykq (p, v)) (fun e st' => match e with
    | .normal => (normC ykm ykn st').bind fun nf => K1 .normal (denorm ykm st'.n nf)
    | e => (normC (yko e) (ykp e) st').bind fun nf => K e (denorm (yko e) st'.n nf)) = S_l03Pool_g0 k p v (fun v' => K1 .normal (ykq (p, v'))) (fun x => K (.exit 0) (ykt p x)) := by kernel_rfl
theorem yky {ρ : Type} (k : Nat) : Sound Tryz.prog (.loop ykc) (yku ρ k 0 fun st K => ev (yk9 k) (yku ρ k) 0 ykc st K) :=
  loop_ok (ev_sound (yka k) ykc 0 (lpgood_of (l := [(2, ykd)]) (by kernel_rfl) ⟨ykw k, trivial⟩)) yko ykp k (g := fun p v next K => S_l03Pool_g0 k p v next (fun x => K (.exit 0) (ykt p x))) (dec_at yks) (fun p v K K1 => ykx k p v K K1)
def ykz (a : Tensor × Layer × Int × Int × Int) : List Arg := [.agg [.int .i64 a.1.sh.h, .int .i64 a.1.sh.w, .int .i64 a.1.sh.c, .sl (.int .i64) a.1.data], .agg [.int .i64 a.2.1.kind, .int .i64 a.2.1.out, .int .i64 a.2.1.size, .int .i64 a.2.1.step, .int .i64 a.2.1.mult, .int .i64 a.2.1.shift, .int .i64 a.2.1.zero, .sl (.int .i64) a.2.1.weights, .sl (.int .i64) a.2.1.bias], .one (.int .i64 a.2.2.1), .one (.int .i64 a.2.2.2.1), .one (.int .i64 a.2.2.2.2)]
def yl0 (l : List Arg) : Option (Tensor × Layer × Int × Int × Int) := match l with
  | [.agg [.int .i64 b0_0, .int .i64 b0_1, .int .i64 b0_2, .sl (.int .i64) b0_3], .agg [.int .i64 b1_0, .int .i64 b1_1, .int .i64 b1_2, .int .i64 b1_3, .int .i64 b1_4, .int .i64 b1_5, .int .i64 b1_6, .sl (.int .i64) b1_7, .sl (.int .i64) b1_8], .one (.int .i64 b2), .one (.int .i64 b3), .one (.int .i64 b4)] => some ((⟨(⟨b0_0, b0_1, b0_2⟩ : Shape), b0_3⟩ : Tensor), (⟨b1_0, b1_1, b1_2, b1_3, b1_4, b1_5, b1_6, b1_7, b1_8⟩ : Layer), b2, b3, b4)
  | _ => none
def yl1 (r : List Int) : Out := (.own 0, [.arr none (.int .i64) r])
def yl2 (o : Out) : Option (List Int) := match o with
  | (.own 0, [.arr none (.int .i64) z1]) => some z1
  | _ => none
def yl3 (k : Nat) : PG := fun _ l K => (yl0 l).bind fun a => (S_l03Pool k a.1 a.2.1 a.2.2.1 a.2.2.2.1 a.2.2.2.2).bind fun r => K (yl1 r)
theorem yl4 (k : Nat) (a : Tensor × Layer × Int × Int × Int) : ev (yk9 k) (yku (List Int) k) 0 ykb (st0 Tryz.f91 (ykz a)) (fin Tryz.prog Tryz.f91 (.own (.int .i64)) yl2) = S_l03Pool k a.1 a.2.1 a.2.2.1 a.2.2.2.1 a.2.2.2.2 := by kernel_rfl
theorem yl5 (k : Nat) : PureOk Tryz.prog 91 (yl3 k) :=
  pureOk_of_ev (yka k) Tryz.func91 (by kernel_rfl) (by kernel_rfl) ykz yl0
    (fun l a h => by unfold yl0 at h; split at h <;> first | (cases h; rfl) | cases h) (fun a => rfl) (lpgood_of (l := [(0, ykc)]) (by kernel_rfl) ⟨yky k, trivial⟩)
    (fun o r h => by unfold yl2 at h; split at h <;> first | (cases h; rfl) | cases h) (yl4 k)
def yl6 (k : Nat) : Orc := pureOrc [.agg [(.int .i64), (.int .i64), (.int .i64), (.sl (.int .i64))], .agg [(.int .i64), (.int .i64), (.int .i64), (.int .i64), (.int .i64), (.int .i64), (.int .i64), (.sl (.int .i64)), (.sl (.int .i64))], .one (.int .i64), .one (.int .i64), .one (.int .i64)] (yl3 k)
theorem yl7 (k : Nat) : OrcOk Tryz.prog 91 (yl6 k) := pureOrc_ok (yl5 k)
noncomputable def yl8 (k : Nat) : Env := { P := Tryz.prog, tt := tt, orc := fun g => cond (Nat.beq g 70) (yb2 k) (cond (Nat.beq g 87) (yjh k) (cond (Nat.beq g 88) (yhd k) (cond (Nat.beq g 89) (yi1 k) (cond (Nat.beq g 90) (yk7 k) (cond (Nat.beq g 91) (yl6 k) (noOrc)))))) }
theorem yl9 (k : Nat) : EnvOk (yl8 k) := fun g => (orc_cond (yb3 k) (orc_cond (yji k) (orc_cond (yhe k) (orc_cond (yi2 k) (orc_cond (yk8 k) (orc_cond (yl7 k) (noOrc_ok _ _)))))))
noncomputable def yla : Code := (Tryz.f64.body).getD .skip
noncomputable def ylb : Code := ((loopsIn 0 yla).getD 0 (0, .skip)).2
noncomputable def ylc : Code := ((loopsIn 1 ylb).getD 0 (0, .skip)).2
noncomputable def yld : Code := ((loopsIn 3 ylc).getD 0 (0, .skip)).2
noncomputable def yle : Code := ((loopsIn 0 yla).getD 1 (0, .skip)).2
noncomputable def ylf : Code := ((loopsIn 0 yla).getD 2 (0, .skip)).2
def ylg : List Nat := [2, 3, 4, 5, 6, 11, 13, 14, 15, 16]
def ylh : List (Where × Co) := []
def yli : Ex → List Nat
  | .exit j => cond (Nat.beq j 5) [2, 3, 4, 5, 6, 11, 13, 14, 15] []
  | .ret => []
  | .normal => []
def ylj : Ex → List (Where × Co)
  | .exit j => cond (Nat.beq j 5) [] []
  | .ret => []
  | .normal => []
def ylk (pv : (Int × Int × Int × Int × Int × Int × Int × Int × List Int × Int × Int × Int × Int × Int × Int × Int × List Int × List Int × Int × Int × Int) × (Int × Int)) : St := { slots := [(2, .r [] (.int .i64 pv.1.1)), (3, .r [] (.int .i64 pv.1.2.1)), (4, .r [] (.int .i64 pv.1.2.2.1)), (5, .ptr 0 0 0), (6, .ptr 1 0 0), (11, .ptr 2 0 0), (13, .r [] (.int .i64 pv.2.1)), (14, .r [] (.int .i64 pv.1.2.2.2.1)), (15, .r [] (.int .i64 pv.1.2.2.2.2.1)), (16, .r [] (.int .i64 pv.2.2))], heap := [(0, .box [.r [] (.int .i64 pv.1.2.2.2.2.2.1), .r [] (.int .i64 pv.1.2.2.2.2.2.2.1), .r [] (.int .i64 pv.1.2.2.2.2.2.2.2.1), .r [] (.sl (.int .i64) pv.1.2.2.2.2.2.2.2.2.1)]), (1, .box [.r [] (.int .i64 pv.1.2.2.2.2.2.2.2.2.2.1), .r [] (.int .i64 pv.1.2.2.2.2.2.2.2.2.2.2.1), .r [] (.int .i64 pv.1.2.2.2.2.2.2.2.2.2.2.2.1), .r [] (.int .i64 pv.1.2.2.2.2.2.2.2.2.2.2.2.2.1), .r [] (.int .i64 pv.1.2.2.2.2.2.2.2.2.2.2.2.2.2.1), .r [] (.int .i64 pv.1.2.2.2.2.2.2.2.2.2.2.2.2.2.2.1), .r [] (.int .i64 pv.1.2.2.2.2.2.2.2.2.2.2.2.2.2.2.2.1), .r [] (.sl (.int .i64) pv.1.2.2.2.2.2.2.2.2.2.2.2.2.2.2.2.2.1), .r [] (.sl (.int .i64) pv.1.2.2.2.2.2.2.2.2.2.2.2.2.2.2.2.2.2.1)]), (2, .box [.r [] (.int .i64 pv.1.2.2.2.2.2.2.2.2.2.2.2.2.2.2.2.2.2.2.1), .r [] (.int .i64 pv.1.2.2.2.2.2.2.2.2.2.2.2.2.2.2.2.2.2.2.2.1), .r [] (.int .i64 pv.1.2.2.2.2.2.2.2.2.2.2.2.2.2.2.2.2.2.2.2.2)])], nid := 3, n := 228, gh := [] }
def yll (nf : NF) : Option ((Int × Int × Int × Int × Int × Int × Int × Int × List Int × Int × Int × Int × Int × Int × Int × Int × List Int × List Int × Int × Int × Int) × (Int × Int)) := match nf with
  | ([.r [] (.int .i64 w0), .r [] (.int .i64 w1), .r [] (.int .i64 w2), .ptr 0 0 0, .ptr 1 0 0, .ptr 2 0 0, .r [] (.int .i64 w3), .r [] (.int .i64 w4), .r [] (.int .i64 w5), .r [] (.int .i64 w6)], [.box [.r [] (.int .i64 w7), .r [] (.int .i64 w8), .r [] (.int .i64 w9), .r [] (.sl (.int .i64) w10)], .box [.r [] (.int .i64 w11), .r [] (.int .i64 w12), .r [] (.int .i64 w13), .r [] (.int .i64 w14), .r [] (.int .i64 w15), .r [] (.int .i64 w16), .r [] (.int .i64 w17), .r [] (.sl (.int .i64) w18), .r [] (.sl (.int .i64) w19)], .box [.r [] (.int .i64 w20), .r [] (.int .i64 w21), .r [] (.int .i64 w22)]], []) => some ((w0, w1, w2, w4, w5, w7, w8, w9, w10, w11, w12, w13, w14, w15, w16, w17, w18, w19, w20, w21, w22), (w3, w6))
  | _ => none
theorem ylm (nf : NF) (v : (Int × Int × Int × Int × Int × Int × Int × Int × List Int × Int × Int × Int × Int × Int × Int × Int × List Int × List Int × Int × Int × Int) × (Int × Int)) (h : yll nf = some v) : denorm ylg 228 nf = ylk v := by
  unfold yll at h
  split at h
  · cases h; rfl
  · cases h
def yln (p : Int × Int × Int × Int × Int × Int × Int × Int × List Int × Int × Int × Int × Int × Int × Int × Int × List Int × List Int × Int × Int × Int) (x : Int) : St := { slots := [(2, .r [] (.int .i64 p.1)), (3, .r [] (.int .i64 p.2.1)), (4, .r [] (.int .i64 p.2.2.1)), (5, .ptr 0 0 0), (6, .ptr 1 0 0), (11, .ptr 2 0 0), (13, .r [] (.int .i64 x)), (14, .r [] (.int .i64 p.2.2.2.1)), (15, .r [] (.int .i64 p.2.2.2.2.1))], heap := [(0, .box [.r [] (.int .i64 p.2.2.2.2.2.1), .r [] (.int .i64 p.2.2.2.2.2.2.1), .r [] (.int .i64 p.2.2.2.2.2.2.2.1), .r [] (.sl (.int .i64) p.2.2.2.2.2.2.2.2.1)]), (1, .box [.r [] (.int .i64 p.2.2.2.2.2.2.2.2.2.1), .r [] (.int .i64 p.2.2.2.2.2.2.2.2.2.2.1), .r [] (.int .i64 p.2.2.2.2.2.2.2.2.2.2.2.1), .r [] (.int .i64 p.2.2.2.2.2.2.2.2.2.2.2.2.1), .r [] (.int .i64 p.2.2.2.2.2.2.2.2.2.2.2.2.2.1), .r [] (.int .i64 p.2.2.2.2.2.2.2.2.2.2.2.2.2.2.1), .r [] (.int .i64 p.2.2.2.2.2.2.2.2.2.2.2.2.2.2.2.1), .r [] (.sl (.int .i64) p.2.2.2.2.2.2.2.2.2.2.2.2.2.2.2.2.1), .r [] (.sl (.int .i64) p.2.2.2.2.2.2.2.2.2.2.2.2.2.2.2.2.2.1)]), (2, .box [.r [] (.int .i64 p.2.2.2.2.2.2.2.2.2.2.2.2.2.2.2.2.2.2.1), .r [] (.int .i64 p.2.2.2.2.2.2.2.2.2.2.2.2.2.2.2.2.2.2.2.1), .r [] (.int .i64 p.2.2.2.2.2.2.2.2.2.2.2.2.2.2.2.2.2.2.2.2)])], nid := 3, n := 228, gh := [] }
def ylo : List Nat := [2, 3, 4, 5, 6, 11, 13, 14, 15]
def ylp : List (Where × Co) := []
def ylq : Ex → List Nat
  | .exit j => cond (Nat.beq j 3) [2, 3, 4, 5, 6, 11, 13, 14] []
  | .ret => []
  | .normal => []
def ylr : Ex → List (Where × Co)
  | .exit j => cond (Nat.beq j 3) [] []
  | .ret => []
  | .normal => []
def yls (pv : (Int × Int × Int × Int × Int × Int × Int × List Int × Int × Int × Int × Int × Int × Int × Int × List Int × List Int × Int × Int × Int) × (Int × Int)) : St := { slots := [(2, .r [] (.int .i64 pv.1.1)), (3, .r [] (.int .i64 pv.1.2.1)), (4, .r [] (.int .i64 pv.1.2.2.1)), (5, .ptr 0 0 0), (6, .ptr 1 0 0), (11, .ptr 2 0 0), (13, .r [] (.int .i64 pv.2.1)), (14, .r [] (.int .i64 pv.1.2.2.2.1)), (15, .r [] (.int .i64 pv.2.2))], heap := [(0, .box [.r [] (.int .i64 pv.1.2.2.2.2.1), .r [] (.int .i64 pv.1.2.2.2.2.2.1), .r [] (.int .i64 pv.1.2.2.2.2.2.2.1), .r [] (.sl (.int .i64) pv.1.2.2.2.2.2.2.2.1)]), (1, .box [.r [] (.int .i64 pv.1.2.2.2.2.2.2.2.2.1), .r [] (.int .i64 pv.1.2.2.2.2.2.2.2.2.2.1), .r [] (.int .i64 pv.1.2.2.2.2.2.2.2.2.2.2.1), .r [] (.int .i64 pv.1.2.2.2.2.2.2.2.2.2.2.2.1), .r [] (.int .i64 pv.1.2.2.2.2.2.2.2.2.2.2.2.2.1), .r [] (.int .i64 pv.1.2.2.2.2.2.2.2.2.2.2.2.2.2.1), .r [] (.int .i64 pv.1.2.2.2.2.2.2.2.2.2.2.2.2.2.2.1), .r [] (.sl (.int .i64) pv.1.2.2.2.2.2.2.2.2.2.2.2.2.2.2.2.1), .r [] (.sl (.int .i64) pv.1.2.2.2.2.2.2.2.2.2.2.2.2.2.2.2.2.1)]), (2, .box [.r [] (.int .i64 pv.1.2.2.2.2.2.2.2.2.2.2.2.2.2.2.2.2.2.1), .r [] (.int .i64 pv.1.2.2.2.2.2.2.2.2.2.2.2.2.2.2.2.2.2.2.1), .r [] (.int .i64 pv.1.2.2.2.2.2.2.2.2.2.2.2.2.2.2.2.2.2.2.2)])], nid := 3, n := 228, gh := [] }
def ylt (nf : NF) : Option ((Int × Int × Int × Int × Int × Int × Int × List Int × Int × Int × Int × Int × Int × Int × Int × List Int × List Int × Int × Int × Int) × (Int × Int)) := match nf with
  | ([.r [] (.int .i64 w0), .r [] (.int .i64 w1), .r [] (.int .i64 w2), .ptr 0 0 0, .ptr 1 0 0, .ptr 2 0 0, .r [] (.int .i64 w3), .r [] (.int .i64 w4), .r [] (.int .i64 w5)], [.box [.r [] (.int .i64 w6), .r [] (.int .i64 w7), .r [] (.int .i64 w8), .r [] (.sl (.int .i64) w9)], .box [.r [] (.int .i64 w10), .r [] (.int .i64 w11), .r [] (.int .i64 w12), .r [] (.int .i64 w13), .r [] (.int .i64 w14), .r [] (.int .i64 w15), .r [] (.int .i64 w16), .r [] (.sl (.int .i64) w17), .r [] (.sl (.int .i64) w18)], .box [.r [] (.int .i64 w19), .r [] (.int .i64 w20), .r [] (.int .i64 w21)]], []) => some ((w0, w1, w2, w4, w6, w7, w8, w9, w10, w11, w12, w13, w14, w15, w16, w17, w18, w19, w20, w21), (w3, w5))
  | _ => none
theorem ylu (nf : NF) (v : (Int × Int × Int × Int × Int × Int × Int × List Int × Int × Int × Int × Int × Int × Int × Int × List Int × List Int × Int × Int × Int) × (Int × Int)) (h : ylt nf = some v) : denorm ylo 228 nf = yls v := by
  unfold ylt at h
  split at h
  · cases h; rfl
  · cases h
def ylv (p : Int × Int × Int × Int × Int × Int × Int × List Int × Int × Int × Int × Int × Int × Int × Int × List Int × List Int × Int × Int × Int) (x : Int) : St := { slots := [(2, .r [] (.int .i64 p.1)), (3, .r [] (.int .i64 p.2.1)), (4, .r [] (.int .i64 p.2.2.1)), (5, .ptr 0 0 0), (6, .ptr 1 0 0), (11, .ptr 2 0 0), (13, .r [] (.int .i64 x)), (14, .r [] (.int .i64 p.2.2.2.1))], heap := [(0, .box [.r [] (.int .i64 p.2.2.2.2.1), .r [] (.int .i64 p.2.2.2.2.2.1), .r [] (.int .i64 p.2.2.2.2.2.2.1), .r [] (.sl (.int .i64) p.2.2.2.2.2.2.2.1)]), (1, .box [.r [] (.int .i64 p.2.2.2.2.2.2.2.2.1), .r [] (.int .i64 p.2.2.2.2.2.2.2.2.2.1), .r [] (.int .i64 p.2.2.2.2.2.2.2.2.2.2.1), .r [] (.int .i64 p.2.2.2.2.2.2.2.2.2.2.2.1), .r [] (.int .i64 p.2.2.2.2.2.2.2.2.2.2.2.2.1), .r [] (.int .i64 p.2.2.2.2.2.2.2.2.2.2.2.2.2.1), .r [] (.int .i64 p.2.2.2.2.2.2.2.2.2.2.2.2.2.2.1), .r [] (.sl (.int .i64) p.2.2.2.2.2.2.2.2.2.2.2.2.2.2.2.1), .r [] (.sl (.int .i64) p.2.2.2.2.2.2.2.2.2.2.2.2.2.2.2.2.1)]), (2, .box [.r [] (.int .i64 p.2.2.2.2.2.2.2.2.2.2.2.2.2.2.2.2.2.1), .r [] (.int .i64 p.2.2.2.2.2.2.2.2.2.2.2.2.2.2.2.2.2.2.1), .r [] (.int .i64 p.2.2.2.2.2.2.2.2.2.2.2.2.2.2.2.2.2.2.2)])], nid := 3, n := 228, gh := [] }
def ylw : List Nat := [2, 3, 4, 5, 6, 11, 13, 14]
def ylx : List (Where × Co) := []
def yly : Ex → List Nat
  | .exit j => cond (Nat.beq j 1) [4, 6, 13] []
  | .ret => []
  | .normal => []
def ylz : Ex → List (Where × Co)
  | .exit j => cond (Nat.beq j 1) [] []
  | .ret => []
  | .normal => []
def ym0 (pv : (Int × Int × Int × Int × Int × Int × List Int × Int × Int × Int × Int × Int × Int × Int × List Int × List Int × Int × Int × Int) × (Int × Int)) : St := { slots := [(2, .r [] (.int .i64 pv.1.1)), (3, .r [] (.int .i64 pv.1.2.1)), (4, .r [] (.int .i64 pv.1.2.2.1)), (5, .ptr 0 0 0), (6, .ptr 1 0 0), (11, .ptr 2 0 0), (13, .r [] (.int .i64 pv.2.1)), (14, .r [] (.int .i64 pv.2.2))], heap := [(0, .box [.r [] (.int .i64 pv.1.2.2.2.1), .r [] (.int .i64 pv.1.2.2.2.2.1), .r [] (.int .i64 pv.1.2.2.2.2.2.1), .r [] (.sl (.int .i64) pv.1.2.2.2.2.2.2.1)]), (1, .box [.r [] (.int .i64 pv.1.2.2.2.2.2.2.2.1), .r [] (.int .i64 pv.1.2.2.2.2.2.2.2.2.1), .r [] (.int .i64 pv.1.2.2.2.2.2.2.2.2.2.1), .r [] (.int .i64 pv.1.2.2.2.2.2.2.2.2.2.2.1), .r [] (.int .i64 pv.1.2.2.2.2.2.2.2.2.2.2.2.1), .r [] (.int .i64 pv.1.2.2.2.2.2.2.2.2.2.2.2.2.1), .r [] (.int .i64 pv.1.2.2.2.2.2.2.2.2.2.2.2.2.2.1), .r [] (.sl (.int .i64) pv.1.2.2.2.2.2.2.2.2.2.2.2.2.2.2.1), .r [] (.sl (.int .i64) pv.1.2.2.2.2.2.2.2.2.2.2.2.2.2.2.2.1)]), (2, .box [.r [] (.int .i64 pv.1.2.2.2.2.2.2.2.2.2.2.2.2.2.2.2.2.1), .r [] (.int .i64 pv.1.2.2.2.2.2.2.2.2.2.2.2.2.2.2.2.2.2.1), .r [] (.int .i64 pv.1.2.2.2.2.2.2.2.2.2.2.2.2.2.2.2.2.2.2)])], nid := 3, n := 228, gh := [] }
def ym1 (nf : NF) : Option ((Int × Int × Int × Int × Int × Int × List Int × Int × Int × Int × Int × Int × Int × Int × List Int × List Int × Int × Int × Int) × (Int × Int)) := match nf with
  | ([.r [] (.int .i64 w0), .r [] (.int .i64 w1), .r [] (.int .i64 w2), .ptr 0 0 0, .ptr 1 0 0, .ptr 2 0 0, .r [] (.int .i64 w3), .r [] (.int .i64 w4)], [.box [.r [] (.int .i64 w5), .r [] (.int .i64 w6), .r [] (.int .i64 w7), .r [] (.sl (.int .i64) w8)], .box [.r [] (.int .i64 w9), .r [] (.int .i64 w10), .r [] (.int .i64 w11), .r [] (.int .i64 w12), .r [] (.int .i64 w13), .r [] (.int .i64 w14), .r [] (.int .i64 w15), .r [] (.sl (.int .i64) w16), .r [] (.sl (.int .i64) w17)], .box [.r [] (.int .i64 w18), .r [] (.int .i64 w19), .r [] (.int .i64 w20)]], []) => some ((w0, w1, w2, w5, w6, w7, w8, w9, w10, w11, w12, w13, w14, w15, w16, w17, w18, w19, w20), (w3, w4))
  | _ => none
theorem ym2 (nf : NF) (v : (Int × Int × Int × Int × Int × Int × List Int × Int × Int × Int × Int × Int × Int × Int × List Int × List Int × Int × Int × Int) × (Int × Int)) (h : ym1 nf = some v) : denorm ylw 228 nf = ym0 v := by
  unfold ym1 at h
  split at h
  · cases h; rfl
  · cases h
def ym3 (p : Int × Int × Int × Int × Int × Int × List Int × Int × Int × Int × Int × Int × Int × Int × List Int × List Int × Int × Int × Int) (x : Int) : St := { slots := [(4, .r [] (.int .i64 p.2.2.1)), (6, .ptr 0 0 0), (13, .r [] (.int .i64 x))], heap := [(0, .box [.r [] (.int .i64 p.2.2.2.2.2.2.2.1), .r [] (.int .i64 p.2.2.2.2.2.2.2.2.1), .r [] (.int .i64 p.2.2.2.2.2.2.2.2.2.1), .r [] (.int .i64 p.2.2.2.2.2.2.2.2.2.2.1), .r [] (.int .i64 p.2.2.2.2.2.2.2.2.2.2.2.1), .r [] (.int .i64 p.2.2.2.2.2.2.2.2.2.2.2.2.1), .r [] (.int .i64 p.2.2.2.2.2.2.2.2.2.2.2.2.2.1), .r [] (.sl (.int .i64) p.2.2.2.2.2.2.2.2.2.2.2.2.2.2.1), .r [] (.sl (.int .i64) p.2.2.2.2.2.2.2.2.2.2.2.2.2.2.2.1)])], nid := 1, n := 228, gh := [] }
def ym4 : List Nat := [19, 20, 21]
def ym5 : List (Where × Co) := []
def ym6 : Ex → List Nat
  | .exit j => cond (Nat.beq j 7) [20] []
  | .ret => []
  | .normal => []
def ym7 : Ex → List (Where × Co)
  | .exit j => cond (Nat.beq j 7) [] []
  | .ret => []
  | .normal => []
def ym8 (pv : (List Int) × (Int × Int)) : St := { slots := [(19, .own 0), (20, .r [] (.int .i64 pv.2.1)), (21, .r [] (.int .i64 pv.2.2))], heap := [(0, .arr none (.int .i64) pv.1)], nid := 1, n := 228, gh := [] }
def ym9 (nf : NF) : Option ((List Int) × (Int × Int)) := match nf with
  | ([.own 0, .r [] (.int .i64 w0), .r [] (.int .i64 w1)], [.arr none (.int .i64) w2], []) => some (w2, (w0, w1))
  | _ => none
theorem yma (nf : NF) (v : (List Int) × (Int × Int)) (h : ym9 nf = some v) : denorm ym4 228 nf = ym8 v := by
  unfold ym9 at h
  split at h
  · cases h; rfl
  · cases h
def ymb (p : List Int) (x : Int) : St := { slots := [(20, .r [] (.int .i64 x))], heap := [], nid := 0, n := 228, gh := [] }
def ymc : List Nat := [22, 23, 24]
def ymd : List (Where × Co) := []
def yme : Ex → List Nat
  | .exit j => cond (Nat.beq j 9) [22, 23] []
  | .ret => []
  | .normal => []
def ymf : Ex → List (Where × Co)
  | .exit j => cond (Nat.beq j 9) [] []
  | .ret => []
  | .normal => []
def ymg (pv : (List Int) × (Int × Int)) : St := { slots := [(22, .own 0), (23, .r [] (.int .i64 pv.2.1)), (24, .r [] (.int .i64 pv.2.2))], heap := [(0, .arr none (.int .i64) pv.1)], nid := 1, n := 228, gh := [] }
def ymh (nf : NF) : Option ((List Int) × (Int × Int)) := match nf with
  | ([.own 0, .r [] (.int .i64 w0), .r [] (.int .i64 w1)], [.arr none (.int .i64) w2], []) => some (w2, (w0, w1))
  | _ => none
theorem ymi (nf : NF) (v : (List Int) × (Int × Int)) (h : ymh nf = some v) : denorm ymc 228 nf = ymg v := by
  unfold ymh at h
  split at h
  · cases h; rfl
  · cases h
def ymj (p : List Int) (x : Int) : St := { slots := [(22, .own 0), (23, .r [] (.int .i64 x))], heap := [(0, .arr none (.int .i64) p)], nid := 1, n := 228, gh := [] }
def ymk (ρ : Type) (k : Nat) : Nat → Ev ρ → Ev ρ := fun id f => cond (Nat.beq id 9) (loopOrc ymc ymd (fun n nf => cond (Nat.beq n 228) (ymh nf) none) fun pv K => iter (fun v next => S_l03Item_g4 k pv.1 v next (fun x => K (.exit 9) (ymj pv.1 x))) k pv.2) ((fun id f => cond (Nat.beq id 7) (loopOrc ym4 ym5 (fun n nf => cond (Nat.beq n 228) (ym9 nf) none) fun pv K => iter (fun v next => S_l03Item_g3 k pv.1 v next (fun x => K (.exit 7) (ymb pv.1 x))) k pv.2) ((fun id f => cond (Nat.beq id 1) (loopOrc ylw ylx (fun n nf => cond (Nat.beq n 228) (ym1 nf) none) fun pv K => iter (fun v next => S_l03Item_g0 k pv.1 v next (fun x => K (.exit 1) (ym3 pv.1 x))) k pv.2) ((fun id f => cond (Nat.beq id 3) (loopOrc ylo ylp (fun n nf => cond (Nat.beq n 228) (ylt nf) none) fun pv K => iter (fun v next => S_l03Item_g1 k pv.1 v next (fun x => K (.exit 3) (ylv pv.1 x))) k pv.2) ((fun id f => cond (Nat.beq id 5) (loopOrc ylg ylh (fun n nf => cond (Nat.beq n 228) (yll nf) none) fun pv K => iter (fun v next => S_l03Item_g2 k pv.1 v next (fun x => K (.exit 5) (yln pv.1 x))) k pv.2) ((fun _ _ _ _ => none) id f)) id f)) id f)) id f)) id f)
theorem yml {ρ : Type} (k : Nat) (p : Int × Int × Int × Int × Int × Int × Int × Int × List Int × Int × Int × Int × Int × Int × Int × Int × List Int × List Int × Int × Int × Int) (v : Int × Int) (K K1 : Ex → St → Option ρ) : ev (yl8 k) (ymk ρ k) 5 yld (ylk (p, v)) (fun e st' => match e with
    | .normal => (normC ylg ylh st').bind fun nf => K1 .normal (denorm ylg st'.n nf)
    | e => (normC (yli e) (ylj e) st').bind fun nf => K e (denorm (yli e) st'.n nf)) = S_l03Item_g2 k p v (fun v' => K1 .normal (ylk (p, v'))) (fun x => K (.exit 5) (yln p x)) := by kernel_rfl
theorem ymm {ρ : Type} (k : Nat) : Sound Tryz.prog (.loop yld) (ymk ρ k 5 fun st K => ev (yl8 k) (ymk ρ k) 5 yld st K) :=
  loop_ok (ev_sound (yl9 k) yld 5 (lpgood_none (by kernel_rfl))) yli ylj k (g := fun p v next K => S_l03Item_g2 k p v next (fun x => K (.exit 5) (yln p x))) (dec_at ylm) (fun p v K K1 => yml k p v K K1)
theorem ymn {ρ : Type} (k : Nat) (p : Int × Int × Int × Int × Int × Int × Int × List Int × Int × Int × Int × Int × Int × Int × Int × List Int × List Int × Int × Int × Int) (v : Int × Int) (K K1 : Ex → St → Option ρ) : ev (yl8 k) (ymk ρ k) 3 ylc (yls (p, v)) (fun e st' => match e with
    | .normal => (normC ylo ylp st').bind fun nf => K1 .normal (denorm ylo st'.n nf)
    | e => (normC (ylq e) (ylr e) st').bind fun nf => K e (denorm (ylq e) st'.n nf)) = S_l03Item_g1 k p v (fun v' => K1 .normal (yls (p, v'))) (fun x => K (.exit 3) (ylv p x)) := by kernel_rfl
theorem ymo {ρ : Type} (k : Nat) : Sound Tryz.prog (.loop ylc) (ymk ρ k 3 fun st K => ev (yl8 k) (ymk ρ k) 3 ylc st K) :=
  loop_ok (ev_sound (yl9 k) ylc 3 (lpgood_of (l := [(5, yld)]) (by kernel_rfl) ⟨ymm k, trivial⟩)) ylq ylr k (g := fun p v next K => S_l03Item_g1 k p v next (fun x => K (.exit 3) (ylv p x))) (dec_at ylu) (fun p v K K1 => ymn k p v K K1)
theorem ymp {ρ : Type} (k : Nat) (p : Int × Int × Int × Int × Int × Int × List Int × Int × Int × Int × Int × Int × Int × Int × List Int × List Int × Int × Int × Int) (v : Int × Int) (K K1 : Ex → St → Option ρ) : ev (yl8 k) (ymk ρ k) 1 ylb (ym0 (p, v)) (fun e st' => match e with
    | .normal => (normC ylw ylx st').bind fun nf => K1 .normal (denorm ylw st'.n nf)
    | e => (normC (yly e) (ylz e) st').bind fun nf => K e (denorm (yly e) st'.n nf)) = S_l03Item_g0 k p v (fun v' => K1 .normal (ym0 (p, v'))) (fun x => K (.exit 1) (ym3 p x)) := by kernel_rfl
theorem ymq {ρ : Type} (k : Nat) : Sound Tryz.prog (.loop ylb) (ymk ρ k 1 fun st K => ev (yl8 k) (ymk ρ k) 1 ylb st K) :=
  loop_ok (ev_sound (yl9 k) ylb 1 (lpgood_of (l := [(3, ylc)]) (by kernel_rfl) ⟨ymo k, trivial⟩)) yly ylz k (g := fun p v next K => S_l03Item_g0 k p v next (fun x => K (.exit 1) (ym3 p x))) (dec_at ym2) (fun p v K K1 => ymp k p v K K1)
theorem ymr {ρ : Type} (k : Nat) (p : List Int) (v : Int × Int) (K K1 : Ex → St → Option ρ) : ev (yl8 k) (ymk ρ k) 7 yle (ym8 (p, v)) (fun e st' => match e with
    | .normal => (normC ym4 ym5 st').bind fun nf => K1 .normal (denorm ym4 st'.n nf)
    | e => (normC (ym6 e) (ym7 e) st').bind fun nf => K e (denorm (ym6 e) st'.n nf)) = S_l03Item_g3 k p v (fun v' => K1 .normal (ym8 (p, v'))) (fun x => K (.exit 7) (ymb p x)) := by kernel_rfl
theorem yms {ρ : Type} (k : Nat) : Sound Tryz.prog (.loop yle) (ymk ρ k 7 fun st K => ev (yl8 k) (ymk ρ k) 7 yle st K) :=
  loop_ok (ev_sound (yl9 k) yle 7 (lpgood_none (by kernel_rfl))) ym6 ym7 k (g := fun p v next K => S_l03Item_g3 k p v next (fun x => K (.exit 7) (ymb p x))) (dec_at yma) (fun p v K K1 => ymr k p v K K1)
theorem ymt {ρ : Type} (k : Nat) (p : List Int) (v : Int × Int) (K K1 : Ex → St → Option ρ) : ev (yl8 k) (ymk ρ k) 9 ylf (ymg (p, v)) (fun e st' => match e with
    | .normal => (normC ymc ymd st').bind fun nf => K1 .normal (denorm ymc st'.n nf)
    | e => (normC (yme e) (ymf e) st').bind fun nf => K e (denorm (yme e) st'.n nf)) = S_l03Item_g4 k p v (fun v' => K1 .normal (ymg (p, v'))) (fun x => K (.exit 9) (ymj p x)) := by kernel_rfl
theorem ymu {ρ : Type} (k : Nat) : Sound Tryz.prog (.loop ylf) (ymk ρ k 9 fun st K => ev (yl8 k) (ymk ρ k) 9 ylf st K) :=
  loop_ok (ev_sound (yl9 k) ylf 9 (lpgood_none (by kernel_rfl))) yme ymf k (g := fun p v next K => S_l03Item_g4 k p v next (fun x => K (.exit 9) (ymj p x))) (dec_at ymi) (fun p v K K1 => ymt k p v K K1)
def ymv (a : Tensor × Layer × Int × Int × Int) : List Arg := [.agg [.int .i64 a.1.sh.h, .int .i64 a.1.sh.w, .int .i64 a.1.sh.c, .sl (.int .i64) a.1.data], .agg [.int .i64 a.2.1.kind, .int .i64 a.2.1.out, .int .i64 a.2.1.size, .int .i64 a.2.1.step, .int .i64 a.2.1.mult, .int .i64 a.2.1.shift, .int .i64 a.2.1.zero, .sl (.int .i64) a.2.1.weights, .sl (.int .i64) a.2.1.bias], .one (.int .i64 a.2.2.1), .one (.int .i64 a.2.2.2.1), .one (.int .i64 a.2.2.2.2)]
def ymw (l : List Arg) : Option (Tensor × Layer × Int × Int × Int) := match l with
  | [.agg [.int .i64 b0_0, .int .i64 b0_1, .int .i64 b0_2, .sl (.int .i64) b0_3], .agg [.int .i64 b1_0, .int .i64 b1_1, .int .i64 b1_2, .int .i64 b1_3, .int .i64 b1_4, .int .i64 b1_5, .int .i64 b1_6, .sl (.int .i64) b1_7, .sl (.int .i64) b1_8], .one (.int .i64 b2), .one (.int .i64 b3), .one (.int .i64 b4)] => some ((⟨(⟨b0_0, b0_1, b0_2⟩ : Shape), b0_3⟩ : Tensor), (⟨b1_0, b1_1, b1_2, b1_3, b1_4, b1_5, b1_6, b1_7, b1_8⟩ : Layer), b2, b3, b4)
  | _ => none
def ymx (r : Int) : Out := (.r [] (.int .i64 r), [])
def ymy (o : Out) : Option (Int) := match o with
  | (.r [] (.int .i64 z1), []) => some z1
  | _ => none
def ymz (k : Nat) : PG := fun _ l K => (ymw l).bind fun a => (S_l03Item k a.1 a.2.1 a.2.2.1 a.2.2.2.1 a.2.2.2.2).bind fun r => K (ymx r)
theorem yn0 (k : Nat) (a : Tensor × Layer × Int × Int × Int) : ev (yl8 k) (ymk (Int) k) 0 yla (st0 Tryz.f64 (ymv a)) (fin Tryz.prog Tryz.f64 (.sc) ymy) = S_l03Item k a.1 a.2.1 a.2.2.1 a.2.2.2.1 a.2.2.2.2 := by kernel_rfl
theorem yn1 (k : Nat) : PureOk Tryz.prog 64 (ymz k) :=
  pureOk_of_ev (yl9 k) Tryz.func64 (by kernel_rfl) (by kernel_rfl) ymv ymw
    (fun l a h => by unfold ymw at h; split at h <;> first | (cases h; rfl) | cases h) (fun a => rfl) (lpgood_of (l := [(1, ylb), (7, yle), (9, ylf)]) (by kernel_rfl) ⟨ymq k, ⟨yms k, ⟨ymu k, trivial⟩⟩⟩)
    (fun o r h => by unfold ymy at h; split at h <;> first | (cases h; rfl) | cases h) (yn0 k)
def yn2 (k : Nat) : Orc := pureOrc [.agg [(.int .i64), (.int .i64), (.int .i64), (.sl (.int .i64))], .agg [(.int .i64), (.int .i64), (.int .i64), (.int .i64), (.int .i64), (.int .i64), (.int .i64), (.sl (.int .i64)), (.sl (.int .i64))], .one (.int .i64), .one (.int .i64), .one (.int .i64)] (ymz k)
theorem yn3 (k : Nat) : OrcOk Tryz.prog 64 (yn2 k) := pureOrc_ok (yn1 k)
noncomputable def yn4 (k : Nat) : Env := { P := Tryz.prog, tt := tt, orc := fun g => cond (Nat.beq g 45) (yct k) (cond (Nat.beq g 63) (ybf k) (cond (Nat.beq g 64) (yn2 k) (noOrc))) }
theorem yn5 (k : Nat) : EnvOk (yn4 k) := fun g => (orc_cond (ycu k) (orc_cond (ybg k) (orc_cond (yn3 k) (noOrc_ok _ _))))
noncomputable def yn6 : Code := (Tryz.f37.body).getD .skip
noncomputable def yn7 : Code := ((loopsIn 0 yn6).getD 0 (0, .skip)).2
noncomputable def yn8 : Code := ((loopsIn 0 yn7).getD 0 (0, .skip)).2
noncomputable def yn9 : Code := ((loopsIn 2 yn8).getD 0 (0, .skip)).2
def yna : List Nat := [2, 3, 4, 6, 8, 9, 10, 11]
def ynb : List (Where × Co) := []
def ync : Ex → List Nat
  | .exit j => cond (Nat.beq j 4) [2, 3, 4, 6, 8, 9, 10] []
  | .ret => []
  | .normal => []
def ynd : Ex → List (Where × Co)
  | .exit j => cond (Nat.beq j 4) [] []
  | .ret => []
  | .normal => []
def yne (pv : (Int × Int × Int × Int × Int × List Int × Int × Int × Int × Int × Int × Int × Int × List Int × List Int × Int × Int × Int × Int × Int × Int × Int × Int × Int) × (Int × List Int)) : St := { slots := [(2, .ptr 0 0 0), (3, .ptr 1 0 0), (4, .ptr 2 0 0), (6, .ptr 3 0 0), (8, .ptr 4 0 0), (9, .r [] (.int .i64 pv.1.1)), (10, .r [] (.int .i64 pv.1.2.1)), (11, .r [] (.int .i64 pv.2.1))], heap := [(0, .box [.r [] (.int .i64 pv.1.2.2.1), .r [] (.int .i64 pv.1.2.2.2.1), .r [] (.int .i64 pv.1.2.2.2.2.1), .r [] (.sl (.int .i64) pv.1.2.2.2.2.2.1)]), (1, .box [.r [] (.int .i64 pv.1.2.2.2.2.2.2.1), .r [] (.int .i64 pv.1.2.2.2.2.2.2.2.1), .r [] (.int .i64 pv.1.2.2.2.2.2.2.2.2.1), .r [] (.int .i64 pv.1.2.2.2.2.2.2.2.2.2.1), .r [] (.int .i64 pv.1.2.2.2.2.2.2.2.2.2.2.1), .r [] (.int .i64 pv.1.2.2.2.2.2.2.2.2.2.2.2.1), .r [] (.int .i64 pv.1.2.2.2.2.2.2.2.2.2.2.2.2.1), .r [] (.sl (.int .i64) pv.1.2.2.2.2.2.2.2.2.2.2.2.2.2.1), .r [] (.sl (.int .i64) pv.1.2.2.2.2.2.2.2.2.2.2.2.2.2.2.1)]), (2, .box [.r [] (.int .i64 pv.1.2.2.2.2.2.2.2.2.2.2.2.2.2.2.2.1), .r [] (.int .i64 pv.1.2.2.2.2.2.2.2.2.2.2.2.2.2.2.2.2.1), .r [] (.int .i64 pv.1.2.2.2.2.2.2.2.2.2.2.2.2.2.2.2.2.2.1), .nilS]), (3, .box [.r [] (.int .i64 pv.1.2.2.2.2.2.2.2.2.2.2.2.2.2.2.2.2.2.2.1), .r [] (.int .i64 pv.1.2.2.2.2.2.2.2.2.2.2.2.2.2.2.2.2.2.2.2.1), .r [] (.int .i64 pv.1.2.2.2.2.2.2.2.2.2.2.2.2.2.2.2.2.2.2.2.2.1)]), (4, .box [.r [] (.int .i64 pv.1.2.2.2.2.2.2.2.2.2.2.2.2.2.2.2.2.2.2.2.2.2.1), .r [] (.int .i64 pv.1.2.2.2.2.2.2.2.2.2.2.2.2.2.2.2.2.2.2.2.2.2.2.1), .r [] (.int .i64 pv.1.2.2.2.2.2.2.2.2.2.2.2.2.2.2.2.2.2.2.2.2.2.2.2), .own 5]), (5, .arr none (.int .i64) pv.2.2)], nid := 6, n := 58, gh := [] }
def ynf (nf : NF) : Option ((Int × Int × Int × Int × Int × List Int × Int × Int × Int × Int × Int × Int × Int × List Int × List Int × Int × Int × Int × Int × Int × Int × Int × Int × Int) × (Int × List Int)) := match nf with
  | ([.ptr 0 0 0, .ptr 1 0 0, .ptr 2 0 0, .ptr 3 0 0, .ptr 4 0 0, .r [] (.int .i64 w0), .r [] (.int .i64 w1), .r [] (.int .i64 w2)], [.box [.r [] (.int .i64 w3), .r [] (.int .i64 w4), .r [] (.int .i64 w5), .r [] (.sl (.int .i64) w6)], .box [.r [] (.int .i64 w7), .r [] (.int .i64 w8), .r [] (.int .i64 w9), .r [] (.int .i64 w10), .r [] (.int .i64 w11), .r [] (.int .i64 w12), .r [] (.int .i64 w13), .r [] (.sl (.int .i64) w14), .r [] (.sl (.int .i64) w15)], .box [.r [] (.int .i64 w16), .r [] (.int .i64 w17), .r [] (.int .i64 w18), .nilS], .box [.r [] (.int .i64 w19), .r [] (.int .i64 w20), .r [] (.int .i64 w21)], .box [.r [] (.int .i64 w22), .r [] (.int .i64 w23), .r [] (.int .i64 w24), .own 5], .arr none (.int .i64) w25], []) => some ((w0, w1, w3, w4, w5, w6, w7, w8, w9, w10, w11, w12, w13, w14, w15, w16, w17, w18, w19, w20, w21, w22, w23, w24), (w2, w25))
  | _ => none
theorem yng (nf : NF) (v : (Int × Int × Int × Int × Int × List Int × Int × Int × Int × Int × Int × Int × Int × List Int × List Int × Int × Int × Int × Int × Int × Int × Int × Int × Int) × (Int × List Int)) (h : ynf nf = some v) : denorm yna 58 nf = yne v := by
  unfold ynf at h
  split at h
  · cases h; rfl
  · cases h
def ynh (p : Int × Int × Int × Int × Int × List Int × Int × Int × Int × Int × Int × Int × Int × List Int × List Int × Int × Int × Int × Int × Int × Int × Int × Int × Int) (x : List Int) : St := { slots := [(2, .ptr 0 0 0), (3, .ptr 1 0 0), (4, .ptr 2 0 0), (6, .ptr 3 0 0), (8, .ptr 4 0 0), (9, .r [] (.int .i64 p.1)), (10, .r [] (.int .i64 p.2.1))], heap := [(0, .box [.r [] (.int .i64 p.2.2.1), .r [] (.int .i64 p.2.2.2.1), .r [] (.int .i64 p.2.2.2.2.1), .r [] (.sl (.int .i64) p.2.2.2.2.2.1)]), (1, .box [.r [] (.int .i64 p.2.2.2.2.2.2.1), .r [] (.int .i64 p.2.2.2.2.2.2.2.1), .r [] (.int .i64 p.2.2.2.2.2.2.2.2.1), .r [] (.int .i64 p.2.2.2.2.2.2.2.2.2.1), .r [] (.int .i64 p.2.2.2.2.2.2.2.2.2.2.1), .r [] (.int .i64 p.2.2.2.2.2.2.2.2.2.2.2.1), .r [] (.int .i64 p.2.2.2.2.2.2.2.2.2.2.2.2.1), .r [] (.sl (.int .i64) p.2.2.2.2.2.2.2.2.2.2.2.2.2.1), .r [] (.sl (.int .i64) p.2.2.2.2.2.2.2.2.2.2.2.2.2.2.1)]), (2, .box [.r [] (.int .i64 p.2.2.2.2.2.2.2.2.2.2.2.2.2.2.2.1), .r [] (.int .i64 p.2.2.2.2.2.2.2.2.2.2.2.2.2.2.2.2.1), .r [] (.int .i64 p.2.2.2.2.2.2.2.2.2.2.2.2.2.2.2.2.2.1), .nilS]), (3, .box [.r [] (.int .i64 p.2.2.2.2.2.2.2.2.2.2.2.2.2.2.2.2.2.2.1), .r [] (.int .i64 p.2.2.2.2.2.2.2.2.2.2.2.2.2.2.2.2.2.2.2.1), .r [] (.int .i64 p.2.2.2.2.2.2.2.2.2.2.2.2.2.2.2.2.2.2.2.2.1)]), (4, .box [.r [] (.int .i64 p.2.2.2.2.2.2.2.2.2.2.2.2.2.2.2.2.2.2.2.2.2.1), .r [] (.int .i64 p.2.2.2.2.2.2.2.2.2.2.2.2.2.2.2.2.2.2.2.2.2.2.1), .r [] (.int .i64 p.2.2.2.2.2.2.2.2.2.2.2.2.2.2.2.2.2.2.2.2.2.2.2), .own 5]), (5, .arr none (.int .i64) x)], nid := 6, n := 58, gh := [] }
def yni : List Nat := [2, 3, 4, 6, 8, 9, 10]
def ynj : List (Where × Co) := []
def ynk : Ex → List Nat
  | .exit j => cond (Nat.beq j 2) [2, 3, 4, 6, 8, 9] []
  | .ret => []
  | .normal => []
def ynl : Ex → List (Where × Co)
  | .exit j => cond (Nat.beq j 2) [] []
  | .ret => []
  | .normal => []
def ynm (pv : (Int × Int × Int × Int × List Int × Int × Int × Int × Int × Int × Int × Int × List Int × List Int × Int × Int × Int × Int × Int × Int × Int × Int × Int) × (Int × List Int)) : St := { slots := [(2, .ptr 0 0 0), (3, .ptr 1 0 0), (4, .ptr 2 0 0), (6, .ptr 3 0 0), (8, .ptr 4 0 0), (9, .r [] (.int .i64 pv.1.1)), (10, .r [] (.int .i64 pv.2.1))], heap := [(0, .box [.r [] (.int .i64 pv.1.2.1), .r [] (.int .i64 pv.1.2.2.1), .r [] (.int .i64 pv.1.2.2.2.1), .r [] (.sl (.int .i64) pv.1.2.2.2.2.1)]), (1, .box [.r [] (.int .i64 pv.1.2.2.2.2.2.1), .r [] (.int .i64 pv.1.2.2.2.2.2.2.1), .r [] (.int .i64 pv.1.2.2.2.2.2.2.2.1), .r [] (.int .i64 pv.1.2.2.2.2.2.2.2.2.1), .r [] (.int .i64 pv.1.2.2.2.2.2.2.2.2.2.1), .r [] (.int .i64 pv.1.2.2.2.2.2.2.2.2.2.2.1), .r [] (.int .i64 pv.1.2.2.2.2.2.2.2.2.2.2.2.1), .r [] (.sl (.int .i64) pv.1.2.2.2.2.2.2.2.2.2.2.2.2.1), .r [] (.sl (.int .i64) pv.1.2.2.2.2.2.2.2.2.2.2.2.2.2.1)]), (2, .box [.r [] (.int .i64 pv.1.2.2.2.2.2.2.2.2.2.2.2.2.2.2.1), .r [] (.int .i64 pv.1.2.2.2.2.2.2.2.2.2.2.2.2.2.2.2.1), .r [] (.int .i64 pv.1.2.2.2.2.2.2.2.2.2.2.2.2.2.2.2.2.1), .nilS]), (3, .box [.r [] (.int .i64 pv.1.2.2.2.2.2.2.2.2.2.2.2.2.2.2.2.2.2.1), .r [] (.int .i64 pv.1.2.2.2.2.2.2.2.2.2.2.2.2.2.2.2.2.2.2.1), .r [] (.int .i64 pv.1.2.2.2.2.2.2.2.2.2.2.2.2.2.2.2.2.2.2.2.1)]), (4, .box [.r [] (.int .i64 pv.1.2.2.2.2.2.2.2.2.2.2.2.2.2.2.2.2.2.2.2.2.1), .r [] (.int .i64 pv.1.2.2.2.2.2.2.2.2.2.2.2.2.2.2.2.2.2.2.2.2.2.1), .r [] (.int .i64 pv.1.2.2.2.2.2.2.2.2.2.2.2.2.2.2.2.2.2.2.2.2.2.2), .own 5]), (5, .arr none (.int .i64) pv.2.2)], nid := 6, n := 58, gh := [] }
def ynn (nf : NF) : Option ((Int × Int × Int × Int × List Int × Int × Int × Int × Int × Int × Int × Int × List Int × List Int × Int × Int × Int × Int × Int × Int × Int × Int × Int) × (Int × List Int)) := match nf with
  | ([.ptr 0 0 0, .ptr 1 0 0, .ptr 2 0 0, .ptr 3 0 0, .ptr 4 0 0, .r [] (.int .i64 w0), .r [] (.int .i64 w1)], [.box [.r [] (.int .i64 w2), .r [] (.int .i64 w3), .r [] (.int .i64 w4), .r [] (.sl (.int .i64) w5)], .box [.r [] (.int .i64 w6), .r [] (.int .i64 w7), .r [] (.int .i64 w8), .r [] (.int .i64 w9), .r [] (.int .i64 w10), .r [] (.int .i64 w11), .r [] (.int .i64 w12), .r [] (.sl (.int .i64) w13), .r [] (.sl (.int .i64) w14)], .box [.r [] (.int .i64 w15), .r [] (.int .i64 w16), .r [] (.int .i64 w17), .nilS], .box [.r [] (.int .i64 w18), .r [] (.int .i64 w19), .r [] (.int .i64 w20)], .box [.r [] (.int .i64 w21), .r [] (.int .i64 w22), .r [] (.int .i64 w23), .own 5], .arr none (.int .i64) w24], []) => some ((w0, w2, w3, w4, w5, w6, w7, w8, w9, w10, w11, w12, w13, w14, w15, w16, w17, w18, w19, w20, w21, w22, w23), (w1, w24))
  | _ => none
theorem yno (nf : NF) (v : (Int × Int × Int × Int × List Int × Int × Int × Int × Int × Int × Int × Int × List Int × List Int × Int × Int × Int × Int × Int × Int × Int × Int × Int) × (Int × List Int)) (h : ynn nf = some v) : denorm yni 58 nf = ynm v := by
  unfold ynn at h
  split at h
  · cases h; rfl
  · cases h
def ynp (p : Int × Int × Int × Int × List Int × Int × Int × Int × Int × Int × Int × Int × List Int × List Int × Int × Int × Int × Int × Int × Int × Int × Int × Int) (x : List Int) : St := { slots := [(2, .ptr 0 0 0), (3, .ptr 1 0 0), (4, .ptr 2 0 0), (6, .ptr 3 0 0), (8, .ptr 4 0 0), (9, .r [] (.int .i64 p.1))], heap := [(0, .box [.r [] (.int .i64 p.2.1), .r [] (.int .i64 p.2.2.1), .r [] (.int .i64 p.2.2.2.1), .r [] (.sl (.int .i64) p.2.2.2.2.1)]), (1, .box [.r [] (.int .i64 p.2.2.2.2.2.1), .r [] (.int .i64 p.2.2.2.2.2.2.1), .r [] (.int .i64 p.2.2.2.2.2.2.2.1), .r [] (.int .i64 p.2.2.2.2.2.2.2.2.1), .r [] (.int .i64 p.2.2.2.2.2.2.2.2.2.1), .r [] (.int .i64 p.2.2.2.2.2.2.2.2.2.2.1), .r [] (.int .i64 p.2.2.2.2.2.2.2.2.2.2.2.1), .r [] (.sl (.int .i64) p.2.2.2.2.2.2.2.2.2.2.2.2.1), .r [] (.sl (.int .i64) p.2.2.2.2.2.2.2.2.2.2.2.2.2.1)]), (2, .box [.r [] (.int .i64 p.2.2.2.2.2.2.2.2.2.2.2.2.2.2.1), .r [] (.int .i64 p.2.2.2.2.2.2.2.2.2.2.2.2.2.2.2.1), .r [] (.int .i64 p.2.2.2.2.2.2.2.2.2.2.2.2.2.2.2.2.1), .nilS]), (3, .box [.r [] (.int .i64 p.2.2.2.2.2.2.2.2.2.2.2.2.2.2.2.2.2.1), .r [] (.int .i64 p.2.2.2.2.2.2.2.2.2.2.2.2.2.2.2.2.2.2.1), .r [] (.int .i64 p.2.2.2.2.2.2.2.2.2.2.2.2.2.2.2.2.2.2.2.1)]), (4, .box [.r [] (.int .i64 p.2.2.2.2.2.2.2.2.2.2.2.2.2.2.2.2.2.2.2.2.1), .r [] (.int .i64 p.2.2.2.2.2.2.2.2.2.2.2.2.2.2.2.2.2.2.2.2.2.1), .r [] (.int .i64 p.2.2.2.2.2.2.2.2.2.2.2.2.2.2.2.2.2.2.2.2.2.2), .own 5]), (5, .arr none (.int .i64) x)], nid := 6, n := 58, gh := [] }
def ynq : List Nat := [2, 3, 4, 6, 8, 9]
def ynr : List (Where × Co) := [((.pbox 8 3), (.nilOwn false (.int .i64)))]
def yns : Ex → List Nat
  | .exit j => cond (Nat.beq j 0) [4, 8] []
  | .ret => []
  | .normal => []
def ynt : Ex → List (Where × Co)
  | .exit j => cond (Nat.beq j 0) [] []
  | .ret => []
  | .normal => []
def ynu (pv : (Int × Int × Int × List Int × Int × Int × Int × Int × Int × Int × Int × List Int × List Int × Int × Int × Int × Int × Int × Int × Int × Int × Int) × (Int × List Int)) : St := { slots := [(2, .ptr 0 0 0), (3, .ptr 1 0 0), (4, .ptr 2 0 0), (6, .ptr 3 0 0), (8, .ptr 4 0 0), (9, .r [] (.int .i64 pv.2.1))], heap := [(0, .box [.r [] (.int .i64 pv.1.1), .r [] (.int .i64 pv.1.2.1), .r [] (.int .i64 pv.1.2.2.1), .r [] (.sl (.int .i64) pv.1.2.2.2.1)]), (1, .box [.r [] (.int .i64 pv.1.2.2.2.2.1), .r [] (.int .i64 pv.1.2.2.2.2.2.1), .r [] (.int .i64 pv.1.2.2.2.2.2.2.1), .r [] (.int .i64 pv.1.2.2.2.2.2.2.2.1), .r [] (.int .i64 pv.1.2.2.2.2.2.2.2.2.1), .r [] (.int .i64 pv.1.2.2.2.2.2.2.2.2.2.1), .r [] (.int .i64 pv.1.2.2.2.2.2.2.2.2.2.2.1), .r [] (.sl (.int .i64) pv.1.2.2.2.2.2.2.2.2.2.2.2.1), .r [] (.sl (.int .i64) pv.1.2.2.2.2.2.2.2.2.2.2.2.2.1)]), (2, .box [.r [] (.int .i64 pv.1.2.2.2.2.2.2.2.2.2.2.2.2.2.1), .r [] (.int .i64 pv.1.2.2.2.2.2.2.2.2.2.2.2.2.2.2.1), .r [] (.int .i64 pv.1.2.2.2.2.2.2.2.2.2.2.2.2.2.2.2.1), .nilS]), (3, .box [.r [] (.int .i64 pv.1.2.2.2.2.2.2.2.2.2.2.2.2.2.2.2.2.1), .r [] (.int .i64 pv.1.2.2.2.2.2.2.2.2.2.2.2.2.2.2.2.2.2.1), .r [] (.int .i64 pv.1.2.2.2.2.2.2.2.2.2.2.2.2.2.2.2.2.2.2.1)]), (4, .box [.r [] (.int .i64 pv.1.2.2.2.2.2.2.2.2.2.2.2.2.2.2.2.2.2.2.2.1), .r [] (.int .i64 pv.1.2.2.2.2.2.2.2.2.2.2.2.2.2.2.2.2.2.2.2.2.1), .r [] (.int .i64 pv.1.2.2.2.2.2.2.2.2.2.2.2.2.2.2.2.2.2.2.2.2.2), .own 5]), (5, .arr none (.int .i64) pv.2.2)], nid := 6, n := 58, gh := [] }
def ynv (nf : NF) : Option ((Int × Int × Int × List Int × Int × Int × Int × Int × Int × Int × Int × List Int × List Int × Int × Int × Int × Int × Int × Int × Int × Int × Int) × (Int × List Int)) := match nf with
  | ([.ptr 0 0 0, .ptr 1 0 0, .ptr 2 0 0, .ptr 3 0 0, .ptr 4 0 0, .r [] (.int .i64 w0)], [.box [.r [] (.int .i64 w1), .r [] (.int .i64 w2), .r [] (.int .i64 w3), .r [] (.sl (.int .i64) w4)], .box [.r [] (.int .i64 w5), .r [] (.int .i64 w6), .r [] (.int .i64 w7), .r [] (.int .i64 w8), .r [] (.int .i64 w9), .r [] (.int .i64 w10), .r [] (.int .i64 w11), .r [] (.sl (.int .i64) w12), .r [] (.sl (.int .i64) w13)], .box [.r [] (.int .i64 w14), .r [] (.int .i64 w15), .r [] (.int .i64 w16), .nilS], .box [.r [] (.int .i64 w17), .r [] (.int .i64 w18), .r [] (.int .i64 w19)], .box [.r [] (.int .i64 w20), .r [] (.int .i64 w21), .r [] (.int .i64 w22), .own 5], .arr none (.int .i64) w23], []) => some ((w1, w2, w3, w4, w5, w6, w7, w8, w9, w10, w11, w12, w13, w14, w15, w16, w17, w18, w19, w20, w21, w22), (w0, w23))
  | _ => none
theorem ynw (nf : NF) (v : (Int × Int × Int × List Int × Int × Int × Int × Int × Int × Int × Int × List Int × List Int × Int × Int × Int × Int × Int × Int × Int × Int × Int) × (Int × List Int)) (h : ynv nf = some v) : denorm ynq 58 nf = ynu v := by
  unfold ynv at h
  split at h
  · cases h; rfl
  · cases h
def ynx (p : Int × Int × Int × List Int × Int × Int × Int × Int × Int × Int × Int × List Int × List Int × Int × Int × Int × Int × Int × Int × Int × Int × Int) (x : List Int) : St := { slots := [(4, .ptr 0 0 0), (8, .ptr 1 0 0)], heap := [(0, .box [.r [] (.int .i64 p.2.2.2.2.2.2.2.2.2.2.2.2.2.1), .r [] (.int .i64 p.2.2.2.2.2.2.2.2.2.2.2.2.2.2.1), .r [] (.int .i64 p.2.2.2.2.2.2.2.2.2.2.2.2.2.2.2.1), .nilS]), (1, .box [.r [] (.int .i64 p.2.2.2.2.2.2.2.2.2.2.2.2.2.2.2.2.2.2.2.1), .r [] (.int .i64 p.2.2.2.2.2.2.2.2.2.2.2.2.2.2.2.2.2.2.2.2.1), .r [] (.int .i64 p.2.2.2.2.2.2.2.2.2.2.2.2.2.2.2.2.2.2.2.2.2), .own 2]), (2, .arr none (.int .i64) x)], nid := 3, n := 58, gh := [] }
def yny (ρ : Type) (k : Nat) : Nat → Ev ρ → Ev ρ := fun id f => cond (Nat.beq id 0) (loopOrc ynq ynr (fun n nf => cond (Nat.beq n 58) (ynv nf) none) fun pv K => iter (fun v next => S_RunLayer_g0 k pv.1 v next (fun x => K (.exit 0) (ynx pv.1 x))) k pv.2) ((fun id f => cond (Nat.beq id 2) (loopOrc yni ynj (fun n nf => cond (Nat.beq n 58) (ynn nf) none) fun pv K => iter (fun v next => S_RunLayer_g1 k pv.1 v next (fun x => K (.exit 2) (ynp pv.1 x))) k pv.2) ((fun id f => cond (Nat.beq id 4) (loopOrc yna ynb (fun n nf => cond (Nat.beq n 58) (ynf nf) none) fun pv K => iter (fun v next => S_RunLayer_g2 k pv.1 v next (fun x => K (.exit 4) (ynh pv.1 x))) k pv.2) ((fun _ _ _ _ => none) id f)) id f)) id f)
theorem ynz {ρ : Type} (k : Nat) (p : Int × Int × Int × Int × Int × List Int × Int × Int × Int × Int × Int × Int × Int × List Int × List Int × Int × Int × Int × Int × Int × Int × Int × Int × Int) (v : Int × List Int) (K K1 : Ex → St → Option ρ) : ev (yn4 k) (yny ρ k) 4 yn9 (yne (p, v)) (fun e st' => match e with
    | .normal => (normC yna ynb st').bind fun nf => K1 .normal (denorm yna st'.n nf)
    | e => (normC (ync e) (ynd e) st').bind fun nf => K e (denorm (ync e) st'.n nf)) = S_RunLayer_g2 k p v (fun v' => K1 .normal (yne (p, v'))) (fun x => K (.exit 4) (ynh p x)) := by kernel_rfl
theorem yo0 {ρ : Type} (k : Nat) : Sound Tryz.prog (.loop yn9) (yny ρ k 4 fun st K => ev (yn4 k) (yny ρ k) 4 yn9 st K) :=
  loop_ok (ev_sound (yn5 k) yn9 4 (lpgood_none (by kernel_rfl))) ync ynd k (g := fun p v next K => S_RunLayer_g2 k p v next (fun x => K (.exit 4) (ynh p x))) (dec_at yng) (fun p v K K1 => ynz k p v K K1)
theorem yo1 {ρ : Type} (k : Nat) (p : Int × Int × Int × Int × List Int × Int × Int × Int × Int × Int × Int × Int × List Int × List Int × Int × Int × Int × Int × Int × Int × Int × Int × Int) (v : Int × List Int) (K K1 : Ex → St → Option ρ) : ev (yn4 k) (yny ρ k) 2 yn8 (ynm (p, v)) (fun e st' => match e with
    | .normal => (normC yni ynj st').bind fun nf => K1 .normal (denorm yni st'.n nf)
    | e => (normC (ynk e) (ynl e) st').bind fun nf => K e (denorm (ynk e) st'.n nf)) = S_RunLayer_g1 k p v (fun v' => K1 .normal (ynm (p, v'))) (fun x => K (.exit 2) (ynp p x)) := by kernel_rfl
theorem yo2 {ρ : Type} (k : Nat) : Sound Tryz.prog (.loop yn8) (yny ρ k 2 fun st K => ev (yn4 k) (yny ρ k) 2 yn8 st K) :=
  loop_ok (ev_sound (yn5 k) yn8 2 (lpgood_of (l := [(4, yn9)]) (by kernel_rfl) ⟨yo0 k, trivial⟩)) ynk ynl k (g := fun p v next K => S_RunLayer_g1 k p v next (fun x => K (.exit 2) (ynp p x))) (dec_at yno) (fun p v K K1 => yo1 k p v K K1)
theorem yo3 {ρ : Type} (k : Nat) (p : Int × Int × Int × List Int × Int × Int × Int × Int × Int × Int × Int × List Int × List Int × Int × Int × Int × Int × Int × Int × Int × Int × Int) (v : Int × List Int) (K K1 : Ex → St → Option ρ) : ev (yn4 k) (yny ρ k) 0 yn7 (ynu (p, v)) (fun e st' => match e with
    | .normal => (normC ynq ynr st').bind fun nf => K1 .normal (denorm ynq st'.n nf)
    | e => (normC (yns e) (ynt e) st').bind fun nf => K e (denorm (yns e) st'.n nf)) = S_RunLayer_g0 k p v (fun v' => K1 .normal (ynu (p, v'))) (fun x => K (.exit 0) (ynx p x)) := by kernel_rfl
theorem yo4 {ρ : Type} (k : Nat) : Sound Tryz.prog (.loop yn7) (yny ρ k 0 fun st K => ev (yn4 k) (yny ρ k) 0 yn7 st K) :=
  loop_ok (ev_sound (yn5 k) yn7 0 (lpgood_of (l := [(2, yn8)]) (by kernel_rfl) ⟨yo2 k, trivial⟩)) yns ynt k (g := fun p v next K => S_RunLayer_g0 k p v next (fun x => K (.exit 0) (ynx p x))) (dec_at ynw) (fun p v K K1 => yo3 k p v K K1)
def yo5 (a : Tensor × Layer) : List Arg := [.agg [.int .i64 a.1.sh.h, .int .i64 a.1.sh.w, .int .i64 a.1.sh.c, .sl (.int .i64) a.1.data], .agg [.int .i64 a.2.kind, .int .i64 a.2.out, .int .i64 a.2.size, .int .i64 a.2.step, .int .i64 a.2.mult, .int .i64 a.2.shift, .int .i64 a.2.zero, .sl (.int .i64) a.2.weights, .sl (.int .i64) a.2.bias]]
def yo6 (l : List Arg) : Option (Tensor × Layer) := match l with
  | [.agg [.int .i64 b0_0, .int .i64 b0_1, .int .i64 b0_2, .sl (.int .i64) b0_3], .agg [.int .i64 b1_0, .int .i64 b1_1, .int .i64 b1_2, .int .i64 b1_3, .int .i64 b1_4, .int .i64 b1_5, .int .i64 b1_6, .sl (.int .i64) b1_7, .sl (.int .i64) b1_8]] => some ((⟨(⟨b0_0, b0_1, b0_2⟩ : Shape), b0_3⟩ : Tensor), (⟨b1_0, b1_1, b1_2, b1_3, b1_4, b1_5, b1_6, b1_7, b1_8⟩ : Layer))
  | _ => none
def yo7 (r : Tensor × Bool) : Out := (.tup [.agg [.r [] (.int .i64 r.1.sh.h), .r [] (.int .i64 r.1.sh.w), .r [] (.int .i64 r.1.sh.c), .own 0], .r [] (.bool r.2)], [.arr none (.int .i64) r.1.data])
def yo8 (o : Out) : Option (Tensor × Bool) := match o with
  | (.tup [.agg [.r [] (.int .i64 z1), .r [] (.int .i64 z2), .r [] (.int .i64 z3), .own 0], .r [] (.bool z5)], [.arr none (.int .i64) z4]) => some ((⟨(⟨z1, z2, z3⟩ : Shape), z4⟩ : Tensor), z5)
  | _ => none
def yo9 (k : Nat) : PG := fun _ l K => (yo6 l).bind fun a => (S_RunLayer k a.1 a.2).bind fun r => K (yo7 r)
theorem yoa (k : Nat) (a : Tensor × Layer) : ev (yn4 k) (yny (Tensor × Bool) k) 0 yn6 (st0 Tryz.f37 (yo5 a)) (fin Tryz.prog Tryz.f37 (.tup [.agg [.sc, .sc, .sc, .own (.int .i64)], .sc]) yo8) = S_RunLayer k a.1 a.2 := by kernel_rfl
theorem yob (k : Nat) : PureOk Tryz.prog 37 (yo9 k) :=
  pureOk_of_ev (yn5 k) Tryz.func37 (by kernel_rfl) (by kernel_rfl) yo5 yo6
    (fun l a h => by unfold yo6 at h; split at h <;> first | (cases h; rfl) | cases h) (fun a => rfl) (lpgood_of (l := [(0, yn7)]) (by kernel_rfl) ⟨yo4 k, trivial⟩)
    (fun o r h => by unfold yo8 at h; split at h <;> first | (cases h; rfl) | cases h) (yoa k)
def yoc (k : Nat) : Orc := pureOrc [.agg [(.int .i64), (.int .i64), (.int .i64), (.sl (.int .i64))], .agg [(.int .i64), (.int .i64), (.int .i64), (.int .i64), (.int .i64), (.int .i64), (.int .i64), (.sl (.int .i64)), (.sl (.int .i64))]] (yo9 k)
theorem yod (k : Nat) : OrcOk Tryz.prog 37 (yoc k) := pureOrc_ok (yob k)
noncomputable def yoe (k : Nat) : Env := { P := Tryz.prog, tt := tt, orc := fun g => cond (Nat.beq g 22) (yei k) (cond (Nat.beq g 23) (y8l k) (cond (Nat.beq g 24) (yew k) (cond (Nat.beq g 37) (yoc k) (cond (Nat.beq g 38) (yfx k) (noOrc))))) }
theorem yof (k : Nat) : EnvOk (yoe k) := fun g => (orc_cond (yej k) (orc_cond (y8m k) (orc_cond (yex k) (orc_cond (yod k) (orc_cond (yfy k) (noOrc_ok _ _))))))
noncomputable def yog : Code := (Tryz.f15.body).getD .skip
def yoh (ρ : Type) (k : Nat) : Nat → Ev ρ → Ev ρ := fun _ _ _ _ => none
def yoi (a : Job) : List Arg := [.agg [.int .i64 a.model.inp.h, .int .i64 a.model.inp.w, .int .i64 a.model.inp.c, .sl (.st .layer) a.model.layers, .int .i64 a.at_, .int .i64 a.act.sh.h, .int .i64 a.act.sh.w, .int .i64 a.act.sh.c, .sl (.int .i64) a.act.data, .int .i64 a.spent]]
def yoj (l : List Arg) : Option (Job) := match l with
  | [.agg [.int .i64 b0_0, .int .i64 b0_1, .int .i64 b0_2, .sl (.st .layer) b0_3, .int .i64 b0_4, .int .i64 b0_5, .int .i64 b0_6, .int .i64 b0_7, .sl (.int .i64) b0_8, .int .i64 b0_9]] => some (⟨(⟨(⟨b0_0, b0_1, b0_2⟩ : Shape), b0_3⟩ : Model), b0_4, (⟨(⟨b0_5, b0_6, b0_7⟩ : Shape), b0_8⟩ : Tensor), b0_9⟩ : Job)
  | _ => none
def yok (r : Job × Bool) : Out := (.tup [.agg [.r [] (.int .i64 r.1.model.inp.h), .r [] (.int .i64 r.1.model.inp.w), .r [] (.int .i64 r.1.model.inp.c), .own 0, .r [] (.int .i64 r.1.at_), .r [] (.int .i64 r.1.act.sh.h), .r [] (.int .i64 r.1.act.sh.w), .r [] (.int .i64 r.1.act.sh.c), .own 1, .r [] (.int .i64 r.1.spent)], .r [] (.bool r.2)], [.arr none (.st .layer) r.1.model.layers, .arr none (.int .i64) r.1.act.data])
def yol (o : Out) : Option (Job × Bool) := match o with
  | (.tup [.agg [.r [] (.int .i64 z1), .r [] (.int .i64 z2), .r [] (.int .i64 z3), .own 0, .r [] (.int .i64 z5), .r [] (.int .i64 z6), .r [] (.int .i64 z7), .r [] (.int .i64 z8), .own 1, .r [] (.int .i64 z10)], .r [] (.bool z11)], [.arr none (.st .layer) z4, .arr none (.int .i64) z9]) => some ((⟨(⟨(⟨z1, z2, z3⟩ : Shape), z4⟩ : Model), z5, (⟨(⟨z6, z7, z8⟩ : Shape), z9⟩ : Tensor), z10⟩ : Job), z11)
  | _ => none
def yom (k : Nat) : PG := fun _ l K => (yoj l).bind fun a => (S_StepJob k a).bind fun r => K (yok r)
theorem yon (k : Nat) (a : Job) : ev (yoe k) (yoh (Job × Bool) k) 0 yog (st0 Tryz.f15 (yoi a)) (fin Tryz.prog Tryz.f15 (.tup [.agg [.sc, .sc, .sc, .own (.st .layer), .sc, .sc, .sc, .sc, .own (.int .i64), .sc], .sc]) yol) = S_StepJob k a := by kernel_rfl
theorem yoo (k : Nat) : PureOk Tryz.prog 15 (yom k) :=
  pureOk_of_ev (yof k) Tryz.func15 (by kernel_rfl) (by kernel_rfl) yoi yoj
    (fun l a h => by unfold yoj at h; split at h <;> first | (cases h; rfl) | cases h) (fun a => rfl) (lpgood_none (by kernel_rfl))
    (fun o r h => by unfold yol at h; split at h <;> first | (cases h; rfl) | cases h) (yon k)
def yop (k : Nat) : Orc := pureOrc [.agg [(.int .i64), (.int .i64), (.int .i64), (.sl (.st .layer)), (.int .i64), (.int .i64), (.int .i64), (.int .i64), (.sl (.int .i64)), (.int .i64)]] (yom k)
theorem yoq (k : Nat) : OrcOk Tryz.prog 15 (yop k) := pureOrc_ok (yoo k)
noncomputable def yor (k : Nat) : Env := { P := Tryz.prog, tt := tt, orc := fun g => cond (Nat.beq g 15) (yop k) (cond (Nat.beq g 22) (yei k) (cond (Nat.beq g 23) (y8l k) (cond (Nat.beq g 24) (yew k) (cond (Nat.beq g 38) (yfx k) (noOrc))))) }
theorem yos (k : Nat) : EnvOk (yor k) := fun g => (orc_cond (yoq k) (orc_cond (yej k) (orc_cond (y8m k) (orc_cond (yex k) (orc_cond (yfy k) (noOrc_ok _ _))))))
noncomputable def yot : Code := (Tryz.f18.body).getD .skip
noncomputable def you : Code := ((loopsIn 0 yot).getD 0 (0, .skip)).2
def yov : List Nat := [1, 4, 6]
def yow : List (Where × Co) := []
def yox : Ex → List Nat
  | .exit j => cond (Nat.beq j 0) [1, 4, 6] []
  | .ret => []
  | .normal => []
def yoy : Ex → List (Where × Co)
  | .exit j => cond (Nat.beq j 0) [] []
  | .ret => []
  | .normal => []
def yoz (pv : (Int × Int × Int × Int × Int × Int × Int × Int) × (Int × Int × Int × Int × Int × Int × Int × Int × Int × List Layer × List Int)) : St := { slots := [(1, .r [] (.int .i64 pv.2.1)), (4, .ptr 0 0 0), (6, .ptr 1 0 0)], heap := [(0, .box [.r [] (.int .i64 pv.1.1), .r [] (.int .i64 pv.1.2.1), .r [] (.int .i64 pv.1.2.2.1), .nilS, .r [] (.int .i64 pv.1.2.2.2.1), .r [] (.int .i64 pv.1.2.2.2.2.1), .r [] (.int .i64 pv.1.2.2.2.2.2.1), .r [] (.int .i64 pv.1.2.2.2.2.2.2.1), .nilS, .r [] (.int .i64 pv.1.2.2.2.2.2.2.2)]), (1, .box [.r [] (.int .i64 pv.2.2.1), .r [] (.int .i64 pv.2.2.2.1), .r [] (.int .i64 pv.2.2.2.2.1), .own 2, .r [] (.int .i64 pv.2.2.2.2.2.1), .r [] (.int .i64 pv.2.2.2.2.2.2.1), .r [] (.int .i64 pv.2.2.2.2.2.2.2.1), .r [] (.int .i64 pv.2.2.2.2.2.2.2.2.1), .own 3, .r [] (.int .i64 pv.2.2.2.2.2.2.2.2.2.1)]), (2, .arr none (.st .layer) pv.2.2.2.2.2.2.2.2.2.2.1), (3, .arr none (.int .i64) pv.2.2.2.2.2.2.2.2.2.2.2)], nid := 4, n := 36, gh := [] }
def yp0 (nf : NF) : Option ((Int × Int × Int × Int × Int × Int × Int × Int) × (Int × Int × Int × Int × Int × Int × Int × Int × Int × List Layer × List Int)) := match nf with
  | ([.r [] (.int .i64 w0), .ptr 0 0 0, .ptr 1 0 0], [.box [.r [] (.int .i64 w1), .r [] (.int .i64 w2), .r [] (.int .i64 w3), .nilS, .r [] (.int .i64 w4), .r [] (.int .i64 w5), .r [] (.int .i64 w6), .r [] (.int .i64 w7), .nilS, .r [] (.int .i64 w8)], .box [.r [] (.int .i64 w9), .r [] (.int .i64 w10), .r [] (.int .i64 w11), .own 2, .r [] (.int .i64 w12), .r [] (.int .i64 w13), .r [] (.int .i64 w14), .r [] (.int .i64 w15), .own 3, .r [] (.int .i64 w16)], .arr none (.st .layer) w17, .arr none (.int .i64) w18], []) => some ((w1, w2, w3, w4, w5, w6, w7, w8), (w0, w9, w10, w11, w12, w13, w14, w15, w16, w17, w18))
  | _ => none
theorem yp1 (nf : NF) (v : (Int × Int × Int × Int × Int × Int × Int × Int) × (Int × Int × Int × Int × Int × Int × Int × Int × Int × List Layer × List Int)) (h : yp0 nf = some v) : denorm yov 36 nf = yoz v := by
  unfold yp0 at h
  split at h
  · cases h; rfl
  · cases h
def yp2 (p : Int × Int × Int × Int × Int × Int × Int × Int) (x : Int × Int × Int × Int × Int × Int × Int × Int × Int × List Layer × List Int) : St := { slots := [(1, .r [] (.int .i64 x.1)), (4, .ptr 0 0 0), (6, .ptr 1 0 0)], heap := [(0, .box [.r [] (.int .i64 p.1), .r [] (.int .i64 p.2.1), .r [] (.int .i64 p.2.2.1), .nilS, .r [] (.int .i64 p.2.2.2.1), .r [] (.int .i64 p.2.2.2.2.1), .r [] (.int .i64 p.2.2.2.2.2.1), .r [] (.int .i64 p.2.2.2.2.2.2.1), .nilS, .r [] (.int .i64 p.2.2.2.2.2.2.2)]), (1, .box [.r [] (.int .i64 x.2.1), .r [] (.int .i64 x.2.2.1), .r [] (.int .i64 x.2.2.2.1), .own 2, .r [] (.int .i64 x.2.2.2.2.1), .r [] (.int .i64 x.2.2.2.2.2.1), .r [] (.int .i64 x.2.2.2.2.2.2.1), .r [] (.int .i64 x.2.2.2.2.2.2.2.1), .own 3, .r [] (.int .i64 x.2.2.2.2.2.2.2.2.1)]), (2, .arr none (.st .layer) x.2.2.2.2.2.2.2.2.2.1), (3, .arr none (.int .i64) x.2.2.2.2.2.2.2.2.2.2)], nid := 4, n := 36, gh := [] }
def yp3 (ρ : Type) (k : Nat) : Nat → Ev ρ → Ev ρ := fun id f => cond (Nat.beq id 0) (loopOrc yov yow (fun n nf => cond (Nat.beq n 36) (yp0 nf) none) fun pv K => iter (fun v next => S_RunFor_g0 k pv.1 v next (fun x => K (.exit 0) (yp2 pv.1 x))) k pv.2) ((fun _ _ _ _ => none) id f)
theorem yp4 {ρ : Type} (k : Nat) (p : Int × Int × Int × Int × Int × Int × Int × Int) (v : Int × Int × Int × Int × Int × Int × Int × Int × Int × List Layer × List Int) (K K1 : Ex → St → Option ρ) : ev (yor k) (yp3 ρ k) 0 you (yoz (p, v)) (fun e st' => match e with
    | .normal => (normC yov yow st').bind fun nf => K1 .normal (denorm yov st'.n nf)
    | e => (normC (yox e) (yoy e) st').bind fun nf => K e (denorm (yox e) st'.n nf)) = S_RunFor_g0 k p v (fun v' => K1 .normal (yoz (p, v'))) (fun x => K (.exit 0) (yp2 p x)) := by kernel_rfl
theorem yp5 {ρ : Type} (k : Nat) : Sound Tryz.prog (.loop you) (yp3 ρ k 0 fun st K => ev (yor k) (yp3 ρ k) 0 you st K) :=
  loop_ok (ev_sound (yos k) you 0 (lpgood_none (by kernel_rfl))) yox yoy k (g := fun p v next K => S_RunFor_g0 k p v next (fun x => K (.exit 0) (yp2 p x))) (dec_at yp1) (fun p v K K1 => yp4 k p v K K1)
def yp6 (a : Job × Int) : List Arg := [.agg [.int .i64 a.1.model.inp.h, .int .i64 a.1.model.inp.w, .int .i64 a.1.model.inp.c, .sl (.st .layer) a.1.model.layers, .int .i64 a.1.at_, .int .i64 a.1.act.sh.h, .int .i64 a.1.act.sh.w, .int .i64 a.1.act.sh.c, .sl (.int .i64) a.1.act.data, .int .i64 a.1.spent], .one (.int .i64 a.2)]
def yp7 (l : List Arg) : Option (Job × Int) := match l with
  | [.agg [.int .i64 b0_0, .int .i64 b0_1, .int .i64 b0_2, .sl (.st .layer) b0_3, .int .i64 b0_4, .int .i64 b0_5, .int .i64 b0_6, .int .i64 b0_7, .sl (.int .i64) b0_8, .int .i64 b0_9], .one (.int .i64 b1)] => some ((⟨(⟨(⟨b0_0, b0_1, b0_2⟩ : Shape), b0_3⟩ : Model), b0_4, (⟨(⟨b0_5, b0_6, b0_7⟩ : Shape), b0_8⟩ : Tensor), b0_9⟩ : Job), b1)
  | _ => none
def yp8 (r : Job × Int) : Out := (.tup [.agg [.r [] (.int .i64 r.1.model.inp.h), .r [] (.int .i64 r.1.model.inp.w), .r [] (.int .i64 r.1.model.inp.c), .own 0, .r [] (.int .i64 r.1.at_), .r [] (.int .i64 r.1.act.sh.h), .r [] (.int .i64 r.1.act.sh.w), .r [] (.int .i64 r.1.act.sh.c), .own 1, .r [] (.int .i64 r.1.spent)], .r [] (.int .i64 r.2)], [.arr none (.st .layer) r.1.model.layers, .arr none (.int .i64) r.1.act.data])
def yp9 (o : Out) : Option (Job × Int) := match o with
  | (.tup [.agg [.r [] (.int .i64 z1), .r [] (.int .i64 z2), .r [] (.int .i64 z3), .own 0, .r [] (.int .i64 z5), .r [] (.int .i64 z6), .r [] (.int .i64 z7), .r [] (.int .i64 z8), .own 1, .r [] (.int .i64 z10)], .r [] (.int .i64 z11)], [.arr none (.st .layer) z4, .arr none (.int .i64) z9]) => some ((⟨(⟨(⟨z1, z2, z3⟩ : Shape), z4⟩ : Model), z5, (⟨(⟨z6, z7, z8⟩ : Shape), z9⟩ : Tensor), z10⟩ : Job), z11)
  | _ => none
def ypa (k : Nat) : PG := fun _ l K => (yp7 l).bind fun a => (S_RunFor k a.1 a.2).bind fun r => K (yp8 r)
theorem ypb (k : Nat) (a : Job × Int) : ev (yor k) (yp3 (Job × Int) k) 0 yot (st0 Tryz.f18 (yp6 a)) (fin Tryz.prog Tryz.f18 (.tup [.agg [.sc, .sc, .sc, .own (.st .layer), .sc, .sc, .sc, .sc, .own (.int .i64), .sc], .sc]) yp9) = S_RunFor k a.1 a.2 := by kernel_rfl
theorem ypc (k : Nat) : PureOk Tryz.prog 18 (ypa k) :=
  pureOk_of_ev (yos k) Tryz.func18 (by kernel_rfl) (by kernel_rfl) yp6 yp7
    (fun l a h => by unfold yp7 at h; split at h <;> first | (cases h; rfl) | cases h) (fun a => rfl) (lpgood_of (l := [(0, you)]) (by kernel_rfl) ⟨yp5 k, trivial⟩)
    (fun o r h => by unfold yp9 at h; split at h <;> first | (cases h; rfl) | cases h) (ypb k)
def ypd (k : Nat) : Orc := pureOrc [.agg [(.int .i64), (.int .i64), (.int .i64), (.sl (.st .layer)), (.int .i64), (.int .i64), (.int .i64), (.int .i64), (.sl (.int .i64)), (.int .i64)], .one (.int .i64)] (ypa k)
theorem ype (k : Nat) : OrcOk Tryz.prog 18 (ypd k) := pureOrc_ok (ypc k)
noncomputable def ypf (k : Nat) : Env := { P := Tryz.prog, tt := tt, orc := fun g => noOrc }
theorem ypg (k : Nat) : EnvOk (ypf k) := fun g => (noOrc_ok _ _)
noncomputable def yph : Code := (Tryz.f82.body).getD .skip
def ypi (ρ : Type) (k : Nat) : Nat → Ev ρ → Ev ρ := fun _ _ _ _ => none
def ypj (a : List Int) : List Arg := [.one (.sl (.int .i64) a)]
def ypk (l : List Arg) : Option (List Int) := match l with
  | [.one (.sl (.int .i64) b0)] => some b0
  | _ => none
def ypl (r : List Int) : Out := (.own 0, [.arr none (.int .i64) r])
def ypm (o : Out) : Option (List Int) := match o with
  | (.own 0, [.arr none (.int .i64) z1]) => some z1
  | _ => none
def ypn (k : Nat) : PG := fun _ l K => (ypk l).bind fun a => (slices_Clone_lint_int k a).bind fun r => K (ypl r)
theorem ypo (k : Nat) (a : List Int) : ev (ypf k) (ypi (List Int) k) 0 yph (st0 Tryz.f82 (ypj a)) (fin Tryz.prog Tryz.f82 (.own (.int .i64)) ypm) = slices_Clone_lint_int k a := by kernel_rfl
theorem ypp (k : Nat) : PureOk Tryz.prog 82 (ypn k) :=
  pureOk_of_ev (ypg k) Tryz.func82 (by kernel_rfl) (by kernel_rfl) ypj ypk
    (fun l a h => by unfold ypk at h; split at h <;> first | (cases h; rfl) | cases h) (fun a => rfl) (lpgood_none (by kernel_rfl))
    (fun o r h => by unfold ypm at h; split at h <;> first | (cases h; rfl) | cases h) (ypo k)
def ypq (k : Nat) : Orc := pureOrc [.one (.sl (.int .i64))] (ypn k)
theorem ypr (k : Nat) : OrcOk Tryz.prog 82 (ypq k) := pureOrc_ok (ypp k)
noncomputable def yps (k : Nat) : Env := { P := Tryz.prog, tt := tt, orc := fun g => cond (Nat.beq g 82) (ypq k) (noOrc) }
theorem ypt (k : Nat) : EnvOk (yps k) := fun g => (orc_cond (ypr k) (noOrc_ok _ _))
noncomputable def ypu : Code := (Tryz.f94.body).getD .skip
def ypv (ρ : Type) (k : Nat) : Nat → Ev ρ → Ev ρ := fun _ _ _ _ => none
def ypw (a : Layer) : List Arg := [.agg [.int .i64 a.kind, .int .i64 a.out, .int .i64 a.size, .int .i64 a.step, .int .i64 a.mult, .int .i64 a.shift, .int .i64 a.zero, .sl (.int .i64) a.weights, .sl (.int .i64) a.bias]]
def ypx (l : List Arg) : Option (Layer) := match l with
  | [.agg [.int .i64 b0_0, .int .i64 b0_1, .int .i64 b0_2, .int .i64 b0_3, .int .i64 b0_4, .int .i64 b0_5, .int .i64 b0_6, .sl (.int .i64) b0_7, .sl (.int .i64) b0_8]] => some (⟨b0_0, b0_1, b0_2, b0_3, b0_4, b0_5, b0_6, b0_7, b0_8⟩ : Layer)
  | _ => none
def ypy (r : Layer) : Out := (.agg [.r [] (.int .i64 r.kind), .r [] (.int .i64 r.out), .r [] (.int .i64 r.size), .r [] (.int .i64 r.step), .r [] (.int .i64 r.mult), .r [] (.int .i64 r.shift), .r [] (.int .i64 r.zero), .own 0, .own 1], [.arr none (.int .i64) r.weights, .arr none (.int .i64) r.bias])
def ypz (o : Out) : Option (Layer) := match o with
  | (.agg [.r [] (.int .i64 z1), .r [] (.int .i64 z2), .r [] (.int .i64 z3), .r [] (.int .i64 z4), .r [] (.int .i64 z5), .r [] (.int .i64 z6), .r [] (.int .i64 z7), .own 0, .own 1], [.arr none (.int .i64) z8, .arr none (.int .i64) z9]) => some (⟨z1, z2, z3, z4, z5, z6, z7, z8, z9⟩ : Layer)
  | _ => none
def yq0 (k : Nat) : PG := fun _ l K => (ypx l).bind fun a => (I_Layer_copied k a).bind fun r => K (ypy r)
theorem yq1 (k : Nat) (a : Layer) : ev (yps k) (ypv (Layer) k) 0 ypu (st0 Tryz.f94 (ypw a)) (fin Tryz.prog Tryz.f94 (.agg [.sc, .sc, .sc, .sc, .sc, .sc, .sc, .own (.int .i64), .own (.int .i64)]) ypz) = I_Layer_copied k a := by kernel_rfl
theorem yq2 (k : Nat) : PureOk Tryz.prog 94 (yq0 k) :=
  pureOk_of_ev (ypt k) Tryz.func94 (by kernel_rfl) (by kernel_rfl) ypw ypx
    (fun l a h => by unfold ypx at h; split at h <;> first | (cases h; rfl) | cases h) (fun a => rfl) (lpgood_none (by kernel_rfl))
    (fun o r h => by unfold ypz at h; split at h <;> first | (cases h; rfl) | cases h) (yq1 k)
def yq3 (k : Nat) : Orc := pureOrc [.agg [(.int .i64), (.int .i64), (.int .i64), (.int .i64), (.int .i64), (.int .i64), (.int .i64), (.sl (.int .i64)), (.sl (.int .i64))]] (yq0 k)
theorem yq4 (k : Nat) : OrcOk Tryz.prog 94 (yq3 k) := pureOrc_ok (yq2 k)
noncomputable def yq5 (k : Nat) : Env := { P := Tryz.prog, tt := tt, orc := fun g => cond (Nat.beq g 94) (yq3 k) (noOrc) }
theorem yq6 (k : Nat) : EnvOk (yq5 k) := fun g => (orc_cond (yq4 k) (noOrc_ok _ _))
noncomputable def yq7 : Code := (Tryz.f81.body).getD .skip
noncomputable def yq8 : Code := ((loopsIn 0 yq7).getD 0 (0, .skip)).2
def yq9 : List Nat := [3, 7, 8, 9]
def yqa : List (Where × Co) := []
def yqb : Ex → List Nat
  | .exit j => cond (Nat.beq j 0) [3] []
  | .ret => []
  | .normal => []
def yqc : Ex → List (Where × Co)
  | .exit j => cond (Nat.beq j 0) [] []
  | .ret => []
  | .normal => []
def yqd (pv : (List Layer × Int) × (Int × List Layer)) : St := { slots := [(3, .own 0), (7, .r [] (.sl (.st .layer) pv.1.1)), (8, .r [] (.int .i64 pv.1.2)), (9, .r [] (.int .i64 pv.2.1))], heap := [(0, .arr none (.st .layer) pv.2.2)], nid := 1, n := 20, gh := [] }
def yqe (nf : NF) : Option ((List Layer × Int) × (Int × List Layer)) := match nf with
  | ([.own 0, .r [] (.sl (.st .layer) w0), .r [] (.int .i64 w1), .r [] (.int .i64 w2)], [.arr none (.st .layer) w3], []) => some ((w0, w1), (w2, w3))
  | _ => none
theorem yqf (nf : NF) (v : (List Layer × Int) × (Int × List Layer)) (h : yqe nf = some v) : denorm yq9 20 nf = yqd v := by
  unfold yqe at h
  split at h
  · cases h; rfl
  · cases h
def yqg (p : List Layer × Int) (x : List Layer) : St := { slots := [(3, .own 0)], heap := [(0, .arr none (.st .layer) x)], nid := 1, n := 20, gh := [] }
def yqh (ρ : Type) (k : Nat) : Nat → Ev ρ → Ev ρ := fun id f => cond (Nat.beq id 0) (loopOrc yq9 yqa (fun n nf => cond (Nat.beq n 20) (yqe nf) none) fun pv K => iter (fun v next => I_copiedLayers_g0 k pv.1 v next (fun x => K (.exit 0) (yqg pv.1 x))) k pv.2) ((fun _ _ _ _ => none) id f)
theorem yqi {ρ : Type} (k : Nat) (p : List Layer × Int) (v : Int × List Layer) (K K1 : Ex → St → Option ρ) : ev (yq5 k) (yqh ρ k) 0 yq8 (yqd (p, v)) (fun e st' => match e with
    | .normal => (normC yq9 yqa st').bind fun nf => K1 .normal (denorm yq9 st'.n nf)
    | e => (normC (yqb e) (yqc e) st').bind fun nf => K e (denorm (yqb e) st'.n nf)) = I_copiedLayers_g0 k p v (fun v' => K1 .normal (yqd (p, v'))) (fun x => K (.exit 0) (yqg p x)) := by kernel_rfl
theorem yqj {ρ : Type} (k : Nat) : Sound Tryz.prog (.loop yq8) (yqh ρ k 0 fun st K => ev (yq5 k) (yqh ρ k) 0 yq8 st K) :=
  loop_ok (ev_sound (yq6 k) yq8 0 (lpgood_none (by kernel_rfl))) yqb yqc k (g := fun p v next K => I_copiedLayers_g0 k p v next (fun x => K (.exit 0) (yqg p x))) (dec_at yqf) (fun p v K K1 => yqi k p v K K1)
def yqk (a : List Layer) : List Arg := [.one (.sl (.st .layer) a)]
def yql (l : List Arg) : Option (List Layer) := match l with
  | [.one (.sl (.st .layer) b0)] => some b0
  | _ => none
def yqm (r : List Layer) : Out := (.own 0, [.arr none (.st .layer) r])
def yqn (o : Out) : Option (List Layer) := match o with
  | (.own 0, [.arr none (.st .layer) z1]) => some z1
  | _ => none
def yqo (k : Nat) : PG := fun _ l K => (yql l).bind fun a => (I_copiedLayers k a).bind fun r => K (yqm r)
theorem yqp (k : Nat) (a : List Layer) : ev (yq5 k) (yqh (List Layer) k) 0 yq7 (st0 Tryz.f81 (yqk a)) (fin Tryz.prog Tryz.f81 (.own (.st .layer)) yqn) = I_copiedLayers k a := by kernel_rfl
theorem yqq (k : Nat) : PureOk Tryz.prog 81 (yqo k) :=
  pureOk_of_ev (yq6 k) Tryz.func81 (by kernel_rfl) (by kernel_rfl) yqk yql
    (fun l a h => by unfold yql at h; split at h <;> first | (cases h; rfl) | cases h) (fun a => rfl) (lpgood_of (l := [(0, yq8)]) (by kernel_rfl) ⟨yqj k, trivial⟩)
    (fun o r h => by unfold yqn at h; split at h <;> first | (cases h; rfl) | cases h) (yqp k)
def yqr (k : Nat) : Orc := pureOrc [.one (.sl (.st .layer))] (yqo k)
theorem yqs (k : Nat) : OrcOk Tryz.prog 81 (yqr k) := pureOrc_ok (yqq k)
noncomputable def yqt (k : Nat) : Env := { P := Tryz.prog, tt := tt, orc := fun g => cond (Nat.beq g 81) (yqr k) (noOrc) }
theorem yqu (k : Nat) : EnvOk (yqt k) := fun g => (orc_cond (yqs k) (noOrc_ok _ _))
noncomputable def yqv : Code := (Tryz.f58.body).getD .skip
def yqw (ρ : Type) (k : Nat) : Nat → Ev ρ → Ev ρ := fun _ _ _ _ => none
def yqx (a : Model) : List Arg := [.agg [.int .i64 a.inp.h, .int .i64 a.inp.w, .int .i64 a.inp.c, .sl (.st .layer) a.layers]]
def yqy (l : List Arg) : Option (Model) := match l with
  | [.agg [.int .i64 b0_0, .int .i64 b0_1, .int .i64 b0_2, .sl (.st .layer) b0_3]] => some (⟨(⟨b0_0, b0_1, b0_2⟩ : Shape), b0_3⟩ : Model)
  | _ => none
def yqz (r : Model) : Out := (.agg [.r [] (.int .i64 r.inp.h), .r [] (.int .i64 r.inp.w), .r [] (.int .i64 r.inp.c), .own 0], [.arr none (.st .layer) r.layers])
def yr0 (o : Out) : Option (Model) := match o with
  | (.agg [.r [] (.int .i64 z1), .r [] (.int .i64 z2), .r [] (.int .i64 z3), .own 0], [.arr none (.st .layer) z4]) => some (⟨(⟨z1, z2, z3⟩ : Shape), z4⟩ : Model)
  | _ => none
def yr1 (k : Nat) : PG := fun _ l K => (yqy l).bind fun a => (I_Model_copied k a).bind fun r => K (yqz r)
theorem yr2 (k : Nat) (a : Model) : ev (yqt k) (yqw (Model) k) 0 yqv (st0 Tryz.f58 (yqx a)) (fin Tryz.prog Tryz.f58 (.agg [.sc, .sc, .sc, .own (.st .layer)]) yr0) = I_Model_copied k a := by kernel_rfl
theorem yr3 (k : Nat) : PureOk Tryz.prog 58 (yr1 k) :=
  pureOk_of_ev (yqu k) Tryz.func58 (by kernel_rfl) (by kernel_rfl) yqx yqy
    (fun l a h => by unfold yqy at h; split at h <;> first | (cases h; rfl) | cases h) (fun a => rfl) (lpgood_none (by kernel_rfl))
    (fun o r h => by unfold yr0 at h; split at h <;> first | (cases h; rfl) | cases h) (yr2 k)
def yr4 (k : Nat) : Orc := pureOrc [.agg [(.int .i64), (.int .i64), (.int .i64), (.sl (.st .layer))]] (yr1 k)
theorem yr5 (k : Nat) : OrcOk Tryz.prog 58 (yr4 k) := pureOrc_ok (yr3 k)
noncomputable def yr6 (k : Nat) : Env := { P := Tryz.prog, tt := tt, orc := fun g => cond (Nat.beq g 82) (ypq k) (noOrc) }
theorem yr7 (k : Nat) : EnvOk (yr6 k) := fun g => (orc_cond (ypr k) (noOrc_ok _ _))
noncomputable def yr8 : Code := (Tryz.f59.body).getD .skip
def yr9 (ρ : Type) (k : Nat) : Nat → Ev ρ → Ev ρ := fun _ _ _ _ => none
def yra (a : Tensor) : List Arg := [.agg [.int .i64 a.sh.h, .int .i64 a.sh.w, .int .i64 a.sh.c, .sl (.int .i64) a.data]]
def yrb (l : List Arg) : Option (Tensor) := match l with
  | [.agg [.int .i64 b0_0, .int .i64 b0_1, .int .i64 b0_2, .sl (.int .i64) b0_3]] => some (⟨(⟨b0_0, b0_1, b0_2⟩ : Shape), b0_3⟩ : Tensor)
  | _ => none
def yrc (r : Tensor) : Out := (.agg [.r [] (.int .i64 r.sh.h), .r [] (.int .i64 r.sh.w), .r [] (.int .i64 r.sh.c), .own 0], [.arr none (.int .i64) r.data])
def yrd (o : Out) : Option (Tensor) := match o with
  | (.agg [.r [] (.int .i64 z1), .r [] (.int .i64 z2), .r [] (.int .i64 z3), .own 0], [.arr none (.int .i64) z4]) => some (⟨(⟨z1, z2, z3⟩ : Shape), z4⟩ : Tensor)
  | _ => none
def yre (k : Nat) : PG := fun _ l K => (yrb l).bind fun a => (I_Tensor_copied k a).bind fun r => K (yrc r)
theorem yrf (k : Nat) (a : Tensor) : ev (yr6 k) (yr9 (Tensor) k) 0 yr8 (st0 Tryz.f59 (yra a)) (fin Tryz.prog Tryz.f59 (.agg [.sc, .sc, .sc, .own (.int .i64)]) yrd) = I_Tensor_copied k a := by kernel_rfl
theorem yrg (k : Nat) : PureOk Tryz.prog 59 (yre k) :=
  pureOk_of_ev (yr7 k) Tryz.func59 (by kernel_rfl) (by kernel_rfl) yra yrb
    (fun l a h => by unfold yrb at h; split at h <;> first | (cases h; rfl) | cases h) (fun a => rfl) (lpgood_none (by kernel_rfl))
    (fun o r h => by unfold yrd at h; split at h <;> first | (cases h; rfl) | cases h) (yrf k)
def yrh (k : Nat) : Orc := pureOrc [.agg [(.int .i64), (.int .i64), (.int .i64), (.sl (.int .i64))]] (yre k)
theorem yri (k : Nat) : OrcOk Tryz.prog 59 (yrh k) := pureOrc_ok (yrg k)
noncomputable def yrj (k : Nat) : Env := { P := Tryz.prog, tt := tt, orc := fun g => cond (Nat.beq g 58) (yr4 k) (cond (Nat.beq g 59) (yrh k) (noOrc)) }
theorem yrk (k : Nat) : EnvOk (yrj k) := fun g => (orc_cond (yr5 k) (orc_cond (yri k) (noOrc_ok _ _)))
noncomputable def yrl : Code := (Tryz.f28.body).getD .skip
def yrm (ρ : Type) (k : Nat) : Nat → Ev ρ → Ev ρ := fun _ _ _ _ => none
def yrn (a : Job) : List Arg := [.agg [.int .i64 a.model.inp.h, .int .i64 a.model.inp.w, .int .i64 a.model.inp.c, .sl (.st .layer) a.model.layers, .int .i64 a.at_, .int .i64 a.act.sh.h, .int .i64 a.act.sh.w, .int .i64 a.act.sh.c, .sl (.int .i64) a.act.data, .int .i64 a.spent]]
def yro (l : List Arg) : Option (Job) := match l with
  | [.agg [.int .i64 b0_0, .int .i64 b0_1, .int .i64 b0_2, .sl (.st .layer) b0_3, .int .i64 b0_4, .int .i64 b0_5, .int .i64 b0_6, .int .i64 b0_7, .sl (.int .i64) b0_8, .int .i64 b0_9]] => some (⟨(⟨(⟨b0_0, b0_1, b0_2⟩ : Shape), b0_3⟩ : Model), b0_4, (⟨(⟨b0_5, b0_6, b0_7⟩ : Shape), b0_8⟩ : Tensor), b0_9⟩ : Job)
  | _ => none
end
end Go.Proofs.Ev
