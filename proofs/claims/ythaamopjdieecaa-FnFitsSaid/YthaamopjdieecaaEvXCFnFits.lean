/- Text of this claim. -/
import Derived.Test.YthaamopjdieecaaEvK6
import Derived.Test.YthaamopjdieecaaProg
import Derived.Test.YthaamopjdieecaaEvD1
import Derived.Test.YthaamopjdieecaaEvD11
import Derived.Test.YthaamopjdieecaaEvD13
import Derived.Test.YthaamopjdieecaaEvD3
import Derived.Test.YthaamopjdieecaaEvD6
import Derived.Test.YthaamopjdieecaaEvD7
import Derived.Test.YthaamopjdieecaaEvD8
set_option linter.unusedVariables false
set_option linter.unusedSimpArgs false
set_option linter.unusedVariables false
set_option linter.unusedSimpArgs false
set_option maxRecDepth 100000
set_option maxHeartbeats 4000000
namespace Go.Proofs.Ev
noncomputable section
variable [Tok]
set_option linter.unusedSectionVars false
def tt : TT := look [(2, (.int .i64)), (3, (.int .i64)), (4, .bool), (5, (.int .u8)), (6, (.int .u8)), (9, .str), (10, .str), (11, .str), (12, (.int .u64)), (21, (.int .i32)), (22, (.sl (.int .u8))), (24, (.st .shape)), (25, (.sl (.int .i64))), (27, (.st .tensor)), (29, (.st .step)), (33, (.st .shape)), (35, (.st .tensor)), (37, (.st .step)), (44, (.sl (.st .step))), (47, (.sl (.st .step))), (53, (.sl (.st .task))), (64, (.sl (.sl (.int .i64)))), (74, (.st .task)), (76, (.sl (.st .layer))), (78, (.st .model)), (80, (.sl (.st .layer))), (82, (.st .model)), (90, (.sl (.st .tensor))), (102, (.sl (.st .wish))), (106, (.sl (.st .wish))), (126, (.sl (.st .shape))), (163, (.st .layer)), (179, (.st .wish)), (181, (.st .wish)), (202, (.int .u64)), (214, (.st .layer)), (219, (.sl (.sl (.st .layer)))), (258, (.int .u32)), (259, (.int .u8)), (260, (.int .u8)), (263, (.int .i32)), (264, (.int .i32))]
def ttTask : TT := look [(2, (.int .i64)), (3, (.int .i64)), (4, .bool), (5, (.int .u8)), (6, (.int .u8)), (9, .str), (10, .str), (11, .str), (12, (.int .u64)), (21, (.int .i32)), (22, (.sl (.int .u8))), (24, (.st .shape)), (25, (.sl (.int .i64))), (27, (.st .tensor)), (29, (.st .step)), (33, (.st .shape)), (35, (.st .tensor)), (37, (.st .step)), (44, (.sl (.st .step))), (47, (.sl (.st .step))), (53, (.sl (.st .taskK))), (64, (.sl (.sl (.int .i64)))), (74, (.st .taskK)), (76, (.sl (.st .layer))), (78, (.st .model)), (80, (.sl (.st .layer))), (82, (.st .model)), (90, (.sl (.st .tensor))), (102, (.sl (.st .wish))), (106, (.sl (.st .wish))), (126, (.sl (.st .shape))), (163, (.st .layer)), (179, (.st .wish)), (181, (.st .wish)), (202, (.int .u64)), (214, (.st .layer)), (219, (.sl (.sl (.st .layer)))), (258, (.int .u32)), (259, (.int .u8)), (260, (.int .u8)), (263, (.int .i32)), (264, (.int .i32))]
noncomputable def y0 (k : Nat) : Env := { P := Try.prog, tt := tt, orc := fun g => noOrc }
theorem y1 (k : Nat) : EnvOk (y0 k) := fun g => (noOrc_ok _ _)
noncomputable def ya : Code := (Try.f29.body).getD .skip
def yb (ρ : Type) (k : Nat) : Nat → Ev ρ → Ev ρ := fun _ _ _ _ => none
def yc (a : List Int) : List Arg := [.one (.sl (.int .u8) a)]
def yd (l : List Arg) : Option (List Int) := match l with
  | [.one (.sl (.int .u8) b0)] => some b0
  | _ => none
def ye (r : Bool) : Out := (.r [] (.bool r), [])
def yf (o : Out) : Option (Bool) := match o with
  | (.r [] (.bool z1), []) => some z1
  | _ => none
def yg (k : Nat) : PG := fun _ l K => (yd l).bind fun a => (L_big k a).bind fun r => K (ye r)
theorem yh (k : Nat) (a : List Int) : ev (y0 k) (yb (Bool) k) 0 ya (st0 Try.f29 (yc a)) (fin Try.prog Try.f29 (.sc) yf) = L_big k a := by kernel_rfl
theorem yi (k : Nat) : PureOk Try.prog 29 (yg k) :=
  pureOk_of_ev (y1 k) Try.func29 (by kernel_rfl) (by kernel_rfl) yc yd
    (fun l a h => by unfold yd at h; split at h <;> first | (cases h; rfl) | cases h) (fun a => rfl) (lpgood_none (by kernel_rfl))
    (fun o r h => by unfold yf at h; split at h <;> first | (cases h; rfl) | cases h) (yh k)
def yj (k : Nat) : Orc := pureOrc [.one (.sl (.int .u8))] (yg k)
theorem yk (k : Nat) : OrcOk Try.prog 29 (yj k) := pureOrc_ok (yi k)
noncomputable def yl (k : Nat) : Env := { P := Try.prog, tt := tt, orc := fun g => noOrc }
theorem ym (k : Nat) : EnvOk (yl k) := fun g => (noOrc_ok _ _)
noncomputable def yn : Code := (Try.f124.body).getD .skip
noncomputable def yo : Code := ((loopsIn 0 yn).getD 0 (0, .skip)).2
def yp : List Nat := [0, 3, 4]
def yq : List (Where × Co) := []
def yr : Ex → List Nat
  | .exit j => cond (Nat.beq j 0) [0, 3] []
  | .ret => []
  | .normal => []
def yt : Ex → List (Where × Co)
  | .exit j => cond (Nat.beq j 0) [] []
  | .ret => []
  | .normal => []
def yu (pv : (List Int) × (Int × Int)) : St := { slots := [(0, .r [] (.sl (.int .u8) pv.1)), (3, .r [] (.int .i64 pv.2.1)), (4, .r [] (.int .i64 pv.2.2))], heap := [], nid := 0, n := 32, gh := [] }
def yv (nf : NF) : Option ((List Int) × (Int × Int)) := match nf with
  | ([.r [] (.sl (.int .u8) w0), .r [] (.int .i64 w1), .r [] (.int .i64 w2)], [], []) => some (w0, (w1, w2))
  | _ => none
theorem yw (nf : NF) (v : (List Int) × (Int × Int)) (h : yv nf = some v) : denorm yp 32 nf = yu v := by
  unfold yv at h
  split at h
  · cases h; rfl
  · cases h
def yx (p : List Int) (x : Int) : St := { slots := [(0, .r [] (.sl (.int .u8) p)), (3, .r [] (.int .i64 x))], heap := [], nid := 0, n := 32, gh := [] }
def yy (ρ : Type) (k : Nat) : Nat → Ev ρ → Ev ρ := fun id f => cond (Nat.beq id 0) (loopOrc yp yq (fun n nf => cond (Nat.beq n 32) (yv nf) none) fun pv K => iter (fun v next => S_l01New_m_g0 k pv.1 v next (fun x => K (.exit 0) (yx pv.1 x))) k pv.2) ((fun _ _ _ _ => none) id f)
theorem yz {ρ : Type} (k : Nat) (p : List Int) (v : Int × Int) (K K1 : Ex → St → Option ρ) : ev (yl k) (yy ρ k) 0 yo (yu (p, v)) (fun e st' => match e with
    | .normal => (normC yp yq st').bind fun nf => K1 .normal (denorm yp st'.n nf)
    | e => (normC (yr e) (yt e) st').bind fun nf => K e (denorm (yr e) st'.n nf)) = S_l01New_m_g0 k p v (fun v' => K1 .normal (yu (p, v'))) (fun x => K (.exit 0) (yx p x)) := by kernel_rfl
theorem y13 {ρ : Type} (k : Nat) : Sound Try.prog (.loop yo) (yy ρ k 0 fun st K => ev (yl k) (yy ρ k) 0 yo st K) :=
  loop_ok (ev_sound (ym k) yo 0 (lpgood_none (by kernel_rfl))) yr yt k (g := fun p v next K => S_l01New_m_g0 k p v next (fun x => K (.exit 0) (yx p x))) (dec_at yw) (fun p v K K1 => yz k p v K K1)
def y16 (a : List Int) : List SV := [.r [] (.sl (.int .u8) a)]
def y18 (a : List Int) : List Blk := []
def y1a (l : List SV) (b : List Blk) : Option (List Int) := match l, b with
  | [.r [] (.sl (.int .u8) w0)], [] => some w0
  | _, _ => none
def y1b (a : List Int) (r : Int × Int) : MOut := ⟨.ptr 0 0 0, [], [.box [.r [] (.sl (.int .u8) a), .r [] (.int .i64 r.1), .r [] (.int .i64 r.2)]]⟩
def y1c (a : List Int) (o : MOut) : Option (Int × Int) := match o with
  | ⟨.ptr 0 0 0, [], [.box [.r [] (.sl (.int .u8) z1), .r [] (.int .i64 z2), .r [] (.int .i64 z3)]]⟩ => cond (@sameL (List Int) _ z1 a) (some (z2, z3)) none
  | _ => none
def y1d (k : Nat) : MG := fun _ l b K => (y1a l b).bind fun a => (S_l01New_m k a).bind fun r => K (y1b a r)
theorem y1e (k : Nat) (a : List Int) : ev (yl k) (yy (Int × Int) k) 0 yn (st0M Try.f124 (y16 a) (y18 a)) (finM Try.prog Try.f124 (.ptr) [.box [.ro (.int .u8), .sc, .sc]] (y1c a)) = S_l01New_m k a := by kernel_rfl
theorem y1f (k : Nat) : MutOk Try.prog 124 (y1d k) :=
  mutOk_of_ev (ym k) Try.func124 (by kernel_rfl) (by kernel_rfl) y16 y18 y1a
    (fun l b a h => by unfold y1a at h; split at h <;> first | (cases h; exact ⟨rfl, rfl⟩) | cases h) (fun a => rfl) (lpgood_of (l := [(0, yo)]) (by kernel_rfl) ⟨y13 k, trivial⟩) (fun a r => rfl)
    (fun a o r h => by unfold y1c at h; split at h <;> first | (obtain ⟨e0, hq⟩ := dec_chk1 h; clear h; subst e0; have h := hq; clear hq; cases h; rfl) | cases h) (y1e k)
def y1g (k : Nat) : Orc := mutOrc [.one (.sl (.int .u8))] (y1d k)
theorem y1h (k : Nat) : OrcOk Try.prog 124 (y1g k) := mutOrc_ok (y1f k)
noncomputable def y1i (k : Nat) : Env := { P := Try.prog, tt := tt, orc := fun g => noOrc }
theorem y1j (k : Nat) : EnvOk (y1i k) := fun g => (noOrc_ok _ _)
noncomputable def y1k : Code := (Try.f125.body).getD .skip
def y1l (ρ : Type) (k : Nat) : Nat → Ev ρ → Ev ρ := fun _ _ _ _ => none
def y1m (a : List Int × Int) : List Arg := [.one (.sl (.int .u8) a.1), .one (.int .i64 a.2)]
def y1n (l : List Arg) : Option (List Int × Int) := match l with
  | [.one (.sl (.int .u8) b0), .one (.int .i64 b1)] => some (b0, b1)
  | _ => none
def y1o (r : Int) : Out := (.r [] (.int .i64 r), [])
def y1p (o : Out) : Option (Int) := match o with
  | (.r [] (.int .i64 z1), []) => some z1
  | _ => none
def y1q (k : Nat) : PG := fun _ l K => (y1n l).bind fun a => (S_l01Size k a.1 a.2).bind fun r => K (y1o r)
theorem y1r (k : Nat) (a : List Int × Int) : ev (y1i k) (y1l (Int) k) 0 y1k (st0 Try.f125 (y1m a)) (fin Try.prog Try.f125 (.sc) y1p) = S_l01Size k a.1 a.2 := by kernel_rfl
theorem y1s (k : Nat) : PureOk Try.prog 125 (y1q k) :=
  pureOk_of_ev (y1j k) Try.func125 (by kernel_rfl) (by kernel_rfl) y1m y1n
    (fun l a h => by unfold y1n at h; split at h <;> first | (cases h; rfl) | cases h) (fun a => rfl) (lpgood_none (by kernel_rfl))
    (fun o r h => by unfold y1p at h; split at h <;> first | (cases h; rfl) | cases h) (y1r k)
def y1t (k : Nat) : Orc := pureOrc [.one (.sl (.int .u8)), .one (.int .i64)] (y1q k)
theorem y1u (k : Nat) : OrcOk Try.prog 125 (y1t k) := pureOrc_ok (y1s k)
noncomputable def y1v (k : Nat) : Env := { P := Try.prog, tt := tt, orc := fun g => noOrc }
theorem y1w (k : Nat) : EnvOk (y1v k) := fun g => (noOrc_ok _ _)
noncomputable def y1x : Code := (Try.f190.body).getD .skip
def y1y (ρ : Type) (k : Nat) : Nat → Ev ρ → Ev ρ := fun _ _ _ _ => none
def y1z (a : List Int × Int × Int) : List SV := [.ptr 0 0 0]
def y21 (a : List Int × Int × Int) : List Blk := [.box [.r [] (.sl (.int .u8) a.1), .r [] (.int .i64 a.2.1), .r [] (.int .i64 a.2.2)]]
def y22 (l : List SV) (b : List Blk) : Option (List Int × Int × Int) := match l, b with
  | [.ptr 0 0 0], [.box [.r [] (.sl (.int .u8) w0), .r [] (.int .i64 w1), .r [] (.int .i64 w2)]] => some (w0, w1, w2)
  | _, _ => none
def y23 (a : List Int × Int × Int) (r : Int × Int × Int) : MOut := ⟨.r [] (.int .i64 r.1), [some (.box [.r [] (.sl (.int .u8) a.1), .r [] (.int .i64 r.2.1), .r [] (.int .i64 r.2.2)])], []⟩
def y26 (a : List Int × Int × Int) (o : MOut) : Option (Int × Int × Int) := match o with
  | ⟨.r [] (.int .i64 z1), [some (.box [.r [] (.sl (.int .u8) z2), .r [] (.int .i64 z3), .r [] (.int .i64 z4)])], []⟩ => cond (@sameL (List Int) _ z2 a.1) (some (z1, z3, z4)) none
  | _ => none
def y2a (k : Nat) : MG := fun _ l b K => (y22 l b).bind fun a => (S_l01Byte_m k a.1 a.2.1 a.2.2).bind fun r => K (y23 a r)
theorem y2b (k : Nat) (a : List Int × Int × Int) : ev (y1v k) (y1y (Int × Int × Int) k) 0 y1x (st0M Try.f190 (y1z a) (y21 a)) (finM Try.prog Try.f190 (.sc) [.box [.ro (.int .u8), .sc, .sc]] (y26 a)) = S_l01Byte_m k a.1 a.2.1 a.2.2 := by kernel_rfl
theorem y2c (k : Nat) : MutOk Try.prog 190 (y2a k) :=
  mutOk_of_ev (y1w k) Try.func190 (by kernel_rfl) (by kernel_rfl) y1z y21 y22
    (fun l b a h => by unfold y22 at h; split at h <;> first | (cases h; exact ⟨rfl, rfl⟩) | cases h) (fun a => rfl) (lpgood_none (by kernel_rfl)) (fun a r => rfl)
    (fun a o r h => by unfold y26 at h; split at h <;> first | (obtain ⟨e0, hq⟩ := dec_chk1 h; clear h; subst e0; have h := hq; clear hq; cases h; rfl) | cases h) (y2b k)
def y2d (k : Nat) : Orc := mutOrc [.keep] (y2a k)
theorem y2e (k : Nat) : OrcOk Try.prog 190 (y2d k) := mutOrc_ok (y2c k)
noncomputable def y2f (k : Nat) : Env := { P := Try.prog, tt := tt, orc := fun g => cond (Nat.beq g 190) (y2d k) (noOrc), wr := fun g => mem g [190], wt := true }
theorem y2g (k : Nat) : EnvOk (y2f k) := fun g => (orc_cond (y2e k) (noOrc_ok _ _))
noncomputable def y2h : Code := (Try.f109.body).getD .skip
def y2i (ρ : Type) (k : Nat) : Nat → Ev ρ → Ev ρ := fun _ _ _ _ => none
def y2j (a : List Int × Int × Int × Int) : List SV := [.ptr 0 0 0, .r [] (.int .i64 a.2.2.2)]
def y2k (a : List Int × Int × Int × Int) : List Blk := [.box [.r [] (.sl (.int .u8) a.1), .r [] (.int .i64 a.2.1), .r [] (.int .i64 a.2.2.1)]]
def y2l (l : List SV) (b : List Blk) : Option (List Int × Int × Int × Int) := match l, b with
  | [.ptr 0 0 0, .r [] (.int .i64 w0)], [.box [.r [] (.sl (.int .u8) w1), .r [] (.int .i64 w2), .r [] (.int .i64 w3)]] => some (w1, w2, w3, w0)
  | _, _ => none
def y2m (a : List Int × Int × Int × Int) (r : Int × Int × Int) : MOut := ⟨.r [] (.int .i64 r.1), [some (.box [.r [] (.sl (.int .u8) a.1), .r [] (.int .i64 r.2.1), .r [] (.int .i64 r.2.2)])], []⟩
def y2n (a : List Int × Int × Int × Int) (o : MOut) : Option (Int × Int × Int) := match o with
  | ⟨.r [] (.int .i64 z1), [some (.box [.r [] (.sl (.int .u8) z2), .r [] (.int .i64 z3), .r [] (.int .i64 z4)])], []⟩ => cond (@sameL (List Int) _ z2 a.1) (some (z1, z3, z4)) none
  | _ => none
def y2o (k : Nat) : MG := fun _ l b K => (y2l l b).bind fun a => (S_l01Below_m k a.1 a.2.1 a.2.2.1 a.2.2.2).bind fun r => K (y2m a r)
theorem y2p (k : Nat) (a : List Int × Int × Int × Int) : ev (y2f k) (y2i (Int × Int × Int) k) 0 y2h (st0M Try.f109 (y2j a) (y2k a)) (finM Try.prog Try.f109 (.sc) [.box [.ro (.int .u8), .sc, .sc]] (y2n a)) = S_l01Below_m k a.1 a.2.1 a.2.2.1 a.2.2.2 := by kernel_rfl
theorem y2q (k : Nat) : MutOk Try.prog 109 (y2o k) :=
  mutOk_of_ev (y2g k) Try.func109 (by kernel_rfl) (by kernel_rfl) y2j y2k y2l
    (fun l b a h => by unfold y2l at h; split at h <;> first | (cases h; exact ⟨rfl, rfl⟩) | cases h) (fun a => rfl) (lpgood_none (by kernel_rfl)) (fun a r => rfl)
    (fun a o r h => by unfold y2n at h; split at h <;> first | (obtain ⟨e0, hq⟩ := dec_chk1 h; clear h; subst e0; have h := hq; clear hq; cases h; rfl) | cases h) (y2p k)
def y2r (k : Nat) : Orc := mutOrc [.keep, .one (.int .i64)] (y2o k)
theorem y2s (k : Nat) : OrcOk Try.prog 109 (y2r k) := mutOrc_ok (y2q k)
noncomputable def y2t (k : Nat) : Env := { P := Try.prog, tt := tt, orc := fun g => cond (Nat.beq g 109) (y2r k) (noOrc), wr := fun g => mem g [109], wt := true }
theorem y2u (k : Nat) : EnvOk (y2t k) := fun g => (orc_cond (y2s k) (noOrc_ok _ _))
noncomputable def y2v : Code := (Try.f111.body).getD .skip
def y2w (ρ : Type) (k : Nat) : Nat → Ev ρ → Ev ρ := fun _ _ _ _ => none
def y2x (a : List Int × Int × Int × List Int) : List SV := [.ptr 0 0 0, .r [] (.sl (.int .i64) a.2.2.2)]
def y2y (a : List Int × Int × Int × List Int) : List Blk := [.box [.r [] (.sl (.int .u8) a.1), .r [] (.int .i64 a.2.1), .r [] (.int .i64 a.2.2.1)]]
def y2z (l : List SV) (b : List Blk) : Option (List Int × Int × Int × List Int) := match l, b with
  | [.ptr 0 0 0, .r [] (.sl (.int .i64) w0)], [.box [.r [] (.sl (.int .u8) w1), .r [] (.int .i64 w2), .r [] (.int .i64 w3)]] => some (w1, w2, w3, w0)
  | _, _ => none
def y32 (a : List Int × Int × Int × List Int) (r : Int × Int × Int) : MOut := ⟨.r [] (.int .i64 r.1), [some (.box [.r [] (.sl (.int .u8) a.1), .r [] (.int .i64 r.2.1), .r [] (.int .i64 r.2.2)])], []⟩
def y33 (a : List Int × Int × Int × List Int) (o : MOut) : Option (Int × Int × Int) := match o with
  | ⟨.r [] (.int .i64 z1), [some (.box [.r [] (.sl (.int .u8) z2), .r [] (.int .i64 z3), .r [] (.int .i64 z4)])], []⟩ => cond (@sameL (List Int) _ z2 a.1) (some (z1, z3, z4)) none
  | _ => none
def y34 (k : Nat) : MG := fun _ l b K => (y2z l b).bind fun a => (S_l01PickInt_m k a.1 a.2.1 a.2.2.1 a.2.2.2).bind fun r => K (y32 a r)
theorem y35 (k : Nat) (a : List Int × Int × Int × List Int) : ev (y2t k) (y2w (Int × Int × Int) k) 0 y2v (st0M Try.f111 (y2x a) (y2y a)) (finM Try.prog Try.f111 (.sc) [.box [.ro (.int .u8), .sc, .sc]] (y33 a)) = S_l01PickInt_m k a.1 a.2.1 a.2.2.1 a.2.2.2 := by kernel_rfl
theorem y37 (k : Nat) : MutOk Try.prog 111 (y34 k) :=
  mutOk_of_ev (y2u k) Try.func111 (by kernel_rfl) (by kernel_rfl) y2x y2y y2z
    (fun l b a h => by unfold y2z at h; split at h <;> first | (cases h; exact ⟨rfl, rfl⟩) | cases h) (fun a => rfl) (lpgood_none (by kernel_rfl)) (fun a r => rfl)
    (fun a o r h => by unfold y33 at h; split at h <;> first | (obtain ⟨e0, hq⟩ := dec_chk1 h; clear h; subst e0; have h := hq; clear hq; cases h; rfl) | cases h) (y35 k)
def y38 (k : Nat) : Orc := mutOrc [.keep, .one (.sl (.int .i64))] (y34 k)
theorem y39 (k : Nat) : OrcOk Try.prog 111 (y38 k) := mutOrc_ok (y37 k)
noncomputable def y3a (k : Nat) : Env := { P := Try.prog, tt := tt, orc := fun g => cond (Nat.beq g 109) (y2r k) (noOrc), wr := fun g => mem g [109], wt := true }
theorem y3b (k : Nat) : EnvOk (y3a k) := fun g => (orc_cond (y2s k) (noOrc_ok _ _))
noncomputable def y3c : Code := (Try.f110.body).getD .skip
def y3d (ρ : Type) (k : Nat) : Nat → Ev ρ → Ev ρ := fun _ _ _ _ => none
def y3e (a : List Int × Int × Int × Int) : List SV := [.ptr 0 0 0, .r [] (.int .i64 a.2.2.2)]
def y3f (a : List Int × Int × Int × Int) : List Blk := [.box [.r [] (.sl (.int .u8) a.1), .r [] (.int .i64 a.2.1), .r [] (.int .i64 a.2.2.1)]]
def y3g (l : List SV) (b : List Blk) : Option (List Int × Int × Int × Int) := match l, b with
  | [.ptr 0 0 0, .r [] (.int .i64 w0)], [.box [.r [] (.sl (.int .u8) w1), .r [] (.int .i64 w2), .r [] (.int .i64 w3)]] => some (w1, w2, w3, w0)
  | _, _ => none
def y3h (a : List Int × Int × Int × Int) (r : Bool × Int × Int) : MOut := ⟨.r [] (.bool r.1), [some (.box [.r [] (.sl (.int .u8) a.1), .r [] (.int .i64 r.2.1), .r [] (.int .i64 r.2.2)])], []⟩
def y3i (a : List Int × Int × Int × Int) (o : MOut) : Option (Bool × Int × Int) := match o with
  | ⟨.r [] (.bool z1), [some (.box [.r [] (.sl (.int .u8) z2), .r [] (.int .i64 z3), .r [] (.int .i64 z4)])], []⟩ => cond (@sameL (List Int) _ z2 a.1) (some (z1, z3, z4)) none
  | _ => none
def y3j (k : Nat) : MG := fun _ l b K => (y3g l b).bind fun a => (S_l01Once_m k a.1 a.2.1 a.2.2.1 a.2.2.2).bind fun r => K (y3h a r)
theorem y3k (k : Nat) (a : List Int × Int × Int × Int) : ev (y3a k) (y3d (Bool × Int × Int) k) 0 y3c (st0M Try.f110 (y3e a) (y3f a)) (finM Try.prog Try.f110 (.sc) [.box [.ro (.int .u8), .sc, .sc]] (y3i a)) = S_l01Once_m k a.1 a.2.1 a.2.2.1 a.2.2.2 := by kernel_rfl
theorem y3l (k : Nat) : MutOk Try.prog 110 (y3j k) :=
  mutOk_of_ev (y3b k) Try.func110 (by kernel_rfl) (by kernel_rfl) y3e y3f y3g
    (fun l b a h => by unfold y3g at h; split at h <;> first | (cases h; exact ⟨rfl, rfl⟩) | cases h) (fun a => rfl) (lpgood_none (by kernel_rfl)) (fun a r => rfl)
    (fun a o r h => by unfold y3i at h; split at h <;> first | (obtain ⟨e0, hq⟩ := dec_chk1 h; clear h; subst e0; have h := hq; clear hq; cases h; rfl) | cases h) (y3k k)
def y3m (k : Nat) : Orc := mutOrc [.keep, .one (.int .i64)] (y3j k)
theorem y3n (k : Nat) : OrcOk Try.prog 110 (y3m k) := mutOrc_ok (y3l k)
noncomputable def y3o (k : Nat) : Env := { P := Try.prog, tt := tt, orc := fun g => cond (Nat.beq g 109) (y2r k) (cond (Nat.beq g 110) (y3m k) (cond (Nat.beq g 111) (y38 k) (noOrc))), wr := fun g => mem g [109, 110, 111], wt := true, fz := fun r => cond (Nat.beq r 3) [(true, 5, [])] (cond (Nat.beq r 29) [(false, 8, [])] ([])) }
theorem y3p (k : Nat) : EnvOk (y3o k) := fun g => (orc_cond (y2s k) (orc_cond (y3n k) (orc_cond (y39 k) (noOrc_ok _ _))))
noncomputable def y3q : Code := (Try.f126.body).getD .skip
noncomputable def y3r : Code := ((loopsIn 0 y3q).getD 0 (0, .skip)).2
noncomputable def y3s : Code := ((loopsIn 0 y3r).getD 0 (0, .skip)).2
def y3t : List Nat := [0, 1, 5, 6, 7, 8, 9]
def y3u : List (Where × Co) := []
def y3v : Ex → List Nat
  | .exit j => cond (Nat.beq j 3) [0, 1, 5, 6, 7, 8] []
  | .ret => []
  | .normal => []
def y3w : Ex → List (Where × Co)
  | .exit j => cond (Nat.beq j 3) [] []
  | .ret => []
  | .normal => []
def y3x (pv : (Int × Int × Int × List Int × List (List Int)) × (Int × Int × Int × List Int)) : St := { slots := [(0, .ptr 0 0 0), (1, .r [] (.int .i64 pv.1.1)), (5, .own 1), (6, .r [] (.int .i64 pv.1.2.1)), (7, .r [] (.int .i64 pv.1.2.2.1)), (8, .own 2), (9, .r [] (.int .i64 pv.2.1))], heap := [(0, .box [.r [] (.sl (.int .u8) pv.1.2.2.2.1), .r [] (.int .i64 pv.2.2.1), .r [] (.int .i64 pv.2.2.2.1)]), (1, .arr (some []) (.sl (.int .i64)) pv.1.2.2.2.2), (2, .arr none (.int .i64) pv.2.2.2.2)], nid := 3, n := 95, gh := [some 0] }
def y3y (nf : NF) : Option ((Int × Int × Int × List Int × List (List Int)) × (Int × Int × Int × List Int)) := match nf with
  | ([.ptr 0 0 0, .r [] (.int .i64 w0), .own 1, .r [] (.int .i64 w1), .r [] (.int .i64 w2), .own 2, .r [] (.int .i64 w3)], [.box [.r [] (.sl (.int .u8) w4), .r [] (.int .i64 w5), .r [] (.int .i64 w6)], .arr (some []) (.sl (.int .i64)) w7, .arr none (.int .i64) w8], [some 0]) => some ((w0, w1, w2, w4, w7), (w3, w5, w6, w8))
  | _ => none
theorem y3z (nf : NF) (v : (Int × Int × Int × List Int × List (List Int)) × (Int × Int × Int × List Int)) (h : y3y nf = some v) : denorm y3t 95 nf = y3x v := by
  unfold y3y at h
  split at h
  · cases h; rfl
  · cases h
def y41 (p : Int × Int × Int × List Int × List (List Int)) (x : Int × Int × List Int) : St := { slots := [(0, .ptr 0 0 0), (1, .r [] (.int .i64 p.1)), (5, .own 1), (6, .r [] (.int .i64 p.2.1)), (7, .r [] (.int .i64 p.2.2.1)), (8, .own 2)], heap := [(0, .box [.r [] (.sl (.int .u8) p.2.2.2.1), .r [] (.int .i64 x.1), .r [] (.int .i64 x.2.1)]), (1, .arr (some []) (.sl (.int .i64)) p.2.2.2.2), (2, .arr none (.int .i64) x.2.2)], nid := 3, n := 95, gh := [some 0] }
def y42 : List Nat := [0, 1, 5, 6, 7]
def y43 : List (Where × Co) := []
def y44 : Ex → List Nat
  | .exit j => cond (Nat.beq j 0) [5] []
  | .ret => []
  | .normal => []
def y46 : Ex → List (Where × Co)
  | .exit j => cond (Nat.beq j 0) [] []
  | .ret => []
  | .normal => []
def y47 (pv : (Int × List Int) × (Int × Int × Int × Int × List (List Int))) : St := { slots := [(0, .ptr 0 0 0), (1, .r [] (.int .i64 pv.1.1)), (5, .own 1), (6, .r [] (.int .i64 pv.2.1)), (7, .r [] (.int .i64 pv.2.2.1))], heap := [(0, .box [.r [] (.sl (.int .u8) pv.1.2), .r [] (.int .i64 pv.2.2.2.1), .r [] (.int .i64 pv.2.2.2.2.1)]), (1, .arr (some []) (.sl (.int .i64)) pv.2.2.2.2.2)], nid := 2, n := 95, gh := [some 0] }
def y48 (nf : NF) : Option ((Int × List Int) × (Int × Int × Int × Int × List (List Int))) := match nf with
  | ([.ptr 0 0 0, .r [] (.int .i64 w0), .own 1, .r [] (.int .i64 w1), .r [] (.int .i64 w2)], [.box [.r [] (.sl (.int .u8) w3), .r [] (.int .i64 w4), .r [] (.int .i64 w5)], .arr (some []) (.sl (.int .i64)) w6], [some 0]) => some ((w0, w3), (w1, w2, w4, w5, w6))
  | _ => none
theorem y4a (nf : NF) (v : (Int × List Int) × (Int × Int × Int × Int × List (List Int))) (h : y48 nf = some v) : denorm y42 95 nf = y47 v := by
  unfold y48 at h
  split at h
  · cases h; rfl
  · cases h
def y4b (p : Int × List Int) (x : List (List Int) × Int × Int) : St := { slots := [(5, .own 0)], heap := [(0, .arr (some []) (.sl (.int .i64)) x.1), (1, .box [.r [] (.sl (.int .u8) p.2), .r [] (.int .i64 x.2.1), .r [] (.int .i64 x.2.2)])], nid := 2, n := 95, gh := [some 1] }
def y4c (ρ : Type) (k : Nat) : Nat → Ev ρ → Ev ρ := fun id f => cond (Nat.beq id 0) (loopOrc y42 y43 (fun n nf => cond (Nat.beq n 95) (y48 nf) none) fun pv K => iter (fun v next => S_l07DrawOps_m_g0 k pv.1 v next (fun x => K (.exit 0) (y4b pv.1 x))) k pv.2) ((fun id f => cond (Nat.beq id 3) (loopOrc y3t y3u (fun n nf => cond (Nat.beq n 95) (y3y nf) none) fun pv K => iter (fun v next => S_l07DrawOps_m_g1 k pv.1 v next (fun x => K (.exit 3) (y41 pv.1 x))) k pv.2) ((fun _ _ _ _ => none) id f)) id f)
theorem y4d {ρ : Type} (k : Nat) (p : Int × Int × Int × List Int × List (List Int)) (v : Int × Int × Int × List Int) (K K1 : Ex → St → Option ρ) : ev (y3o k) (y4c ρ k) 3 y3s (y3x (p, v)) (fun e st' => match e with
    | .normal => (normC y3t y3u st').bind fun nf => K1 .normal (denorm y3t st'.n nf)
    | e => (normC (y3v e) (y3w e) st').bind fun nf => K e (denorm (y3v e) st'.n nf)) = S_l07DrawOps_m_g1 k p v (fun v' => K1 .normal (y3x (p, v'))) (fun x => K (.exit 3) (y41 p x)) := by kernel_rfl
theorem y4e {ρ : Type} (k : Nat) : Sound Try.prog (.loop y3s) (y4c ρ k 3 fun st K => ev (y3o k) (y4c ρ k) 3 y3s st K) :=
  loop_ok (ev_sound (y3p k) y3s 3 (lpgood_none (by kernel_rfl))) y3v y3w k (g := fun p v next K => S_l07DrawOps_m_g1 k p v next (fun x => K (.exit 3) (y41 p x))) (dec_at y3z) (fun p v K K1 => y4d k p v K K1)
theorem y4f {ρ : Type} (k : Nat) (p : Int × List Int) (v : Int × Int × Int × Int × List (List Int)) (K K1 : Ex → St → Option ρ) : ev (y3o k) (y4c ρ k) 0 y3r (y47 (p, v)) (fun e st' => match e with
    | .normal => (normC y42 y43 st').bind fun nf => K1 .normal (denorm y42 st'.n nf)
    | e => (normC (y44 e) (y46 e) st').bind fun nf => K e (denorm (y44 e) st'.n nf)) = S_l07DrawOps_m_g0 k p v (fun v' => K1 .normal (y47 (p, v'))) (fun x => K (.exit 0) (y4b p x)) := by kernel_rfl
theorem y4g {ρ : Type} (k : Nat) : Sound Try.prog (.loop y3r) (y4c ρ k 0 fun st K => ev (y3o k) (y4c ρ k) 0 y3r st K) :=
  loop_ok (ev_sound (y3p k) y3r 0 (lpgood_of (l := [(3, y3s)]) (by kernel_rfl) ⟨y4e k, trivial⟩)) y44 y46 k (g := fun p v next K => S_l07DrawOps_m_g0 k p v next (fun x => K (.exit 0) (y4b p x))) (dec_at y4a) (fun p v K K1 => y4f k p v K K1)
def y4h (a : List Int × Int × Int × Int) : List SV := [.ptr 0 0 0, .r [] (.int .i64 a.2.2.2)]
def y4i (a : List Int × Int × Int × Int) : List Blk := [.box [.r [] (.sl (.int .u8) a.1), .r [] (.int .i64 a.2.1), .r [] (.int .i64 a.2.2.1)]]
def y4j (l : List SV) (b : List Blk) : Option (List Int × Int × Int × Int) := match l, b with
  | [.ptr 0 0 0, .r [] (.int .i64 w0)], [.box [.r [] (.sl (.int .u8) w1), .r [] (.int .i64 w2), .r [] (.int .i64 w3)]] => some (w1, w2, w3, w0)
  | _, _ => none
def y4k (a : List Int × Int × Int × Int) (r : List (List Int) × Int × Int) : MOut := ⟨.own 1, [some (.box [.r [] (.sl (.int .u8) a.1), .r [] (.int .i64 r.2.1), .r [] (.int .i64 r.2.2)])], [.arr (some []) (.sl (.int .i64)) r.1]⟩
def y4l (a : List Int × Int × Int × Int) (o : MOut) : Option (List (List Int) × Int × Int) := match o with
  | ⟨.own 1, [some (.box [.r [] (.sl (.int .u8) z1), .r [] (.int .i64 z2), .r [] (.int .i64 z3)])], [.arr (some []) (.sl (.int .i64)) z4]⟩ => cond (@sameL (List Int) _ z1 a.1) (some (z4, z2, z3)) none
  | _ => none
def y4m (k : Nat) : MG := fun _ l b K => (y4j l b).bind fun a => (S_l07DrawOps_m k a.1 a.2.1 a.2.2.1 a.2.2.2).bind fun r => K (y4k a r)
theorem y4n (k : Nat) (a : List Int × Int × Int × Int) : ev (y3o k) (y4c (List (List Int) × Int × Int) k) 0 y3q (st0M Try.f126 (y4h a) (y4i a)) (finM Try.prog Try.f126 (.shl (.sl (.int .i64))) [.box [.ro (.int .u8), .sc, .sc]] (y4l a)) = S_l07DrawOps_m k a.1 a.2.1 a.2.2.1 a.2.2.2 := by kernel_rfl
theorem y4o (k : Nat) : MutOk Try.prog 126 (y4m k) :=
  mutOk_of_ev (y3p k) Try.func126 (by kernel_rfl) (by kernel_rfl) y4h y4i y4j
    (fun l b a h => by unfold y4j at h; split at h <;> first | (cases h; exact ⟨rfl, rfl⟩) | cases h) (fun a => rfl) (lpgood_of (l := [(0, y3r)]) (by kernel_rfl) ⟨y4g k, trivial⟩) (fun a r => rfl)
    (fun a o r h => by unfold y4l at h; split at h <;> first | (obtain ⟨e0, hq⟩ := dec_chk1 h; clear h; subst e0; have h := hq; clear hq; cases h; rfl) | cases h) (y4n k)
def y4p (k : Nat) : Orc := mutOrc [.keep, .one (.int .i64)] (y4m k)
theorem y4q (k : Nat) : OrcOk Try.prog 126 (y4p k) := mutOrc_ok (y4o k)
noncomputable def y4r (k : Nat) : Env := { P := Try.prog, tt := tt, orc := fun g => noOrc }
theorem y4s (k : Nat) : EnvOk (y4r k) := fun g => (noOrc_ok _ _)
noncomputable def y4t : Code := (Try.f136.body).getD .skip
def y4u (ρ : Type) (k : Nat) : Nat → Ev ρ → Ev ρ := fun _ _ _ _ => none
def y4v (a : Int × Int × Int) : List Arg := [.one (.int .i64 a.1), .one (.int .i64 a.2.1), .one (.int .i64 a.2.2)]
def y4w (l : List Arg) : Option (Int × Int × Int) := match l with
  | [.one (.int .i64 b0), .one (.int .i64 b1), .one (.int .i64 b2)] => some (b0, b1, b2)
  | _ => none
def y4x (r : Bool) : Out := (.r [] (.bool r), [])
def y4y (o : Out) : Option (Bool) := match o with
  | (.r [] (.bool z1), []) => some z1
  | _ => none
def y4z (k : Nat) : PG := fun _ l K => (y4w l).bind fun a => (S_l01In k a.1 a.2.1 a.2.2).bind fun r => K (y4x r)
theorem y50 (k : Nat) (a : Int × Int × Int) : ev (y4r k) (y4u (Bool) k) 0 y4t (st0 Try.f136 (y4v a)) (fin Try.prog Try.f136 (.sc) y4y) = S_l01In k a.1 a.2.1 a.2.2 := by kernel_rfl
theorem y51 (k : Nat) : PureOk Try.prog 136 (y4z k) :=
  pureOk_of_ev (y4s k) Try.func136 (by kernel_rfl) (by kernel_rfl) y4v y4w
    (fun l a h => by unfold y4w at h; split at h <;> first | (cases h; rfl) | cases h) (fun a => rfl) (lpgood_none (by kernel_rfl))
    (fun o r h => by unfold y4y at h; split at h <;> first | (cases h; rfl) | cases h) (y50 k)
def y52 (k : Nat) : Orc := pureOrc [.one (.int .i64), .one (.int .i64), .one (.int .i64)] (y4z k)
theorem y54 (k : Nat) : OrcOk Try.prog 136 (y52 k) := pureOrc_ok (y51 k)
noncomputable def y55 (k : Nat) : Env := { P := Try.prog, tt := tt, orc := fun g => cond (Nat.beq g 136) (y52 k) (noOrc) }
theorem y56 (k : Nat) : EnvOk (y55 k) := fun g => (orc_cond (y54 k) (noOrc_ok _ _))
noncomputable def y57 : Code := (Try.f135.body).getD .skip
def y58 (ρ : Type) (k : Nat) : Nat → Ev ρ → Ev ρ := fun _ _ _ _ => none
def y59 (a : Int) : List Arg := [.one (.int .i64 a)]
def y5a (l : List Arg) : Option (Int) := match l with
  | [.one (.int .i64 b0)] => some b0
  | _ => none
def y5b (r : Bool) : Out := (.r [] (.bool r), [])
def y5c (o : Out) : Option (Bool) := match o with
  | (.r [] (.bool z1), []) => some z1
  | _ => none
def y5d (k : Nat) : PG := fun _ l K => (y5a l).bind fun a => (S_l07Tick k a).bind fun r => K (y5b r)
theorem y5e (k : Nat) (a : Int) : ev (y55 k) (y58 (Bool) k) 0 y57 (st0 Try.f135 (y59 a)) (fin Try.prog Try.f135 (.sc) y5c) = S_l07Tick k a := by kernel_rfl
theorem y5f (k : Nat) : PureOk Try.prog 135 (y5d k) :=
  pureOk_of_ev (y56 k) Try.func135 (by kernel_rfl) (by kernel_rfl) y59 y5a
    (fun l a h => by unfold y5a at h; split at h <;> first | (cases h; rfl) | cases h) (fun a => rfl) (lpgood_none (by kernel_rfl))
    (fun o r h => by unfold y5c at h; split at h <;> first | (cases h; rfl) | cases h) (y5e k)
def y5g (k : Nat) : Orc := pureOrc [.one (.int .i64)] (y5d k)
theorem y5h (k : Nat) : OrcOk Try.prog 135 (y5g k) := pureOrc_ok (y5f k)
noncomputable def y5i (k : Nat) : Env := { P := Try.prog, tt := tt, orc := fun g => cond (Nat.beq g 135) (y5g k) (cond (Nat.beq g 136) (y52 k) (noOrc)) }
theorem y5j (k : Nat) : EnvOk (y5i k) := fun g => (orc_cond (y5h k) (orc_cond (y54 k) (noOrc_ok _ _)))
noncomputable def y5k : Code := (Try.f114.body).getD .skip
noncomputable def y5l : Code := ((loopsIn 0 y5k).getD 0 (0, .skip)).2
def y5m : List Nat := [1, 3]
def y5n : List (Where × Co) := []
def y5o : Ex → List Nat
  | .exit j => cond (Nat.beq j 0) [] []
  | .ret => [2]
  | .normal => []
def y5p : Ex → List (Where × Co)
  | .exit j => cond (Nat.beq j 0) [] []
  | .ret => []
  | .normal => []
def y5q (pv : (Int × List Int × Int × Int × Int) × (Int)) : St := { slots := [(1, .ptr 0 0 0), (3, .r [] (.int .i64 pv.2))], heap := [(0, .box [.r [] (.int .i64 pv.1.1), .r [] (.sl (.int .i64) pv.1.2.1), .r [] (.int .i64 pv.1.2.2.1), .r [] (.int .i64 pv.1.2.2.2.1), .r [] (.int .i64 pv.1.2.2.2.2)])], nid := 1, n := 51, gh := [] }
def y5r (nf : NF) : Option ((Int × List Int × Int × Int × Int) × (Int)) := match nf with
  | ([.ptr 0 0 0, .r [] (.int .i64 w0)], [.box [.r [] (.int .i64 w1), .r [] (.sl (.int .i64) w2), .r [] (.int .i64 w3), .r [] (.int .i64 w4), .r [] (.int .i64 w5)]], []) => some ((w1, w2, w3, w4, w5), w0)
  | _ => none
theorem y5s (nf : NF) (v : (Int × List Int × Int × Int × Int) × (Int)) (h : y5r nf = some v) : denorm y5m 51 nf = y5q v := by
  unfold y5r at h
  split at h
  · cases h; rfl
  · cases h
def y5t (p : Int × List Int × Int × Int × Int) (x : Unit) : St := { slots := [], heap := [], nid := 0, n := 51, gh := [] }
def y5u (p : Int × List Int × Int × Int × Int) (x : Bool) : St := { slots := [(2, .r [] (.bool x))], heap := [], nid := 0, n := 51, gh := [] }
def y5v (ρ : Type) (k : Nat) : Nat → Ev ρ → Ev ρ := fun id f => cond (Nat.beq id 0) (loopOrc y5m y5n (fun n nf => cond (Nat.beq n 51) (y5r nf) none) fun pv K => iter (fun v next => S_TaskOk_g0 k pv.1 v next (fun x => K (.exit 0) (y5t pv.1 x)) (fun x => K .ret (y5u pv.1 x))) k pv.2) ((fun _ _ _ _ => none) id f)
theorem y5w {ρ : Type} (k : Nat) (p : Int × List Int × Int × Int × Int) (v : Int) (K K1 : Ex → St → Option ρ) : ev (y5i k) (y5v ρ k) 0 y5l (y5q (p, v)) (fun e st' => match e with
    | .normal => (normC y5m y5n st').bind fun nf => K1 .normal (denorm y5m st'.n nf)
    | e => (normC (y5o e) (y5p e) st').bind fun nf => K e (denorm (y5o e) st'.n nf)) = S_TaskOk_g0 k p v (fun v' => K1 .normal (y5q (p, v'))) (fun x => K (.exit 0) (y5t p x)) (fun x => K .ret (y5u p x)) := by kernel_rfl
theorem y5x {ρ : Type} (k : Nat) : Sound Try.prog (.loop y5l) (y5v ρ k 0 fun st K => ev (y5i k) (y5v ρ k) 0 y5l st K) :=
  loop_ok (ev_sound (y5j k) y5l 0 (lpgood_none (by kernel_rfl))) y5o y5p k (g := fun p v next K => S_TaskOk_g0 k p v next (fun x => K (.exit 0) (y5t p x)) (fun x => K .ret (y5u p x))) (dec_at y5s) (fun p v K K1 => y5w k p v K K1)
def y5y (a : Task) : List Arg := [.agg [.int .i64 a.id, .sl (.int .i64) a.costs, .int .i64 a.at_, .int .i64 a.due, .int .i64 a.born]]
def y5z (l : List Arg) : Option (Task) := match l with
  | [.agg [.int .i64 b0_0, .sl (.int .i64) b0_1, .int .i64 b0_2, .int .i64 b0_3, .int .i64 b0_4]] => some (⟨b0_0, b0_1, b0_2, b0_3, b0_4⟩ : Task)
  | _ => none
def y60 (r : Bool) : Out := (.r [] (.bool r), [])
def y62 (o : Out) : Option (Bool) := match o with
  | (.r [] (.bool z1), []) => some z1
  | _ => none
def y63 (k : Nat) : PG := fun _ l K => (y5z l).bind fun a => (S_TaskOk k a).bind fun r => K (y60 r)
theorem y64 (k : Nat) (a : Task) : ev (y5i k) (y5v (Bool) k) 0 y5k (st0 Try.f114 (y5y a)) (fin Try.prog Try.f114 (.sc) y62) = S_TaskOk k a := by kernel_rfl
theorem y65 (k : Nat) : PureOk Try.prog 114 (y63 k) :=
  pureOk_of_ev (y5j k) Try.func114 (by kernel_rfl) (by kernel_rfl) y5y y5z
    (fun l a h => by unfold y5z at h; split at h <;> first | (cases h; rfl) | cases h) (fun a => rfl) (lpgood_of (l := [(0, y5l)]) (by kernel_rfl) ⟨y5x k, trivial⟩)
    (fun o r h => by unfold y62 at h; split at h <;> first | (cases h; rfl) | cases h) (y64 k)
def y67 (k : Nat) : Orc := pureOrc [.agg [(.int .i64), (.sl (.int .i64)), (.int .i64), (.int .i64), (.int .i64)]] (y63 k)
theorem y68 (k : Nat) : OrcOk Try.prog 114 (y67 k) := pureOrc_ok (y65 k)
noncomputable def y69 (k : Nat) : Env := { P := Try.prog, tt := tt, orc := fun g => noOrc }
theorem y6a (k : Nat) : EnvOk (y69 k) := fun g => (noOrc_ok _ _)
noncomputable def y6b : Code := (Try.f137.body).getD .skip
noncomputable def y6c : Code := ((loopsIn 0 y6b).getD 0 (0, .skip)).2
def y6d : List Nat := [1, 2, 5]
def y6e : List (Where × Co) := []
def y6f : Ex → List Nat
  | .exit j => cond (Nat.beq j 0) [] []
  | .ret => [4]
  | .normal => []
def y6g : Ex → List (Where × Co)
  | .exit j => cond (Nat.beq j 0) [] []
  | .ret => []
  | .normal => []
def y6h (pv : (Int × Int × Int × Int × List Task × Int × Int × Int × Int) × (Int)) : St := { slots := [(1, .r [] (.int .i64 pv.1.1)), (2, .ptr 0 0 0), (5, .r [] (.int .i64 pv.2))], heap := [(0, .box [.r [] (.int .i64 pv.1.2.1), .r [] (.int .i64 pv.1.2.2.1), .r [] (.int .i64 pv.1.2.2.2.1), .r [] (.sl (.st .task) pv.1.2.2.2.2.1), .r [] (.int .i64 pv.1.2.2.2.2.2.1), .r [] (.int .i64 pv.1.2.2.2.2.2.2.1), .r [] (.int .i64 pv.1.2.2.2.2.2.2.2.1), .r [] (.int .i64 pv.1.2.2.2.2.2.2.2.2)])], nid := 1, n := 22, gh := [] }
def y6i (nf : NF) : Option ((Int × Int × Int × Int × List Task × Int × Int × Int × Int) × (Int)) := match nf with
  | ([.r [] (.int .i64 w0), .ptr 0 0 0, .r [] (.int .i64 w1)], [.box [.r [] (.int .i64 w2), .r [] (.int .i64 w3), .r [] (.int .i64 w4), .r [] (.sl (.st .task) w5), .r [] (.int .i64 w6), .r [] (.int .i64 w7), .r [] (.int .i64 w8), .r [] (.int .i64 w9)]], []) => some ((w0, w2, w3, w4, w5, w6, w7, w8, w9), w1)
  | _ => none
theorem y6j (nf : NF) (v : (Int × Int × Int × Int × List Task × Int × Int × Int × Int) × (Int)) (h : y6i nf = some v) : denorm y6d 22 nf = y6h v := by
  unfold y6i at h
  split at h
  · cases h; rfl
  · cases h
def y6k (p : Int × Int × Int × Int × List Task × Int × Int × Int × Int) (x : Unit) : St := { slots := [], heap := [], nid := 0, n := 22, gh := [] }
def y6l (p : Int × Int × Int × Int × List Task × Int × Int × Int × Int) (x : Int) : St := { slots := [(4, .r [] (.int .i64 x))], heap := [], nid := 0, n := 22, gh := [] }
def y6m (ρ : Type) (k : Nat) : Nat → Ev ρ → Ev ρ := fun id f => cond (Nat.beq id 0) (loopOrc y6d y6e (fun n nf => cond (Nat.beq n 22) (y6i nf) none) fun pv K => iter (fun v next => S_l07At_g0 k pv.1 v next (fun x => K (.exit 0) (y6k pv.1 x)) (fun x => K .ret (y6l pv.1 x))) k pv.2) ((fun _ _ _ _ => none) id f)
theorem y6n {ρ : Type} (k : Nat) (p : Int × Int × Int × Int × List Task × Int × Int × Int × Int) (v : Int) (K K1 : Ex → St → Option ρ) : ev (y69 k) (y6m ρ k) 0 y6c (y6h (p, v)) (fun e st' => match e with
    | .normal => (normC y6d y6e st').bind fun nf => K1 .normal (denorm y6d st'.n nf)
    | e => (normC (y6f e) (y6g e) st').bind fun nf => K e (denorm (y6f e) st'.n nf)) = S_l07At_g0 k p v (fun v' => K1 .normal (y6h (p, v'))) (fun x => K (.exit 0) (y6k p x)) (fun x => K .ret (y6l p x)) := by kernel_rfl
theorem y6o {ρ : Type} (k : Nat) : Sound Try.prog (.loop y6c) (y6m ρ k 0 fun st K => ev (y69 k) (y6m ρ k) 0 y6c st K) :=
  loop_ok (ev_sound (y6a k) y6c 0 (lpgood_none (by kernel_rfl))) y6f y6g k (g := fun p v next K => S_l07At_g0 k p v next (fun x => K (.exit 0) (y6k p x)) (fun x => K .ret (y6l p x))) (dec_at y6j) (fun p v K K1 => y6n k p v K K1)
def y6p (a : Sched × Int) : List Arg := [.agg [.int .i64 a.1.now, .int .i64 a.1.slack, .int .i64 a.1.age, .sl (.st .task) a.1.tasks, .int .i64 a.1.run, .int .i64 a.1.left, .int .i64 a.1.turns, .int .i64 a.1.next], .one (.int .i64 a.2)]
def y6q (l : List Arg) : Option (Sched × Int) := match l with
  | [.agg [.int .i64 b0_0, .int .i64 b0_1, .int .i64 b0_2, .sl (.st .task) b0_3, .int .i64 b0_4, .int .i64 b0_5, .int .i64 b0_6, .int .i64 b0_7], .one (.int .i64 b1)] => some ((⟨b0_0, b0_1, b0_2, b0_3, b0_4, b0_5, b0_6, b0_7⟩ : Sched), b1)
  | _ => none
def y6r (r : Int) : Out := (.r [] (.int .i64 r), [])
def y6s (o : Out) : Option (Int) := match o with
  | (.r [] (.int .i64 z1), []) => some z1
  | _ => none
def y6t (k : Nat) : PG := fun _ l K => (y6q l).bind fun a => (S_l07At k a.1 a.2).bind fun r => K (y6r r)
theorem y6u (k : Nat) (a : Sched × Int) : ev (y69 k) (y6m (Int) k) 0 y6b (st0 Try.f137 (y6p a)) (fin Try.prog Try.f137 (.sc) y6s) = S_l07At k a.1 a.2 := by kernel_rfl
theorem y6v (k : Nat) : PureOk Try.prog 137 (y6t k) :=
  pureOk_of_ev (y6a k) Try.func137 (by kernel_rfl) (by kernel_rfl) y6p y6q
    (fun l a h => by unfold y6q at h; split at h <;> first | (cases h; rfl) | cases h) (fun a => rfl) (lpgood_of (l := [(0, y6c)]) (by kernel_rfl) ⟨y6o k, trivial⟩)
    (fun o r h => by unfold y6s at h; split at h <;> first | (cases h; rfl) | cases h) (y6u k)
def y6w (k : Nat) : Orc := pureOrc [.agg [(.int .i64), (.int .i64), (.int .i64), (.sl (.st .task)), (.int .i64), (.int .i64), (.int .i64), (.int .i64)], .one (.int .i64)] (y6t k)
theorem y6x (k : Nat) : OrcOk Try.prog 137 (y6w k) := pureOrc_ok (y6v k)
noncomputable def y6y (k : Nat) : Env := { P := Try.prog, tt := tt, orc := fun g => cond (Nat.beq g 114) (y67 k) (cond (Nat.beq g 135) (y5g k) (cond (Nat.beq g 136) (y52 k) (cond (Nat.beq g 137) (y6w k) (noOrc)))) }
theorem y6z (k : Nat) : EnvOk (y6y k) := fun g => (orc_cond (y68 k) (orc_cond (y5h k) (orc_cond (y54 k) (orc_cond (y6x k) (noOrc_ok _ _)))))
noncomputable def y70 : Code := (Try.f41.body).getD .skip
noncomputable def y72 : Code := ((loopsIn 0 y70).getD 0 (0, .skip)).2
def y73 : List Nat := [1, 3]
def y74 : List (Where × Co) := []
def y75 : Ex → List Nat
  | .exit j => cond (Nat.beq j 0) [1] []
  | .ret => [2]
  | .normal => []
def y77 : Ex → List (Where × Co)
  | .exit j => cond (Nat.beq j 0) [] []
  | .ret => []
  | .normal => []
def y78 (pv : (Int × Int × Int × List Task × Int × Int × Int × Int) × (Int)) : St := { slots := [(1, .ptr 0 0 0), (3, .r [] (.int .i64 pv.2))], heap := [(0, .box [.r [] (.int .i64 pv.1.1), .r [] (.int .i64 pv.1.2.1), .r [] (.int .i64 pv.1.2.2.1), .r [] (.sl (.st .task) pv.1.2.2.2.1), .r [] (.int .i64 pv.1.2.2.2.2.1), .r [] (.int .i64 pv.1.2.2.2.2.2.1), .r [] (.int .i64 pv.1.2.2.2.2.2.2.1), .r [] (.int .i64 pv.1.2.2.2.2.2.2.2)])], nid := 1, n := 116, gh := [] }
def y79 (nf : NF) : Option ((Int × Int × Int × List Task × Int × Int × Int × Int) × (Int)) := match nf with
  | ([.ptr 0 0 0, .r [] (.int .i64 w0)], [.box [.r [] (.int .i64 w1), .r [] (.int .i64 w2), .r [] (.int .i64 w3), .r [] (.sl (.st .task) w4), .r [] (.int .i64 w5), .r [] (.int .i64 w6), .r [] (.int .i64 w7), .r [] (.int .i64 w8)]], []) => some ((w1, w2, w3, w4, w5, w6, w7, w8), w0)
  | _ => none
theorem y7a (nf : NF) (v : (Int × Int × Int × List Task × Int × Int × Int × Int) × (Int)) (h : y79 nf = some v) : denorm y73 116 nf = y78 v := by
  unfold y79 at h
  split at h
  · cases h; rfl
  · cases h
def y7b (p : Int × Int × Int × List Task × Int × Int × Int × Int) (x : Unit) : St := { slots := [(1, .ptr 0 0 0)], heap := [(0, .box [.r [] (.int .i64 p.1), .r [] (.int .i64 p.2.1), .r [] (.int .i64 p.2.2.1), .r [] (.sl (.st .task) p.2.2.2.1), .r [] (.int .i64 p.2.2.2.2.1), .r [] (.int .i64 p.2.2.2.2.2.1), .r [] (.int .i64 p.2.2.2.2.2.2.1), .r [] (.int .i64 p.2.2.2.2.2.2.2)])], nid := 1, n := 116, gh := [] }
def y7c (p : Int × Int × Int × List Task × Int × Int × Int × Int) (x : Bool) : St := { slots := [(2, .r [] (.bool x))], heap := [], nid := 0, n := 116, gh := [] }
def y7d (ρ : Type) (k : Nat) : Nat → Ev ρ → Ev ρ := fun id f => cond (Nat.beq id 0) (loopOrc y73 y74 (fun n nf => cond (Nat.beq n 116) (y79 nf) none) fun pv K => iter (fun v next => S_SchedOk_g0 k pv.1 v next (fun x => K (.exit 0) (y7b pv.1 x)) (fun x => K .ret (y7c pv.1 x))) k pv.2) ((fun _ _ _ _ => none) id f)
theorem y7e {ρ : Type} (k : Nat) (p : Int × Int × Int × List Task × Int × Int × Int × Int) (v : Int) (K K1 : Ex → St → Option ρ) : ev (y6y k) (y7d ρ k) 0 y72 (y78 (p, v)) (fun e st' => match e with
    | .normal => (normC y73 y74 st').bind fun nf => K1 .normal (denorm y73 st'.n nf)
    | e => (normC (y75 e) (y77 e) st').bind fun nf => K e (denorm (y75 e) st'.n nf)) = S_SchedOk_g0 k p v (fun v' => K1 .normal (y78 (p, v'))) (fun x => K (.exit 0) (y7b p x)) (fun x => K .ret (y7c p x)) := by kernel_rfl
theorem y7f {ρ : Type} (k : Nat) : Sound Try.prog (.loop y72) (y7d ρ k 0 fun st K => ev (y6y k) (y7d ρ k) 0 y72 st K) :=
  loop_ok (ev_sound (y6z k) y72 0 (lpgood_none (by kernel_rfl))) y75 y77 k (g := fun p v next K => S_SchedOk_g0 k p v next (fun x => K (.exit 0) (y7b p x)) (fun x => K .ret (y7c p x))) (dec_at y7a) (fun p v K K1 => y7e k p v K K1)
def y7g (a : Sched) : List Arg := [.agg [.int .i64 a.now, .int .i64 a.slack, .int .i64 a.age, .sl (.st .task) a.tasks, .int .i64 a.run, .int .i64 a.left, .int .i64 a.turns, .int .i64 a.next]]
def y7h (l : List Arg) : Option (Sched) := match l with
  | [.agg [.int .i64 b0_0, .int .i64 b0_1, .int .i64 b0_2, .sl (.st .task) b0_3, .int .i64 b0_4, .int .i64 b0_5, .int .i64 b0_6, .int .i64 b0_7]] => some (⟨b0_0, b0_1, b0_2, b0_3, b0_4, b0_5, b0_6, b0_7⟩ : Sched)
  | _ => none
def y7i (r : Bool) : Out := (.r [] (.bool r), [])
def y7j (o : Out) : Option (Bool) := match o with
  | (.r [] (.bool z1), []) => some z1
  | _ => none
def y7k (k : Nat) : PG := fun _ l K => (y7h l).bind fun a => (S_SchedOk k a).bind fun r => K (y7i r)
theorem y7l (k : Nat) (a : Sched) : ev (y6y k) (y7d (Bool) k) 0 y70 (st0 Try.f41 (y7g a)) (fin Try.prog Try.f41 (.sc) y7j) = S_SchedOk k a := by kernel_rfl
theorem y7m (k : Nat) : PureOk Try.prog 41 (y7k k) :=
  pureOk_of_ev (y6z k) Try.func41 (by kernel_rfl) (by kernel_rfl) y7g y7h
    (fun l a h => by unfold y7h at h; split at h <;> first | (cases h; rfl) | cases h) (fun a => rfl) (lpgood_of (l := [(0, y72)]) (by kernel_rfl) ⟨y7f k, trivial⟩)
    (fun o r h => by unfold y7j at h; split at h <;> first | (cases h; rfl) | cases h) (y7l k)
def y7n (k : Nat) : Orc := pureOrc [.agg [(.int .i64), (.int .i64), (.int .i64), (.sl (.st .task)), (.int .i64), (.int .i64), (.int .i64), (.int .i64)]] (y7k k)
theorem y7o (k : Nat) : OrcOk Try.prog 41 (y7n k) := pureOrc_ok (y7m k)
noncomputable def y7p (k : Nat) : Env := { P := Try.prog, tt := tt, orc := fun g => cond (Nat.beq g 41) (y7n k) (noOrc) }
theorem y7q (k : Nat) : EnvOk (y7p k) := fun g => (orc_cond (y7o k) (noOrc_ok _ _))
noncomputable def y7r : Code := (Try.f127.body).getD .skip
def y7s (ρ : Type) (k : Nat) : Nat → Ev ρ → Ev ρ := fun _ _ _ _ => none
def y7t (a : Int × Int) : List Arg := [.one (.int .i64 a.1), .one (.int .i64 a.2)]
def y7u (l : List Arg) : Option (Int × Int) := match l with
  | [.one (.int .i64 b0), .one (.int .i64 b1)] => some (b0, b1)
  | _ => none
def y7v (r : Sched × Bool) : Out := (.tup [.agg [.r [] (.int .i64 r.1.now), .r [] (.int .i64 r.1.slack), .r [] (.int .i64 r.1.age), .own 0, .r [] (.int .i64 r.1.run), .r [] (.int .i64 r.1.left), .r [] (.int .i64 r.1.turns), .r [] (.int .i64 r.1.next)], .r [] (.bool r.2)], [.arr none (.st .task) r.1.tasks])
def y7w (o : Out) : Option (Sched × Bool) := match o with
  | (.tup [.agg [.r [] (.int .i64 z1), .r [] (.int .i64 z2), .r [] (.int .i64 z3), .own 0, .r [] (.int .i64 z5), .r [] (.int .i64 z6), .r [] (.int .i64 z7), .r [] (.int .i64 z8)], .r [] (.bool z9)], [.arr none (.st .task) z4]) => some ((⟨z1, z2, z3, z4, z5, z6, z7, z8⟩ : Sched), z9)
  | _ => none
def y7x (k : Nat) : PG := fun _ l K => (y7u l).bind fun a => (S_NewSched k a.1 a.2).bind fun r => K (y7v r)
theorem y7y (k : Nat) (a : Int × Int) : ev (y7p k) (y7s (Sched × Bool) k) 0 y7r (st0 Try.f127 (y7t a)) (fin Try.prog Try.f127 (.tup [.agg [.sc, .sc, .sc, .own (.st .task), .sc, .sc, .sc, .sc], .sc]) y7w) = S_NewSched k a.1 a.2 := by kernel_rfl
theorem y7z (k : Nat) : PureOk Try.prog 127 (y7x k) :=
  pureOk_of_ev (y7q k) Try.func127 (by kernel_rfl) (by kernel_rfl) y7t y7u
    (fun l a h => by unfold y7u at h; split at h <;> first | (cases h; rfl) | cases h) (fun a => rfl) (lpgood_none (by kernel_rfl))
    (fun o r h => by unfold y7w at h; split at h <;> first | (cases h; rfl) | cases h) (y7y k)
def y80 (k : Nat) : Orc := pureOrc [.one (.int .i64), .one (.int .i64)] (y7x k)
theorem y81 (k : Nat) : OrcOk Try.prog 127 (y80 k) := pureOrc_ok (y7z k)
noncomputable def y82 (k : Nat) : Env := { P := Try.prog, tt := tt, orc := fun g => noOrc }
theorem y84 (k : Nat) : EnvOk (y82 k) := fun g => (noOrc_ok _ _)
noncomputable def y85 : Code := (Try.f113.body).getD .skip
noncomputable def y86 : Code := ((loopsIn 0 y85).getD 0 (0, .skip)).2
def y88 : List Nat := [0, 3, 4]
def y89 : List (Where × Co) := []
def y8a : Ex → List Nat
  | .exit j => cond (Nat.beq j 0) [3] []
  | .ret => []
  | .normal => []
def y8b : Ex → List (Where × Co)
  | .exit j => cond (Nat.beq j 0) [] []
  | .ret => []
  | .normal => []
def y8c (pv : (List Int) × (Int × List Int)) : St := { slots := [(0, .r [] (.sl (.int .i64) pv.1)), (3, .own 0), (4, .r [] (.int .i64 pv.2.1))], heap := [(0, .arr none (.int .i64) pv.2.2)], nid := 1, n := 20, gh := [] }
def y8d (nf : NF) : Option ((List Int) × (Int × List Int)) := match nf with
  | ([.r [] (.sl (.int .i64) w0), .own 0, .r [] (.int .i64 w1)], [.arr none (.int .i64) w2], []) => some (w0, (w1, w2))
  | _ => none
theorem y8e (nf : NF) (v : (List Int) × (Int × List Int)) (h : y8d nf = some v) : denorm y88 20 nf = y8c v := by
  unfold y8d at h
  split at h
  · cases h; rfl
  · cases h
def y8f (p : List Int) (x : List Int) : St := { slots := [(3, .own 0)], heap := [(0, .arr none (.int .i64) x)], nid := 1, n := 20, gh := [] }
def y8g (ρ : Type) (k : Nat) : Nat → Ev ρ → Ev ρ := fun id f => cond (Nat.beq id 0) (loopOrc y88 y89 (fun n nf => cond (Nat.beq n 20) (y8d nf) none) fun pv K => iter (fun v next => S_l01Copy_g0 k pv.1 v next (fun x => K (.exit 0) (y8f pv.1 x))) k pv.2) ((fun _ _ _ _ => none) id f)
theorem y8h {ρ : Type} (k : Nat) (p : List Int) (v : Int × List Int) (K K1 : Ex → St → Option ρ) : ev (y82 k) (y8g ρ k) 0 y86 (y8c (p, v)) (fun e st' => match e with
    | .normal => (normC y88 y89 st').bind fun nf => K1 .normal (denorm y88 st'.n nf)
    | e => (normC (y8a e) (y8b e) st').bind fun nf => K e (denorm (y8a e) st'.n nf)) = S_l01Copy_g0 k p v (fun v' => K1 .normal (y8c (p, v'))) (fun x => K (.exit 0) (y8f p x)) := by kernel_rfl
theorem y8i {ρ : Type} (k : Nat) : Sound Try.prog (.loop y86) (y8g ρ k 0 fun st K => ev (y82 k) (y8g ρ k) 0 y86 st K) :=
  loop_ok (ev_sound (y84 k) y86 0 (lpgood_none (by kernel_rfl))) y8a y8b k (g := fun p v next K => S_l01Copy_g0 k p v next (fun x => K (.exit 0) (y8f p x))) (dec_at y8e) (fun p v K K1 => y8h k p v K K1)
def y8j (a : List Int) : List Arg := [.one (.sl (.int .i64) a)]
def y8k (l : List Arg) : Option (List Int) := match l with
  | [.one (.sl (.int .i64) b0)] => some b0
  | _ => none
def y8l (r : List Int) : Out := (.own 0, [.arr none (.int .i64) r])
def y8m (o : Out) : Option (List Int) := match o with
  | (.own 0, [.arr none (.int .i64) z1]) => some z1
  | _ => none
def y8n (k : Nat) : PG := fun _ l K => (y8k l).bind fun a => (S_l01Copy k a).bind fun r => K (y8l r)
theorem y8o (k : Nat) (a : List Int) : ev (y82 k) (y8g (List Int) k) 0 y85 (st0 Try.f113 (y8j a)) (fin Try.prog Try.f113 (.own (.int .i64)) y8m) = S_l01Copy k a := by kernel_rfl
theorem y8p (k : Nat) : PureOk Try.prog 113 (y8n k) :=
  pureOk_of_ev (y84 k) Try.func113 (by kernel_rfl) (by kernel_rfl) y8j y8k
    (fun l a h => by unfold y8k at h; split at h <;> first | (cases h; rfl) | cases h) (fun a => rfl) (lpgood_of (l := [(0, y86)]) (by kernel_rfl) ⟨y8i k, trivial⟩)
    (fun o r h => by unfold y8m at h; split at h <;> first | (cases h; rfl) | cases h) (y8o k)
def y8q (k : Nat) : Orc := pureOrc [.one (.sl (.int .i64))] (y8n k)
theorem y8r (k : Nat) : OrcOk Try.prog 113 (y8q k) := pureOrc_ok (y8p k)
noncomputable def y8s (k : Nat) : Env := { P := Try.prog, tt := tt, orc := fun g => cond (Nat.beq g 113) (y8q k) (noOrc) }
theorem y8t (k : Nat) : EnvOk (y8s k) := fun g => (orc_cond (y8r k) (noOrc_ok _ _))
noncomputable def y8u : Code := (Try.f112.body).getD .skip
noncomputable def y8v : Code := ((loopsIn 0 y8u).getD 0 (0, .skip)).2
def y8w : List Nat := [1, 2, 3, 4]
def y8x : List (Where × Co) := [((.pbox 3 3), (.nilOwn false (.st .task)))]
def y8y : Ex → List Nat
  | .exit j => cond (Nat.beq j 0) [2, 3] []
  | .ret => []
  | .normal => []
def y8z : Ex → List (Where × Co)
  | .exit j => cond (Nat.beq j 0) [] []
  | .ret => []
  | .normal => []
def y90 (pv : (Int × Int × Int × List Task × Int × Int × Int × Int × Int × Int × Int × Int × Int × Int × Int × Int × Int × Int × Int × Int × Int × Int) × (Int × List Task)) : St := { slots := [(1, .ptr 0 0 0), (2, .ptr 1 0 0), (3, .ptr 2 0 0), (4, .r [] (.int .i64 pv.2.1))], heap := [(0, .box [.r [] (.int .i64 pv.1.1), .r [] (.int .i64 pv.1.2.1), .r [] (.int .i64 pv.1.2.2.1), .r [] (.sl (.st .task) pv.1.2.2.2.1), .r [] (.int .i64 pv.1.2.2.2.2.1), .r [] (.int .i64 pv.1.2.2.2.2.2.1), .r [] (.int .i64 pv.1.2.2.2.2.2.2.1), .r [] (.int .i64 pv.1.2.2.2.2.2.2.2.1)]), (1, .box [.r [] (.int .i64 pv.1.2.2.2.2.2.2.2.2.1), .r [] (.int .i64 pv.1.2.2.2.2.2.2.2.2.2.1), .r [] (.int .i64 pv.1.2.2.2.2.2.2.2.2.2.2.1), .nilS, .r [] (.int .i64 pv.1.2.2.2.2.2.2.2.2.2.2.2.1), .r [] (.int .i64 pv.1.2.2.2.2.2.2.2.2.2.2.2.2.1), .r [] (.int .i64 pv.1.2.2.2.2.2.2.2.2.2.2.2.2.2.1), .r [] (.int .i64 pv.1.2.2.2.2.2.2.2.2.2.2.2.2.2.2.1)]), (2, .box [.r [] (.int .i64 pv.1.2.2.2.2.2.2.2.2.2.2.2.2.2.2.2.1), .r [] (.int .i64 pv.1.2.2.2.2.2.2.2.2.2.2.2.2.2.2.2.2.1), .r [] (.int .i64 pv.1.2.2.2.2.2.2.2.2.2.2.2.2.2.2.2.2.2.1), .own 3, .r [] (.int .i64 pv.1.2.2.2.2.2.2.2.2.2.2.2.2.2.2.2.2.2.2.1), .r [] (.int .i64 pv.1.2.2.2.2.2.2.2.2.2.2.2.2.2.2.2.2.2.2.2.1), .r [] (.int .i64 pv.1.2.2.2.2.2.2.2.2.2.2.2.2.2.2.2.2.2.2.2.2.1), .r [] (.int .i64 pv.1.2.2.2.2.2.2.2.2.2.2.2.2.2.2.2.2.2.2.2.2.2)]), (3, .arr none (.st .task) pv.2.2)], nid := 4, n := 31, gh := [] }
def y91 (nf : NF) : Option ((Int × Int × Int × List Task × Int × Int × Int × Int × Int × Int × Int × Int × Int × Int × Int × Int × Int × Int × Int × Int × Int × Int) × (Int × List Task)) := match nf with
  | ([.ptr 0 0 0, .ptr 1 0 0, .ptr 2 0 0, .r [] (.int .i64 w0)], [.box [.r [] (.int .i64 w1), .r [] (.int .i64 w2), .r [] (.int .i64 w3), .r [] (.sl (.st .task) w4), .r [] (.int .i64 w5), .r [] (.int .i64 w6), .r [] (.int .i64 w7), .r [] (.int .i64 w8)], .box [.r [] (.int .i64 w9), .r [] (.int .i64 w10), .r [] (.int .i64 w11), .nilS, .r [] (.int .i64 w12), .r [] (.int .i64 w13), .r [] (.int .i64 w14), .r [] (.int .i64 w15)], .box [.r [] (.int .i64 w16), .r [] (.int .i64 w17), .r [] (.int .i64 w18), .own 3, .r [] (.int .i64 w19), .r [] (.int .i64 w20), .r [] (.int .i64 w21), .r [] (.int .i64 w22)], .arr none (.st .task) w23], []) => some ((w1, w2, w3, w4, w5, w6, w7, w8, w9, w10, w11, w12, w13, w14, w15, w16, w17, w18, w19, w20, w21, w22), (w0, w23))
  | _ => none
theorem y93 (nf : NF) (v : (Int × Int × Int × List Task × Int × Int × Int × Int × Int × Int × Int × Int × Int × Int × Int × Int × Int × Int × Int × Int × Int × Int) × (Int × List Task)) (h : y91 nf = some v) : denorm y8w 31 nf = y90 v := by
  unfold y91 at h
  split at h
  · cases h; rfl
  · cases h
def y94 (p : Int × Int × Int × List Task × Int × Int × Int × Int × Int × Int × Int × Int × Int × Int × Int × Int × Int × Int × Int × Int × Int × Int) (x : List Task) : St := { slots := [(2, .ptr 0 0 0), (3, .ptr 1 0 0)], heap := [(0, .box [.r [] (.int .i64 p.2.2.2.2.2.2.2.2.1), .r [] (.int .i64 p.2.2.2.2.2.2.2.2.2.1), .r [] (.int .i64 p.2.2.2.2.2.2.2.2.2.2.1), .nilS, .r [] (.int .i64 p.2.2.2.2.2.2.2.2.2.2.2.1), .r [] (.int .i64 p.2.2.2.2.2.2.2.2.2.2.2.2.1), .r [] (.int .i64 p.2.2.2.2.2.2.2.2.2.2.2.2.2.1), .r [] (.int .i64 p.2.2.2.2.2.2.2.2.2.2.2.2.2.2.1)]), (1, .box [.r [] (.int .i64 p.2.2.2.2.2.2.2.2.2.2.2.2.2.2.2.1), .r [] (.int .i64 p.2.2.2.2.2.2.2.2.2.2.2.2.2.2.2.2.1), .r [] (.int .i64 p.2.2.2.2.2.2.2.2.2.2.2.2.2.2.2.2.2.1), .own 2, .r [] (.int .i64 p.2.2.2.2.2.2.2.2.2.2.2.2.2.2.2.2.2.2.1), .r [] (.int .i64 p.2.2.2.2.2.2.2.2.2.2.2.2.2.2.2.2.2.2.2.1), .r [] (.int .i64 p.2.2.2.2.2.2.2.2.2.2.2.2.2.2.2.2.2.2.2.2.1), .r [] (.int .i64 p.2.2.2.2.2.2.2.2.2.2.2.2.2.2.2.2.2.2.2.2.2)]), (2, .arr none (.st .task) x)], nid := 3, n := 31, gh := [] }
def y95 (ρ : Type) (k : Nat) : Nat → Ev ρ → Ev ρ := fun id f => cond (Nat.beq id 0) (loopOrc y8w y8x (fun n nf => cond (Nat.beq n 31) (y91 nf) none) fun pv K => iter (fun v next => S_l07Copy_g0 k pv.1 v next (fun x => K (.exit 0) (y94 pv.1 x))) k pv.2) ((fun _ _ _ _ => none) id f)
theorem y97 {ρ : Type} (k : Nat) (p : Int × Int × Int × List Task × Int × Int × Int × Int × Int × Int × Int × Int × Int × Int × Int × Int × Int × Int × Int × Int × Int × Int) (v : Int × List Task) (K K1 : Ex → St → Option ρ) : ev (y8s k) (y95 ρ k) 0 y8v (y90 (p, v)) (fun e st' => match e with
    | .normal => (normC y8w y8x st').bind fun nf => K1 .normal (denorm y8w st'.n nf)
    | e => (normC (y8y e) (y8z e) st').bind fun nf => K e (denorm (y8y e) st'.n nf)) = S_l07Copy_g0 k p v (fun v' => K1 .normal (y90 (p, v'))) (fun x => K (.exit 0) (y94 p x)) := by kernel_rfl
theorem y98 {ρ : Type} (k : Nat) : Sound Try.prog (.loop y8v) (y95 ρ k 0 fun st K => ev (y8s k) (y95 ρ k) 0 y8v st K) :=
  loop_ok (ev_sound (y8t k) y8v 0 (lpgood_none (by kernel_rfl))) y8y y8z k (g := fun p v next K => S_l07Copy_g0 k p v next (fun x => K (.exit 0) (y94 p x))) (dec_at y93) (fun p v K K1 => y97 k p v K K1)
def y99 (a : Sched) : List Arg := [.agg [.int .i64 a.now, .int .i64 a.slack, .int .i64 a.age, .sl (.st .task) a.tasks, .int .i64 a.run, .int .i64 a.left, .int .i64 a.turns, .int .i64 a.next]]
def y9a (l : List Arg) : Option (Sched) := match l with
  | [.agg [.int .i64 b0_0, .int .i64 b0_1, .int .i64 b0_2, .sl (.st .task) b0_3, .int .i64 b0_4, .int .i64 b0_5, .int .i64 b0_6, .int .i64 b0_7]] => some (⟨b0_0, b0_1, b0_2, b0_3, b0_4, b0_5, b0_6, b0_7⟩ : Sched)
  | _ => none
def y9b (r : Sched) : Out := (.agg [.r [] (.int .i64 r.now), .r [] (.int .i64 r.slack), .r [] (.int .i64 r.age), .own 0, .r [] (.int .i64 r.run), .r [] (.int .i64 r.left), .r [] (.int .i64 r.turns), .r [] (.int .i64 r.next)], [.arr none (.st .task) r.tasks])
def y9c (o : Out) : Option (Sched) := match o with
  | (.agg [.r [] (.int .i64 z1), .r [] (.int .i64 z2), .r [] (.int .i64 z3), .own 0, .r [] (.int .i64 z5), .r [] (.int .i64 z6), .r [] (.int .i64 z7), .r [] (.int .i64 z8)], [.arr none (.st .task) z4]) => some (⟨z1, z2, z3, z4, z5, z6, z7, z8⟩ : Sched)
  | _ => none
def y9d (k : Nat) : PG := fun _ l K => (y9a l).bind fun a => (S_l07Copy k a).bind fun r => K (y9b r)
theorem y9e (k : Nat) (a : Sched) : ev (y8s k) (y95 (Sched) k) 0 y8u (st0 Try.f112 (y99 a)) (fin Try.prog Try.f112 (.agg [.sc, .sc, .sc, .own (.st .task), .sc, .sc, .sc, .sc]) y9c) = S_l07Copy k a := by kernel_rfl
theorem y9f (k : Nat) : PureOk Try.prog 112 (y9d k) :=
  pureOk_of_ev (y8t k) Try.func112 (by kernel_rfl) (by kernel_rfl) y99 y9a
    (fun l a h => by unfold y9a at h; split at h <;> first | (cases h; rfl) | cases h) (fun a => rfl) (lpgood_of (l := [(0, y8v)]) (by kernel_rfl) ⟨y98 k, trivial⟩)
    (fun o r h => by unfold y9c at h; split at h <;> first | (cases h; rfl) | cases h) (y9e k)
def y9g (k : Nat) : Orc := pureOrc [.agg [(.int .i64), (.int .i64), (.int .i64), (.sl (.st .task)), (.int .i64), (.int .i64), (.int .i64), (.int .i64)]] (y9d k)
theorem y9h (k : Nat) : OrcOk Try.prog 112 (y9g k) := pureOrc_ok (y9f k)
noncomputable def y9i (k : Nat) : Env := { P := Try.prog, tt := tt, orc := fun g => cond (Nat.beq g 41) (y7n k) (noOrc) }
theorem y9j (k : Nat) : EnvOk (y9i k) := fun g => (orc_cond (y7o k) (noOrc_ok _ _))
noncomputable def y9k : Code := (Try.f140.body).getD .skip
noncomputable def y9l : Code := ((loopsIn 0 y9k).getD 0 (0, .skip)).2
def y9m : List Nat := [1, 3, 4]
def y9n : List (Where × Co) := []
def y9o : Ex → List Nat
  | .exit j => cond (Nat.beq j 0) [3] []
  | .ret => []
  | .normal => []
def y9p : Ex → List (Where × Co)
  | .exit j => cond (Nat.beq j 0) [] []
  | .ret => []
  | .normal => []
def y9q (pv : (Int × Int × Int × List Task × Int × Int × Int × Int) × (Int × List Int)) : St := { slots := [(1, .ptr 0 0 0), (3, .own 1), (4, .r [] (.int .i64 pv.2.1))], heap := [(0, .box [.r [] (.int .i64 pv.1.1), .r [] (.int .i64 pv.1.2.1), .r [] (.int .i64 pv.1.2.2.1), .r [] (.sl (.st .task) pv.1.2.2.2.1), .r [] (.int .i64 pv.1.2.2.2.2.1), .r [] (.int .i64 pv.1.2.2.2.2.2.1), .r [] (.int .i64 pv.1.2.2.2.2.2.2.1), .r [] (.int .i64 pv.1.2.2.2.2.2.2.2)]), (1, .arr none (.int .i64) pv.2.2)], nid := 2, n := 35, gh := [] }
def y9r (nf : NF) : Option ((Int × Int × Int × List Task × Int × Int × Int × Int) × (Int × List Int)) := match nf with
  | ([.ptr 0 0 0, .own 1, .r [] (.int .i64 w0)], [.box [.r [] (.int .i64 w1), .r [] (.int .i64 w2), .r [] (.int .i64 w3), .r [] (.sl (.st .task) w4), .r [] (.int .i64 w5), .r [] (.int .i64 w6), .r [] (.int .i64 w7), .r [] (.int .i64 w8)], .arr none (.int .i64) w9], []) => some ((w1, w2, w3, w4, w5, w6, w7, w8), (w0, w9))
  | _ => none
theorem y9s (nf : NF) (v : (Int × Int × Int × List Task × Int × Int × Int × Int) × (Int × List Int)) (h : y9r nf = some v) : denorm y9m 35 nf = y9q v := by
  unfold y9r at h
  split at h
  · cases h; rfl
  · cases h
def y9t (p : Int × Int × Int × List Task × Int × Int × Int × Int) (x : List Int) : St := { slots := [(3, .own 0)], heap := [(0, .arr none (.int .i64) x)], nid := 1, n := 35, gh := [] }
def y9u (ρ : Type) (k : Nat) : Nat → Ev ρ → Ev ρ := fun id f => cond (Nat.beq id 0) (loopOrc y9m y9n (fun n nf => cond (Nat.beq n 35) (y9r nf) none) fun pv K => iter (fun v next => S_LateOf_g0 k pv.1 v next (fun x => K (.exit 0) (y9t pv.1 x))) k pv.2) ((fun _ _ _ _ => none) id f)
theorem y9v {ρ : Type} (k : Nat) (p : Int × Int × Int × List Task × Int × Int × Int × Int) (v : Int × List Int) (K K1 : Ex → St → Option ρ) : ev (y9i k) (y9u ρ k) 0 y9l (y9q (p, v)) (fun e st' => match e with
    | .normal => (normC y9m y9n st').bind fun nf => K1 .normal (denorm y9m st'.n nf)
    | e => (normC (y9o e) (y9p e) st').bind fun nf => K e (denorm (y9o e) st'.n nf)) = S_LateOf_g0 k p v (fun v' => K1 .normal (y9q (p, v'))) (fun x => K (.exit 0) (y9t p x)) := by kernel_rfl
theorem y9w {ρ : Type} (k : Nat) : Sound Try.prog (.loop y9l) (y9u ρ k 0 fun st K => ev (y9i k) (y9u ρ k) 0 y9l st K) :=
  loop_ok (ev_sound (y9j k) y9l 0 (lpgood_none (by kernel_rfl))) y9o y9p k (g := fun p v next K => S_LateOf_g0 k p v next (fun x => K (.exit 0) (y9t p x))) (dec_at y9s) (fun p v K K1 => y9v k p v K K1)
def y9x (a : Sched) : List Arg := [.agg [.int .i64 a.now, .int .i64 a.slack, .int .i64 a.age, .sl (.st .task) a.tasks, .int .i64 a.run, .int .i64 a.left, .int .i64 a.turns, .int .i64 a.next]]
def y9y (l : List Arg) : Option (Sched) := match l with
  | [.agg [.int .i64 b0_0, .int .i64 b0_1, .int .i64 b0_2, .sl (.st .task) b0_3, .int .i64 b0_4, .int .i64 b0_5, .int .i64 b0_6, .int .i64 b0_7]] => some (⟨b0_0, b0_1, b0_2, b0_3, b0_4, b0_5, b0_6, b0_7⟩ : Sched)
  | _ => none
def y9z (r : List Int) : Out := (.own 0, [.arr none (.int .i64) r])
def ya0 (o : Out) : Option (List Int) := match o with
  | (.own 0, [.arr none (.int .i64) z1]) => some z1
  | _ => none
def ya1 (k : Nat) : PG := fun _ l K => (y9y l).bind fun a => (S_LateOf k a).bind fun r => K (y9z r)
theorem ya2 (k : Nat) (a : Sched) : ev (y9i k) (y9u (List Int) k) 0 y9k (st0 Try.f140 (y9x a)) (fin Try.prog Try.f140 (.own (.int .i64)) ya0) = S_LateOf k a := by kernel_rfl
theorem ya3 (k : Nat) : PureOk Try.prog 140 (ya1 k) :=
  pureOk_of_ev (y9j k) Try.func140 (by kernel_rfl) (by kernel_rfl) y9x y9y
    (fun l a h => by unfold y9y at h; split at h <;> first | (cases h; rfl) | cases h) (fun a => rfl) (lpgood_of (l := [(0, y9l)]) (by kernel_rfl) ⟨y9w k, trivial⟩)
    (fun o r h => by unfold ya0 at h; split at h <;> first | (cases h; rfl) | cases h) (ya2 k)
def ya4 (k : Nat) : Orc := pureOrc [.agg [(.int .i64), (.int .i64), (.int .i64), (.sl (.st .task)), (.int .i64), (.int .i64), (.int .i64), (.int .i64)]] (ya1 k)
theorem ya5 (k : Nat) : OrcOk Try.prog 140 (ya4 k) := pureOrc_ok (ya3 k)
noncomputable def ya6 (k : Nat) : Env := { P := Try.prog, tt := tt, orc := fun g => cond (Nat.beq g 41) (y7n k) (cond (Nat.beq g 137) (y6w k) (noOrc)) }
theorem ya7 (k : Nat) : EnvOk (ya6 k) := fun g => (orc_cond (y7o k) (orc_cond (y6x k) (noOrc_ok _ _)))
noncomputable def ya8 : Code := (Try.f200.body).getD .skip
noncomputable def ya9 : Code := ((loopsIn 0 ya8).getD 0 (0, .skip)).2
def yaa : List Nat := [1, 2, 6, 7, 8]
def yab : List (Where × Co) := []
def yac : Ex → List Nat
  | .exit j => cond (Nat.beq j 0) [1, 2, 6, 7] []
  | .ret => []
  | .normal => []
def yad : Ex → List (Where × Co)
  | .exit j => cond (Nat.beq j 0) [] []
  | .ret => []
  | .normal => []
def yae (pv : (Int × Int × Int × Int × List Task × Int × Int × Int × Int × Int × List Int × Int × Int × Int) × (Int × Int)) : St := { slots := [(1, .r [] (.int .i64 pv.1.1)), (2, .ptr 0 0 0), (6, .ptr 1 0 0), (7, .r [] (.int .i64 pv.2.1)), (8, .r [] (.int .i64 pv.2.2))], heap := [(0, .box [.r [] (.int .i64 pv.1.2.1), .r [] (.int .i64 pv.1.2.2.1), .r [] (.int .i64 pv.1.2.2.2.1), .r [] (.sl (.st .task) pv.1.2.2.2.2.1), .r [] (.int .i64 pv.1.2.2.2.2.2.1), .r [] (.int .i64 pv.1.2.2.2.2.2.2.1), .r [] (.int .i64 pv.1.2.2.2.2.2.2.2.1), .r [] (.int .i64 pv.1.2.2.2.2.2.2.2.2.1)]), (1, .box [.r [] (.int .i64 pv.1.2.2.2.2.2.2.2.2.2.1), .r [] (.sl (.int .i64) pv.1.2.2.2.2.2.2.2.2.2.2.1), .r [] (.int .i64 pv.1.2.2.2.2.2.2.2.2.2.2.2.1), .r [] (.int .i64 pv.1.2.2.2.2.2.2.2.2.2.2.2.2.1), .r [] (.int .i64 pv.1.2.2.2.2.2.2.2.2.2.2.2.2.2)])], nid := 2, n := 56, gh := [] }
def yaf (nf : NF) : Option ((Int × Int × Int × Int × List Task × Int × Int × Int × Int × Int × List Int × Int × Int × Int) × (Int × Int)) := match nf with
  | ([.r [] (.int .i64 w0), .ptr 0 0 0, .ptr 1 0 0, .r [] (.int .i64 w1), .r [] (.int .i64 w2)], [.box [.r [] (.int .i64 w3), .r [] (.int .i64 w4), .r [] (.int .i64 w5), .r [] (.sl (.st .task) w6), .r [] (.int .i64 w7), .r [] (.int .i64 w8), .r [] (.int .i64 w9), .r [] (.int .i64 w10)], .box [.r [] (.int .i64 w11), .r [] (.sl (.int .i64) w12), .r [] (.int .i64 w13), .r [] (.int .i64 w14), .r [] (.int .i64 w15)]], []) => some ((w0, w3, w4, w5, w6, w7, w8, w9, w10, w11, w12, w13, w14, w15), (w1, w2))
  | _ => none
theorem yag (nf : NF) (v : (Int × Int × Int × Int × List Task × Int × Int × Int × Int × Int × List Int × Int × Int × Int) × (Int × Int)) (h : yaf nf = some v) : denorm yaa 56 nf = yae v := by
  unfold yaf at h
  split at h
  · cases h; rfl
  · cases h
def yah (p : Int × Int × Int × Int × List Task × Int × Int × Int × Int × Int × List Int × Int × Int × Int) (x : Int) : St := { slots := [(1, .r [] (.int .i64 p.1)), (2, .ptr 0 0 0), (6, .ptr 1 0 0), (7, .r [] (.int .i64 x))], heap := [(0, .box [.r [] (.int .i64 p.2.1), .r [] (.int .i64 p.2.2.1), .r [] (.int .i64 p.2.2.2.1), .r [] (.sl (.st .task) p.2.2.2.2.1), .r [] (.int .i64 p.2.2.2.2.2.1), .r [] (.int .i64 p.2.2.2.2.2.2.1), .r [] (.int .i64 p.2.2.2.2.2.2.2.1), .r [] (.int .i64 p.2.2.2.2.2.2.2.2.1)]), (1, .box [.r [] (.int .i64 p.2.2.2.2.2.2.2.2.2.1), .r [] (.sl (.int .i64) p.2.2.2.2.2.2.2.2.2.2.1), .r [] (.int .i64 p.2.2.2.2.2.2.2.2.2.2.2.1), .r [] (.int .i64 p.2.2.2.2.2.2.2.2.2.2.2.2.1), .r [] (.int .i64 p.2.2.2.2.2.2.2.2.2.2.2.2.2)])], nid := 2, n := 56, gh := [] }
def yai (ρ : Type) (k : Nat) : Nat → Ev ρ → Ev ρ := fun id f => cond (Nat.beq id 0) (loopOrc yaa yab (fun n nf => cond (Nat.beq n 56) (yaf nf) none) fun pv K => iter (fun v next => S_RemainOf_g0 k pv.1 v next (fun x => K (.exit 0) (yah pv.1 x))) k pv.2) ((fun _ _ _ _ => none) id f)
theorem yaj {ρ : Type} (k : Nat) (p : Int × Int × Int × Int × List Task × Int × Int × Int × Int × Int × List Int × Int × Int × Int) (v : Int × Int) (K K1 : Ex → St → Option ρ) : ev (ya6 k) (yai ρ k) 0 ya9 (yae (p, v)) (fun e st' => match e with
    | .normal => (normC yaa yab st').bind fun nf => K1 .normal (denorm yaa st'.n nf)
    | e => (normC (yac e) (yad e) st').bind fun nf => K e (denorm (yac e) st'.n nf)) = S_RemainOf_g0 k p v (fun v' => K1 .normal (yae (p, v'))) (fun x => K (.exit 0) (yah p x)) := by kernel_rfl
theorem yak {ρ : Type} (k : Nat) : Sound Try.prog (.loop ya9) (yai ρ k 0 fun st K => ev (ya6 k) (yai ρ k) 0 ya9 st K) :=
  loop_ok (ev_sound (ya7 k) ya9 0 (lpgood_none (by kernel_rfl))) yac yad k (g := fun p v next K => S_RemainOf_g0 k p v next (fun x => K (.exit 0) (yah p x))) (dec_at yag) (fun p v K K1 => yaj k p v K K1)
def yal (a : Sched × Int) : List Arg := [.agg [.int .i64 a.1.now, .int .i64 a.1.slack, .int .i64 a.1.age, .sl (.st .task) a.1.tasks, .int .i64 a.1.run, .int .i64 a.1.left, .int .i64 a.1.turns, .int .i64 a.1.next], .one (.int .i64 a.2)]
def yam (l : List Arg) : Option (Sched × Int) := match l with
  | [.agg [.int .i64 b0_0, .int .i64 b0_1, .int .i64 b0_2, .sl (.st .task) b0_3, .int .i64 b0_4, .int .i64 b0_5, .int .i64 b0_6, .int .i64 b0_7], .one (.int .i64 b1)] => some ((⟨b0_0, b0_1, b0_2, b0_3, b0_4, b0_5, b0_6, b0_7⟩ : Sched), b1)
  | _ => none
def yan (r : Int) : Out := (.r [] (.int .i64 r), [])
def yao (o : Out) : Option (Int) := match o with
  | (.r [] (.int .i64 z1), []) => some z1
  | _ => none
def yap (k : Nat) : PG := fun _ l K => (yam l).bind fun a => (S_RemainOf k a.1 a.2).bind fun r => K (yan r)
theorem yaq (k : Nat) (a : Sched × Int) : ev (ya6 k) (yai (Int) k) 0 ya8 (st0 Try.f200 (yal a)) (fin Try.prog Try.f200 (.sc) yao) = S_RemainOf k a.1 a.2 := by kernel_rfl
theorem yar (k : Nat) : PureOk Try.prog 200 (yap k) :=
  pureOk_of_ev (ya7 k) Try.func200 (by kernel_rfl) (by kernel_rfl) yal yam
    (fun l a h => by unfold yam at h; split at h <;> first | (cases h; rfl) | cases h) (fun a => rfl) (lpgood_of (l := [(0, ya9)]) (by kernel_rfl) ⟨yak k, trivial⟩)
    (fun o r h => by unfold yao at h; split at h <;> first | (cases h; rfl) | cases h) (yaq k)
def yas (k : Nat) : Orc := pureOrc [.agg [(.int .i64), (.int .i64), (.int .i64), (.sl (.st .task)), (.int .i64), (.int .i64), (.int .i64), (.int .i64)], .one (.int .i64)] (yap k)
theorem yat (k : Nat) : OrcOk Try.prog 200 (yas k) := pureOrc_ok (yar k)
noncomputable def yau (k : Nat) : Env := { P := Try.prog, tt := tt, orc := fun g => cond (Nat.beq g 41) (y7n k) (cond (Nat.beq g 200) (yas k) (noOrc)) }
theorem yav (k : Nat) : EnvOk (yau k) := fun g => (orc_cond (y7o k) (orc_cond (yat k) (noOrc_ok _ _)))
noncomputable def yaw : Code := (Try.f141.body).getD .skip
noncomputable def yax : Code := ((loopsIn 0 yaw).getD 0 (0, .skip)).2
def yay : List Nat := [1, 2, 5, 6]
def yaz : List (Where × Co) := []
def yb0 : Ex → List Nat
  | .exit j => cond (Nat.beq j 0) [5] []
  | .ret => []
  | .normal => []
def yb1 : Ex → List (Where × Co)
  | .exit j => cond (Nat.beq j 0) [] []
  | .ret => []
  | .normal => []
def yb2 (pv : (Int × Int × Int × Int × List Task × Int × Int × Int × Int) × (Int × Int)) : St := { slots := [(1, .r [] (.int .i64 pv.1.1)), (2, .ptr 0 0 0), (5, .r [] (.int .i64 pv.2.1)), (6, .r [] (.int .i64 pv.2.2))], heap := [(0, .box [.r [] (.int .i64 pv.1.2.1), .r [] (.int .i64 pv.1.2.2.1), .r [] (.int .i64 pv.1.2.2.2.1), .r [] (.sl (.st .task) pv.1.2.2.2.2.1), .r [] (.int .i64 pv.1.2.2.2.2.2.1), .r [] (.int .i64 pv.1.2.2.2.2.2.2.1), .r [] (.int .i64 pv.1.2.2.2.2.2.2.2.1), .r [] (.int .i64 pv.1.2.2.2.2.2.2.2.2)])], nid := 1, n := 36, gh := [] }
def yb3 (nf : NF) : Option ((Int × Int × Int × Int × List Task × Int × Int × Int × Int) × (Int × Int)) := match nf with
  | ([.r [] (.int .i64 w0), .ptr 0 0 0, .r [] (.int .i64 w1), .r [] (.int .i64 w2)], [.box [.r [] (.int .i64 w3), .r [] (.int .i64 w4), .r [] (.int .i64 w5), .r [] (.sl (.st .task) w6), .r [] (.int .i64 w7), .r [] (.int .i64 w8), .r [] (.int .i64 w9), .r [] (.int .i64 w10)]], []) => some ((w0, w3, w4, w5, w6, w7, w8, w9, w10), (w1, w2))
  | _ => none
theorem yb4 (nf : NF) (v : (Int × Int × Int × Int × List Task × Int × Int × Int × Int) × (Int × Int)) (h : yb3 nf = some v) : denorm yay 36 nf = yb2 v := by
  unfold yb3 at h
  split at h
  · cases h; rfl
  · cases h
def yb5 (p : Int × Int × Int × Int × List Task × Int × Int × Int × Int) (x : Int) : St := { slots := [(5, .r [] (.int .i64 x))], heap := [], nid := 0, n := 36, gh := [] }
def yb6 (ρ : Type) (k : Nat) : Nat → Ev ρ → Ev ρ := fun id f => cond (Nat.beq id 0) (loopOrc yay yaz (fun n nf => cond (Nat.beq n 36) (yb3 nf) none) fun pv K => iter (fun v next => S_DemandAt_g0 k pv.1 v next (fun x => K (.exit 0) (yb5 pv.1 x))) k pv.2) ((fun _ _ _ _ => none) id f)
theorem yb7 {ρ : Type} (k : Nat) (p : Int × Int × Int × Int × List Task × Int × Int × Int × Int) (v : Int × Int) (K K1 : Ex → St → Option ρ) : ev (yau k) (yb6 ρ k) 0 yax (yb2 (p, v)) (fun e st' => match e with
    | .normal => (normC yay yaz st').bind fun nf => K1 .normal (denorm yay st'.n nf)
    | e => (normC (yb0 e) (yb1 e) st').bind fun nf => K e (denorm (yb0 e) st'.n nf)) = S_DemandAt_g0 k p v (fun v' => K1 .normal (yb2 (p, v'))) (fun x => K (.exit 0) (yb5 p x)) := by kernel_rfl
theorem yb8 {ρ : Type} (k : Nat) : Sound Try.prog (.loop yax) (yb6 ρ k 0 fun st K => ev (yau k) (yb6 ρ k) 0 yax st K) :=
  loop_ok (ev_sound (yav k) yax 0 (lpgood_none (by kernel_rfl))) yb0 yb1 k (g := fun p v next K => S_DemandAt_g0 k p v next (fun x => K (.exit 0) (yb5 p x))) (dec_at yb4) (fun p v K K1 => yb7 k p v K K1)
def yb9 (a : Sched × Int) : List Arg := [.agg [.int .i64 a.1.now, .int .i64 a.1.slack, .int .i64 a.1.age, .sl (.st .task) a.1.tasks, .int .i64 a.1.run, .int .i64 a.1.left, .int .i64 a.1.turns, .int .i64 a.1.next], .one (.int .i64 a.2)]
def yba (l : List Arg) : Option (Sched × Int) := match l with
  | [.agg [.int .i64 b0_0, .int .i64 b0_1, .int .i64 b0_2, .sl (.st .task) b0_3, .int .i64 b0_4, .int .i64 b0_5, .int .i64 b0_6, .int .i64 b0_7], .one (.int .i64 b1)] => some ((⟨b0_0, b0_1, b0_2, b0_3, b0_4, b0_5, b0_6, b0_7⟩ : Sched), b1)
  | _ => none
def ybb (r : Int) : Out := (.r [] (.int .i64 r), [])
def ybc (o : Out) : Option (Int) := match o with
  | (.r [] (.int .i64 z1), []) => some z1
  | _ => none
def ybd (k : Nat) : PG := fun _ l K => (yba l).bind fun a => (S_DemandAt k a.1 a.2).bind fun r => K (ybb r)
theorem ybe (k : Nat) (a : Sched × Int) : ev (yau k) (yb6 (Int) k) 0 yaw (st0 Try.f141 (yb9 a)) (fin Try.prog Try.f141 (.sc) ybc) = S_DemandAt k a.1 a.2 := by kernel_rfl
theorem ybf (k : Nat) : PureOk Try.prog 141 (ybd k) :=
  pureOk_of_ev (yav k) Try.func141 (by kernel_rfl) (by kernel_rfl) yb9 yba
    (fun l a h => by unfold yba at h; split at h <;> first | (cases h; rfl) | cases h) (fun a => rfl) (lpgood_of (l := [(0, yax)]) (by kernel_rfl) ⟨yb8 k, trivial⟩)
    (fun o r h => by unfold ybc at h; split at h <;> first | (cases h; rfl) | cases h) (ybe k)
def ybg (k : Nat) : Orc := pureOrc [.agg [(.int .i64), (.int .i64), (.int .i64), (.sl (.st .task)), (.int .i64), (.int .i64), (.int .i64), (.int .i64)], .one (.int .i64)] (ybd k)
theorem ybh (k : Nat) : OrcOk Try.prog 141 (ybg k) := pureOrc_ok (ybf k)
noncomputable def ybi (k : Nat) : Env := { P := Try.prog, tt := tt, orc := fun g => cond (Nat.beq g 41) (y7n k) (cond (Nat.beq g 137) (y6w k) (noOrc)) }
theorem ybj (k : Nat) : EnvOk (ybi k) := fun g => (orc_cond (y7o k) (orc_cond (y6x k) (noOrc_ok _ _)))
noncomputable def ybk : Code := (Try.f142.body).getD .skip
def ybl (ρ : Type) (k : Nat) : Nat → Ev ρ → Ev ρ := fun _ _ _ _ => none
def ybm (a : Sched × Int) : List Arg := [.agg [.int .i64 a.1.now, .int .i64 a.1.slack, .int .i64 a.1.age, .sl (.st .task) a.1.tasks, .int .i64 a.1.run, .int .i64 a.1.left, .int .i64 a.1.turns, .int .i64 a.1.next], .one (.int .i64 a.2)]
def ybn (l : List Arg) : Option (Sched × Int) := match l with
  | [.agg [.int .i64 b0_0, .int .i64 b0_1, .int .i64 b0_2, .sl (.st .task) b0_3, .int .i64 b0_4, .int .i64 b0_5, .int .i64 b0_6, .int .i64 b0_7], .one (.int .i64 b1)] => some ((⟨b0_0, b0_1, b0_2, b0_3, b0_4, b0_5, b0_6, b0_7⟩ : Sched), b1)
  | _ => none
def ybo (r : Int) : Out := (.r [] (.int .i64 r), [])
def ybp (o : Out) : Option (Int) := match o with
  | (.r [] (.int .i64 z1), []) => some z1
  | _ => none
def ybq (k : Nat) : PG := fun _ l K => (ybn l).bind fun a => (S_BlockAt k a.1 a.2).bind fun r => K (ybo r)
theorem ybr (k : Nat) (a : Sched × Int) : ev (ybi k) (ybl (Int) k) 0 ybk (st0 Try.f142 (ybm a)) (fin Try.prog Try.f142 (.sc) ybp) = S_BlockAt k a.1 a.2 := by kernel_rfl
theorem ybs (k : Nat) : PureOk Try.prog 142 (ybq k) :=
  pureOk_of_ev (ybj k) Try.func142 (by kernel_rfl) (by kernel_rfl) ybm ybn
    (fun l a h => by unfold ybn at h; split at h <;> first | (cases h; rfl) | cases h) (fun a => rfl) (lpgood_none (by kernel_rfl))
    (fun o r h => by unfold ybp at h; split at h <;> first | (cases h; rfl) | cases h) (ybr k)
def ybt (k : Nat) : Orc := pureOrc [.agg [(.int .i64), (.int .i64), (.int .i64), (.sl (.st .task)), (.int .i64), (.int .i64), (.int .i64), (.int .i64)], .one (.int .i64)] (ybq k)
theorem ybu (k : Nat) : OrcOk Try.prog 142 (ybt k) := pureOrc_ok (ybs k)
noncomputable def ybv (k : Nat) : Env := { P := Try.prog, tt := tt, orc := fun g => cond (Nat.beq g 41) (y7n k) (cond (Nat.beq g 140) (ya4 k) (cond (Nat.beq g 141) (ybg k) (cond (Nat.beq g 142) (ybt k) (noOrc)))) }
theorem ybw (k : Nat) : EnvOk (ybv k) := fun g => (orc_cond (y7o k) (orc_cond (ya5 k) (orc_cond (ybh k) (orc_cond (ybu k) (noOrc_ok _ _)))))
noncomputable def ybx : Code := (Try.f44.body).getD .skip
noncomputable def yby : Code := ((loopsIn 0 ybx).getD 0 (0, .skip)).2
def ybz : List Nat := [1, 3]
def yc0 : List (Where × Co) := []
def yc1 : Ex → List Nat
  | .exit j => cond (Nat.beq j 0) [] []
  | .ret => [2]
  | .normal => []
def yc2 : Ex → List (Where × Co)
  | .exit j => cond (Nat.beq j 0) [] []
  | .ret => []
  | .normal => []
def yc3 (pv : (Int × Int × Int × List Task × Int × Int × Int × Int) × (Int)) : St := { slots := [(1, .ptr 0 0 0), (3, .r [] (.int .i64 pv.2))], heap := [(0, .box [.r [] (.int .i64 pv.1.1), .r [] (.int .i64 pv.1.2.1), .r [] (.int .i64 pv.1.2.2.1), .r [] (.sl (.st .task) pv.1.2.2.2.1), .r [] (.int .i64 pv.1.2.2.2.2.1), .r [] (.int .i64 pv.1.2.2.2.2.2.1), .r [] (.int .i64 pv.1.2.2.2.2.2.2.1), .r [] (.int .i64 pv.1.2.2.2.2.2.2.2)])], nid := 1, n := 42, gh := [] }
def yc4 (nf : NF) : Option ((Int × Int × Int × List Task × Int × Int × Int × Int) × (Int)) := match nf with
  | ([.ptr 0 0 0, .r [] (.int .i64 w0)], [.box [.r [] (.int .i64 w1), .r [] (.int .i64 w2), .r [] (.int .i64 w3), .r [] (.sl (.st .task) w4), .r [] (.int .i64 w5), .r [] (.int .i64 w6), .r [] (.int .i64 w7), .r [] (.int .i64 w8)]], []) => some ((w1, w2, w3, w4, w5, w6, w7, w8), w0)
  | _ => none
theorem yc5 (nf : NF) (v : (Int × Int × Int × List Task × Int × Int × Int × Int) × (Int)) (h : yc4 nf = some v) : denorm ybz 42 nf = yc3 v := by
  unfold yc4 at h
  split at h
  · cases h; rfl
  · cases h
def yc6 (p : Int × Int × Int × List Task × Int × Int × Int × Int) (x : Unit) : St := { slots := [], heap := [], nid := 0, n := 42, gh := [] }
def yc7 (p : Int × Int × Int × List Task × Int × Int × Int × Int) (x : Bool) : St := { slots := [(2, .r [] (.bool x))], heap := [], nid := 0, n := 42, gh := [] }
def yc8 (ρ : Type) (k : Nat) : Nat → Ev ρ → Ev ρ := fun id f => cond (Nat.beq id 0) (loopOrc ybz yc0 (fun n nf => cond (Nat.beq n 42) (yc4 nf) none) fun pv K => iter (fun v next => S_FitsIn_g0 k pv.1 v next (fun x => K (.exit 0) (yc6 pv.1 x)) (fun x => K .ret (yc7 pv.1 x))) k pv.2) ((fun _ _ _ _ => none) id f)
theorem yc9 {ρ : Type} (k : Nat) (p : Int × Int × Int × List Task × Int × Int × Int × Int) (v : Int) (K K1 : Ex → St → Option ρ) : ev (ybv k) (yc8 ρ k) 0 yby (yc3 (p, v)) (fun e st' => match e with
    | .normal => (normC ybz yc0 st').bind fun nf => K1 .normal (denorm ybz st'.n nf)
    | e => (normC (yc1 e) (yc2 e) st').bind fun nf => K e (denorm (yc1 e) st'.n nf)) = S_FitsIn_g0 k p v (fun v' => K1 .normal (yc3 (p, v'))) (fun x => K (.exit 0) (yc6 p x)) (fun x => K .ret (yc7 p x)) := by kernel_rfl
theorem yca {ρ : Type} (k : Nat) : Sound Try.prog (.loop yby) (yc8 ρ k 0 fun st K => ev (ybv k) (yc8 ρ k) 0 yby st K) :=
  loop_ok (ev_sound (ybw k) yby 0 (lpgood_none (by kernel_rfl))) yc1 yc2 k (g := fun p v next K => S_FitsIn_g0 k p v next (fun x => K (.exit 0) (yc6 p x)) (fun x => K .ret (yc7 p x))) (dec_at yc5) (fun p v K K1 => yc9 k p v K K1)
def ycb (a : Sched) : List Arg := [.agg [.int .i64 a.now, .int .i64 a.slack, .int .i64 a.age, .sl (.st .task) a.tasks, .int .i64 a.run, .int .i64 a.left, .int .i64 a.turns, .int .i64 a.next]]
def ycc (l : List Arg) : Option (Sched) := match l with
  | [.agg [.int .i64 b0_0, .int .i64 b0_1, .int .i64 b0_2, .sl (.st .task) b0_3, .int .i64 b0_4, .int .i64 b0_5, .int .i64 b0_6, .int .i64 b0_7]] => some (⟨b0_0, b0_1, b0_2, b0_3, b0_4, b0_5, b0_6, b0_7⟩ : Sched)
  | _ => none
def ycd (r : Bool) : Out := (.r [] (.bool r), [])
def yce (o : Out) : Option (Bool) := match o with
  | (.r [] (.bool z1), []) => some z1
  | _ => none
def ycf (k : Nat) : PG := fun _ l K => (ycc l).bind fun a => (S_FitsIn k a).bind fun r => K (ycd r)
theorem ycg (k : Nat) (a : Sched) : ev (ybv k) (yc8 (Bool) k) 0 ybx (st0 Try.f44 (ycb a)) (fin Try.prog Try.f44 (.sc) yce) = S_FitsIn k a := by kernel_rfl
theorem ych (k : Nat) : PureOk Try.prog 44 (ycf k) :=
  pureOk_of_ev (ybw k) Try.func44 (by kernel_rfl) (by kernel_rfl) ycb ycc
    (fun l a h => by unfold ycc at h; split at h <;> first | (cases h; rfl) | cases h) (fun a => rfl) (lpgood_of (l := [(0, yby)]) (by kernel_rfl) ⟨yca k, trivial⟩)
    (fun o r h => by unfold yce at h; split at h <;> first | (cases h; rfl) | cases h) (ycg k)
def yci (k : Nat) : Orc := pureOrc [.agg [(.int .i64), (.int .i64), (.int .i64), (.sl (.st .task)), (.int .i64), (.int .i64), (.int .i64), (.int .i64)]] (ycf k)
theorem ycj (k : Nat) : OrcOk Try.prog 44 (yci k) := pureOrc_ok (ych k)
noncomputable def yck (k : Nat) : Env := { P := Try.prog, tt := tt, orc := fun g => cond (Nat.beq g 41) (y7n k) (cond (Nat.beq g 44) (yci k) (cond (Nat.beq g 112) (y9g k) (cond (Nat.beq g 113) (y8q k) (cond (Nat.beq g 114) (y67 k) (noOrc))))) }
theorem ycl (k : Nat) : EnvOk (yck k) := fun g => (orc_cond (y7o k) (orc_cond (ycj k) (orc_cond (y9h k) (orc_cond (y8r k) (orc_cond (y68 k) (noOrc_ok _ _))))))
noncomputable def ycm : Code := (Try.f31.body).getD .skip
def ycn (ρ : Type) (k : Nat) : Nat → Ev ρ → Ev ρ := fun _ _ _ _ => none
def yco (a : Sched × List Int × Int) : List Arg := [.agg [.int .i64 a.1.now, .int .i64 a.1.slack, .int .i64 a.1.age, .sl (.st .task) a.1.tasks, .int .i64 a.1.run, .int .i64 a.1.left, .int .i64 a.1.turns, .int .i64 a.1.next], .one (.sl (.int .i64) a.2.1), .one (.int .i64 a.2.2)]
def ycp (l : List Arg) : Option (Sched × List Int × Int) := match l with
  | [.agg [.int .i64 b0_0, .int .i64 b0_1, .int .i64 b0_2, .sl (.st .task) b0_3, .int .i64 b0_4, .int .i64 b0_5, .int .i64 b0_6, .int .i64 b0_7], .one (.sl (.int .i64) b1), .one (.int .i64 b2)] => some ((⟨b0_0, b0_1, b0_2, b0_3, b0_4, b0_5, b0_6, b0_7⟩ : Sched), b1, b2)
  | _ => none
def ycq (r : Sched × Int × Int) : Out := (.tup [.agg [.r [] (.int .i64 r.1.now), .r [] (.int .i64 r.1.slack), .r [] (.int .i64 r.1.age), .own 0, .r [] (.int .i64 r.1.run), .r [] (.int .i64 r.1.left), .r [] (.int .i64 r.1.turns), .r [] (.int .i64 r.1.next)], .r [] (.int .i64 r.2.1), .r [] (.int .i64 r.2.2)], [.arr none (.st .task) r.1.tasks])
def ycr (o : Out) : Option (Sched × Int × Int) := match o with
  | (.tup [.agg [.r [] (.int .i64 z1), .r [] (.int .i64 z2), .r [] (.int .i64 z3), .own 0, .r [] (.int .i64 z5), .r [] (.int .i64 z6), .r [] (.int .i64 z7), .r [] (.int .i64 z8)], .r [] (.int .i64 z9), .r [] (.int .i64 z10)], [.arr none (.st .task) z4]) => some ((⟨z1, z2, z3, z4, z5, z6, z7, z8⟩ : Sched), z9, z10)
  | _ => none
def ycs (k : Nat) : PG := fun _ l K => (ycp l).bind fun a => (S_Admit k a.1 a.2.1 a.2.2).bind fun r => K (ycq r)
theorem yct (k : Nat) (a : Sched × List Int × Int) : ev (yck k) (ycn (Sched × Int × Int) k) 0 ycm (st0 Try.f31 (yco a)) (fin Try.prog Try.f31 (.tup [.agg [.sc, .sc, .sc, .own (.st .task), .sc, .sc, .sc, .sc], .sc, .sc]) ycr) = S_Admit k a.1 a.2.1 a.2.2 := by kernel_rfl
theorem ycu (k : Nat) : PureOk Try.prog 31 (ycs k) :=
  pureOk_of_ev (ycl k) Try.func31 (by kernel_rfl) (by kernel_rfl) yco ycp
    (fun l a h => by unfold ycp at h; split at h <;> first | (cases h; rfl) | cases h) (fun a => rfl) (lpgood_none (by kernel_rfl))
    (fun o r h => by unfold ycr at h; split at h <;> first | (cases h; rfl) | cases h) (yct k)
def ycv (k : Nat) : Orc := pureOrc [.agg [(.int .i64), (.int .i64), (.int .i64), (.sl (.st .task)), (.int .i64), (.int .i64), (.int .i64), (.int .i64)], .one (.sl (.int .i64)), .one (.int .i64)] (ycs k)
theorem ycw (k : Nat) : OrcOk Try.prog 31 (ycv k) := pureOrc_ok (ycu k)
noncomputable def ycx (k : Nat) : Env := { P := Try.prog, tt := ttTask, orc := fun g => noOrc }
theorem ycy (k : Nat) : EnvOk (ycx k) := fun g => (noOrc_ok _ _)
noncomputable def ycz : Code := (Try.f194.body).getD .skip
noncomputable def yd0 : Code := ((loopsIn 0 ycz).getD 0 (0, .skip)).2
def yd1 : List Nat := [0, 1, 4, 5]
def yd2 : List (Where × Co) := []
def yd3 : Ex → List Nat
  | .exit j => cond (Nat.beq j 0) [0, 4] []
  | .ret => []
  | .normal => []
def yd4 : Ex → List (Where × Co)
  | .exit j => cond (Nat.beq j 0) [] []
  | .ret => []
  | .normal => []
def yd5 (pv : (Int × Int × Int × Int × Int × Int × Int × Int × List TaskK) × (Int × List TaskK)) : St := { slots := [(0, .ptr 0 0 0), (1, .r [] (.int .i64 pv.1.1)), (4, .own 1), (5, .r [] (.int .i64 pv.2.1))], heap := [(0, .box [.r [] (.int .i64 pv.1.2.1), .r [] (.int .i64 pv.1.2.2.1), .r [] (.int .i64 pv.1.2.2.2.1), .own 2, .r [] (.int .i64 pv.1.2.2.2.2.1), .r [] (.int .i64 pv.1.2.2.2.2.2.1), .r [] (.int .i64 pv.1.2.2.2.2.2.2.1), .r [] (.int .i64 pv.1.2.2.2.2.2.2.2.1)]), (1, .arr none (.st .taskK) pv.2.2), (2, .arr none (.st .taskK) pv.1.2.2.2.2.2.2.2.2)], nid := 3, n := 40, gh := [some 0, some 2] }
def yd6 (nf : NF) : Option ((Int × Int × Int × Int × Int × Int × Int × Int × List TaskK) × (Int × List TaskK)) := match nf with
  | ([.ptr 0 0 0, .r [] (.int .i64 w0), .own 1, .r [] (.int .i64 w1)], [.box [.r [] (.int .i64 w2), .r [] (.int .i64 w3), .r [] (.int .i64 w4), .own 2, .r [] (.int .i64 w5), .r [] (.int .i64 w6), .r [] (.int .i64 w7), .r [] (.int .i64 w8)], .arr none (.st .taskK) w9, .arr none (.st .taskK) w10], [some 0, some 2]) => some ((w0, w2, w3, w4, w5, w6, w7, w8, w10), (w1, w9))
  | _ => none
theorem yd7 (nf : NF) (v : (Int × Int × Int × Int × Int × Int × Int × Int × List TaskK) × (Int × List TaskK)) (h : yd6 nf = some v) : denorm yd1 40 nf = yd5 v := by
  unfold yd6 at h
  split at h
  · cases h; rfl
  · cases h
def yd8 (p : Int × Int × Int × Int × Int × Int × Int × Int × List TaskK) (x : List TaskK) : St := { slots := [(0, .ptr 0 0 0), (4, .own 1)], heap := [(0, .box [.r [] (.int .i64 p.2.1), .r [] (.int .i64 p.2.2.1), .r [] (.int .i64 p.2.2.2.1), .own 2, .r [] (.int .i64 p.2.2.2.2.1), .r [] (.int .i64 p.2.2.2.2.2.1), .r [] (.int .i64 p.2.2.2.2.2.2.1), .r [] (.int .i64 p.2.2.2.2.2.2.2.1)]), (1, .arr none (.st .taskK) x), (2, .arr none (.st .taskK) p.2.2.2.2.2.2.2.2)], nid := 3, n := 40, gh := [some 0, some 2] }
def yd9 (ρ : Type) (k : Nat) : Nat → Ev ρ → Ev ρ := fun id f => cond (Nat.beq id 0) (loopOrc yd1 yd2 (fun n nf => cond (Nat.beq n 40) (yd6 nf) none) fun pv K => iter (fun v next => S_l07Off_m3_g0 k pv.1 v next (fun x => K (.exit 0) (yd8 pv.1 x))) k pv.2) ((fun _ _ _ _ => none) id f)
theorem yda {ρ : Type} (k : Nat) (p : Int × Int × Int × Int × Int × Int × Int × Int × List TaskK) (v : Int × List TaskK) (K K1 : Ex → St → Option ρ) : ev (ycx k) (yd9 ρ k) 0 yd0 (yd5 (p, v)) (fun e st' => match e with
    | .normal => (normC yd1 yd2 st').bind fun nf => K1 .normal (denorm yd1 st'.n nf)
    | e => (normC (yd3 e) (yd4 e) st').bind fun nf => K e (denorm (yd3 e) st'.n nf)) = S_l07Off_m3_g0 k p v (fun v' => K1 .normal (yd5 (p, v'))) (fun x => K (.exit 0) (yd8 p x)) := by kernel_rfl
theorem ydb {ρ : Type} (k : Nat) : Sound Try.prog (.loop yd0) (yd9 ρ k 0 fun st K => ev (ycx k) (yd9 ρ k) 0 yd0 st K) :=
  loop_ok (ev_sound (ycy k) yd0 0 (lpgood_none (by kernel_rfl))) yd3 yd4 k (g := fun p v next K => S_l07Off_m3_g0 k p v next (fun x => K (.exit 0) (yd8 p x))) (dec_at yd7) (fun p v K K1 => yda k p v K K1)
def ydc (a : Int × Int × Int × List TaskK × Int × Int × Int × Int × Int) : List SV := [.ptr 0 0 0, .r [] (.int .i64 a.2.2.2.2.2.2.2.2)]
def ydd (a : Int × Int × Int × List TaskK × Int × Int × Int × Int × Int) : List Blk := [.box [.r [] (.int .i64 a.1), .r [] (.int .i64 a.2.1), .r [] (.int .i64 a.2.2.1), .own 1, .r [] (.int .i64 a.2.2.2.2.1), .r [] (.int .i64 a.2.2.2.2.2.1), .r [] (.int .i64 a.2.2.2.2.2.2.1), .r [] (.int .i64 a.2.2.2.2.2.2.2.1)], .arr none (.st .taskK) a.2.2.2.1]
def yde (l : List SV) (b : List Blk) : Option (Int × Int × Int × List TaskK × Int × Int × Int × Int × Int) := match l, b with
  | [.ptr 0 0 0, .r [] (.int .i64 w0)], [.box [.r [] (.int .i64 w1), .r [] (.int .i64 w2), .r [] (.int .i64 w3), .own 1, .r [] (.int .i64 w4), .r [] (.int .i64 w5), .r [] (.int .i64 w6), .r [] (.int .i64 w7)], .arr none (.st .taskK) w8] => some (w1, w2, w3, w8, w4, w5, w6, w7, w0)
  | _, _ => none
def ydf (a : Int × Int × Int × List TaskK × Int × Int × Int × Int × Int) (r : List TaskK) : MOut := ⟨.tup [], [some (.box [.r [] (.int .i64 a.1), .r [] (.int .i64 a.2.1), .r [] (.int .i64 a.2.2.1), .own 2, .r [] (.int .i64 a.2.2.2.2.1), .r [] (.int .i64 a.2.2.2.2.2.1), .r [] (.int .i64 a.2.2.2.2.2.2.1), .r [] (.int .i64 a.2.2.2.2.2.2.2.1)]), none], [.arr none (.st .taskK) r]⟩
def ydg (a : Int × Int × Int × List TaskK × Int × Int × Int × Int × Int) (o : MOut) : Option (List TaskK) := match o with
  | ⟨.tup [], [some (.box [.r [] (.int .i64 z1), .r [] (.int .i64 z2), .r [] (.int .i64 z3), .own 2, .r [] (.int .i64 z4), .r [] (.int .i64 z5), .r [] (.int .i64 z6), .r [] (.int .i64 z7)]), none], [.arr none (.st .taskK) z8]⟩ => cond (@sameL Int _ z1 a.1) (cond (@sameL Int _ z2 a.2.1) (cond (@sameL Int _ z3 a.2.2.1) (cond (@sameL Int _ z4 a.2.2.2.2.1) (cond (@sameL Int _ z5 a.2.2.2.2.2.1) (cond (@sameL Int _ z6 a.2.2.2.2.2.2.1) (cond (@sameL Int _ z7 a.2.2.2.2.2.2.2.1) (some z8) none) none) none) none) none) none) none
  | _ => none
def ydh (k : Nat) : MG := fun _ l b K => (yde l b).bind fun a => (S_l07Off_m3 k a.1 a.2.1 a.2.2.1 a.2.2.2.1 a.2.2.2.2.1 a.2.2.2.2.2.1 a.2.2.2.2.2.2.1 a.2.2.2.2.2.2.2.1 a.2.2.2.2.2.2.2.2).bind fun r => K (ydf a r)
theorem ydi (k : Nat) (a : Int × Int × Int × List TaskK × Int × Int × Int × Int × Int) : ev (ycx k) (yd9 (List TaskK) k) 0 ycz (st0M Try.f194 (ydc a) (ydd a)) (finM Try.prog Try.f194 (.tup []) [.box [.sc, .sc, .sc, .own (.st .taskK), .sc, .sc, .sc, .sc], .gone] (ydg a)) = S_l07Off_m3 k a.1 a.2.1 a.2.2.1 a.2.2.2.1 a.2.2.2.2.1 a.2.2.2.2.2.1 a.2.2.2.2.2.2.1 a.2.2.2.2.2.2.2.1 a.2.2.2.2.2.2.2.2 := by kernel_rfl
theorem ydj (k : Nat) : MutOk Try.prog 194 (ydh k) :=
  mutOk_of_ev (ycy k) Try.func194 (by kernel_rfl) (by kernel_rfl) ydc ydd yde
    (fun l b a h => by unfold yde at h; split at h <;> first | (cases h; exact ⟨rfl, rfl⟩) | cases h) (fun a => rfl) (lpgood_of (l := [(0, yd0)]) (by kernel_rfl) ⟨ydb k, trivial⟩) (fun a r => rfl)
    (fun a o r h => by unfold ydg at h; split at h <;> first | (obtain ⟨e0, e1, e2, e3, e4, e5, e6, hq⟩ := dec_chk7 h; clear h; subst e0; subst e1; subst e2; subst e3; subst e4; subst e5; subst e6; have h := hq; clear hq; cases h; rfl) | cases h) (ydi k)
noncomputable def ydk (k : Nat) : Env := { P := Try.prog, tt := tt, orc := fun g => cond (Nat.beq g 41) (y7n k) (cond (Nat.beq g 112) (y9g k) (cond (Nat.beq g 137) (y6w k) (cond (Nat.beq g 194) (mutOrc [.keep, .one (.int .i64)] (numG .task .taskK 1 (ydh k))) (noOrc)))), wr := fun g => mem g [194], wt := true }
theorem ydl (k : Nat) : EnvOk (ydk k) := fun g => (orc_cond (y7o k) (orc_cond (y9h k) (orc_cond (y6x k) (orc_cond (mutOrc_ok (numOk (s := .task) (s' := .taskK) rfl rfl rfl 1 (fun _ _ _ _ => by simp only [ydh, Option.bind_assoc, Option.bind_some]) (fun T => @ydj T k))) (noOrc_ok _ _)))))
noncomputable def ydm : Code := (Try.f128.body).getD .skip
def ydn (ρ : Type) (k : Nat) : Nat → Ev ρ → Ev ρ := fun _ _ _ _ => none
def ydo (a : Sched × Int) : List Arg := [.agg [.int .i64 a.1.now, .int .i64 a.1.slack, .int .i64 a.1.age, .sl (.st .task) a.1.tasks, .int .i64 a.1.run, .int .i64 a.1.left, .int .i64 a.1.turns, .int .i64 a.1.next], .one (.int .i64 a.2)]
def ydp (l : List Arg) : Option (Sched × Int) := match l with
  | [.agg [.int .i64 b0_0, .int .i64 b0_1, .int .i64 b0_2, .sl (.st .task) b0_3, .int .i64 b0_4, .int .i64 b0_5, .int .i64 b0_6, .int .i64 b0_7], .one (.int .i64 b1)] => some ((⟨b0_0, b0_1, b0_2, b0_3, b0_4, b0_5, b0_6, b0_7⟩ : Sched), b1)
  | _ => none
def ydq (r : Sched × Bool) : Out := (.tup [.agg [.r [] (.int .i64 r.1.now), .r [] (.int .i64 r.1.slack), .r [] (.int .i64 r.1.age), .own 0, .r [] (.int .i64 r.1.run), .r [] (.int .i64 r.1.left), .r [] (.int .i64 r.1.turns), .r [] (.int .i64 r.1.next)], .r [] (.bool r.2)], [.arr none (.st .task) r.1.tasks])
def ydr (o : Out) : Option (Sched × Bool) := match o with
  | (.tup [.agg [.r [] (.int .i64 z1), .r [] (.int .i64 z2), .r [] (.int .i64 z3), .own 0, .r [] (.int .i64 z5), .r [] (.int .i64 z6), .r [] (.int .i64 z7), .r [] (.int .i64 z8)], .r [] (.bool z9)], [.arr none (.st .task) z4]) => some ((⟨z1, z2, z3, z4, z5, z6, z7, z8⟩ : Sched), z9)
  | _ => none
def yds (k : Nat) : PG := fun _ l K => (ydp l).bind fun a => (S_CancelTask k a.1 a.2).bind fun r => K (ydq r)
theorem ydt (k : Nat) (a : Sched × Int) : ev (ydk k) (ydn (Sched × Bool) k) 0 ydm (st0 Try.f128 (ydo a)) (fin Try.prog Try.f128 (.tup [.agg [.sc, .sc, .sc, .own (.st .task), .sc, .sc, .sc, .sc], .sc]) ydr) = S_CancelTask k a.1 a.2 := by kernel_rfl
theorem ydu (k : Nat) : PureOk Try.prog 128 (yds k) :=
  pureOk_of_ev (ydl k) Try.func128 (by kernel_rfl) (by kernel_rfl) ydo ydp
    (fun l a h => by unfold ydp at h; split at h <;> first | (cases h; rfl) | cases h) (fun a => rfl) (lpgood_none (by kernel_rfl))
    (fun o r h => by unfold ydr at h; split at h <;> first | (cases h; rfl) | cases h) (ydt k)
def ydv (k : Nat) : Orc := pureOrc [.agg [(.int .i64), (.int .i64), (.int .i64), (.sl (.st .task)), (.int .i64), (.int .i64), (.int .i64), (.int .i64)], .one (.int .i64)] (yds k)
theorem ydw (k : Nat) : OrcOk Try.prog 128 (ydv k) := pureOrc_ok (ydu k)
noncomputable def ydx (k : Nat) : Env := { P := Try.prog, tt := tt, orc := fun g => cond (Nat.beq g 41) (y7n k) (noOrc) }
theorem ydy (k : Nat) : EnvOk (ydx k) := fun g => (orc_cond (y7o k) (noOrc_ok _ _))
noncomputable def ydz : Code := (Try.f195.body).getD .skip
noncomputable def ye0 : Code := ((loopsIn 0 ydz).getD 0 (0, .skip)).2
def ye1 : List Nat := [1, 3, 4, 5]
def ye2 : List (Where × Co) := []
def ye3 : Ex → List Nat
  | .exit j => cond (Nat.beq j 0) [1, 3, 4] []
  | .ret => []
  | .normal => []
def ye4 : Ex → List (Where × Co)
  | .exit j => cond (Nat.beq j 0) [] []
  | .ret => []
  | .normal => []
def ye5 (pv : (Int × Int × Int × List Task × Int × Int × Int × Int) × (Int × Int × Int)) : St := { slots := [(1, .ptr 0 0 0), (3, .r [] (.int .i64 pv.2.1)), (4, .r [] (.int .i64 pv.2.2.1)), (5, .r [] (.int .i64 pv.2.2.2))], heap := [(0, .box [.r [] (.int .i64 pv.1.1), .r [] (.int .i64 pv.1.2.1), .r [] (.int .i64 pv.1.2.2.1), .r [] (.sl (.st .task) pv.1.2.2.2.1), .r [] (.int .i64 pv.1.2.2.2.2.1), .r [] (.int .i64 pv.1.2.2.2.2.2.1), .r [] (.int .i64 pv.1.2.2.2.2.2.2.1), .r [] (.int .i64 pv.1.2.2.2.2.2.2.2)])], nid := 1, n := 88, gh := [] }
def ye6 (nf : NF) : Option ((Int × Int × Int × List Task × Int × Int × Int × Int) × (Int × Int × Int)) := match nf with
  | ([.ptr 0 0 0, .r [] (.int .i64 w0), .r [] (.int .i64 w1), .r [] (.int .i64 w2)], [.box [.r [] (.int .i64 w3), .r [] (.int .i64 w4), .r [] (.int .i64 w5), .r [] (.sl (.st .task) w6), .r [] (.int .i64 w7), .r [] (.int .i64 w8), .r [] (.int .i64 w9), .r [] (.int .i64 w10)]], []) => some ((w3, w4, w5, w6, w7, w8, w9, w10), (w0, w1, w2))
  | _ => none
theorem ye7 (nf : NF) (v : (Int × Int × Int × List Task × Int × Int × Int × Int) × (Int × Int × Int)) (h : ye6 nf = some v) : denorm ye1 88 nf = ye5 v := by
  unfold ye6 at h
  split at h
  · cases h; rfl
  · cases h
def ye8 (p : Int × Int × Int × List Task × Int × Int × Int × Int) (x : Int × Int) : St := { slots := [(1, .ptr 0 0 0), (3, .r [] (.int .i64 x.1)), (4, .r [] (.int .i64 x.2))], heap := [(0, .box [.r [] (.int .i64 p.1), .r [] (.int .i64 p.2.1), .r [] (.int .i64 p.2.2.1), .r [] (.sl (.st .task) p.2.2.2.1), .r [] (.int .i64 p.2.2.2.2.1), .r [] (.int .i64 p.2.2.2.2.2.1), .r [] (.int .i64 p.2.2.2.2.2.2.1), .r [] (.int .i64 p.2.2.2.2.2.2.2)])], nid := 1, n := 88, gh := [] }
def ye9 (ρ : Type) (k : Nat) : Nat → Ev ρ → Ev ρ := fun id f => cond (Nat.beq id 0) (loopOrc ye1 ye2 (fun n nf => cond (Nat.beq n 88) (ye6 nf) none) fun pv K => iter (fun v next => S_PickNext_g0 k pv.1 v next (fun x => K (.exit 0) (ye8 pv.1 x))) k pv.2) ((fun _ _ _ _ => none) id f)
theorem yea {ρ : Type} (k : Nat) (p : Int × Int × Int × List Task × Int × Int × Int × Int) (v : Int × Int × Int) (K K1 : Ex → St → Option ρ) : ev (ydx k) (ye9 ρ k) 0 ye0 (ye5 (p, v)) (fun e st' => match e with
    | .normal => (normC ye1 ye2 st').bind fun nf => K1 .normal (denorm ye1 st'.n nf)
    | e => (normC (ye3 e) (ye4 e) st').bind fun nf => K e (denorm (ye3 e) st'.n nf)) = S_PickNext_g0 k p v (fun v' => K1 .normal (ye5 (p, v'))) (fun x => K (.exit 0) (ye8 p x)) := by kernel_rfl
theorem yeb {ρ : Type} (k : Nat) : Sound Try.prog (.loop ye0) (ye9 ρ k 0 fun st K => ev (ydx k) (ye9 ρ k) 0 ye0 st K) :=
  loop_ok (ev_sound (ydy k) ye0 0 (lpgood_none (by kernel_rfl))) ye3 ye4 k (g := fun p v next K => S_PickNext_g0 k p v next (fun x => K (.exit 0) (ye8 p x))) (dec_at ye7) (fun p v K K1 => yea k p v K K1)
def yec (a : Sched) : List Arg := [.agg [.int .i64 a.now, .int .i64 a.slack, .int .i64 a.age, .sl (.st .task) a.tasks, .int .i64 a.run, .int .i64 a.left, .int .i64 a.turns, .int .i64 a.next]]
def yed (l : List Arg) : Option (Sched) := match l with
  | [.agg [.int .i64 b0_0, .int .i64 b0_1, .int .i64 b0_2, .sl (.st .task) b0_3, .int .i64 b0_4, .int .i64 b0_5, .int .i64 b0_6, .int .i64 b0_7]] => some (⟨b0_0, b0_1, b0_2, b0_3, b0_4, b0_5, b0_6, b0_7⟩ : Sched)
  | _ => none
def yee (r : Int) : Out := (.r [] (.int .i64 r), [])
def yef (o : Out) : Option (Int) := match o with
  | (.r [] (.int .i64 z1), []) => some z1
  | _ => none
def yeg (k : Nat) : PG := fun _ l K => (yed l).bind fun a => (S_PickNext k a).bind fun r => K (yee r)
theorem yeh (k : Nat) (a : Sched) : ev (ydx k) (ye9 (Int) k) 0 ydz (st0 Try.f195 (yec a)) (fin Try.prog Try.f195 (.sc) yef) = S_PickNext k a := by kernel_rfl
theorem yei (k : Nat) : PureOk Try.prog 195 (yeg k) :=
  pureOk_of_ev (ydy k) Try.func195 (by kernel_rfl) (by kernel_rfl) yec yed
    (fun l a h => by unfold yed at h; split at h <;> first | (cases h; rfl) | cases h) (fun a => rfl) (lpgood_of (l := [(0, ye0)]) (by kernel_rfl) ⟨yeb k, trivial⟩)
    (fun o r h => by unfold yef at h; split at h <;> first | (cases h; rfl) | cases h) (yeh k)
def yej (k : Nat) : Orc := pureOrc [.agg [(.int .i64), (.int .i64), (.int .i64), (.sl (.st .task)), (.int .i64), (.int .i64), (.int .i64), (.int .i64)]] (yeg k)
theorem yek (k : Nat) : OrcOk Try.prog 195 (yej k) := pureOrc_ok (yei k)
noncomputable def yel (k : Nat) : Env := { P := Try.prog, tt := tt, orc := fun g => cond (Nat.beq g 41) (y7n k) (cond (Nat.beq g 112) (y9g k) (cond (Nat.beq g 137) (y6w k) (cond (Nat.beq g 194) (mutOrc [.keep, .one (.int .i64)] (numG .task .taskK 1 (ydh k))) (cond (Nat.beq g 195) (yej k) (noOrc))))), wr := fun g => mem g [194], wt := true }
theorem yem (k : Nat) : EnvOk (yel k) := fun g => (orc_cond (y7o k) (orc_cond (y9h k) (orc_cond (y6x k) (orc_cond (mutOrc_ok (numOk (s := .task) (s' := .taskK) rfl rfl rfl 1 (fun _ _ _ _ => by simp only [ydh, Option.bind_assoc, Option.bind_some]) (fun T => @ydj T k))) (orc_cond (yek k) (noOrc_ok _ _))))))
noncomputable def yen : Code := (Try.f129.body).getD .skip
def yeo (ρ : Type) (k : Nat) : Nat → Ev ρ → Ev ρ := fun _ _ _ _ => none
def yep (a : Sched × Bool) : List Arg := [.agg [.int .i64 a.1.now, .int .i64 a.1.slack, .int .i64 a.1.age, .sl (.st .task) a.1.tasks, .int .i64 a.1.run, .int .i64 a.1.left, .int .i64 a.1.turns, .int .i64 a.1.next], .one (.bool a.2)]
def yeq (l : List Arg) : Option (Sched × Bool) := match l with
  | [.agg [.int .i64 b0_0, .int .i64 b0_1, .int .i64 b0_2, .sl (.st .task) b0_3, .int .i64 b0_4, .int .i64 b0_5, .int .i64 b0_6, .int .i64 b0_7], .one (.bool b1)] => some ((⟨b0_0, b0_1, b0_2, b0_3, b0_4, b0_5, b0_6, b0_7⟩ : Sched), b1)
  | _ => none
def yer (r : Sched × Int × Bool) : Out := (.tup [.agg [.r [] (.int .i64 r.1.now), .r [] (.int .i64 r.1.slack), .r [] (.int .i64 r.1.age), .own 0, .r [] (.int .i64 r.1.run), .r [] (.int .i64 r.1.left), .r [] (.int .i64 r.1.turns), .r [] (.int .i64 r.1.next)], .r [] (.int .i64 r.2.1), .r [] (.bool r.2.2)], [.arr none (.st .task) r.1.tasks])
def yet (o : Out) : Option (Sched × Int × Bool) := match o with
  | (.tup [.agg [.r [] (.int .i64 z1), .r [] (.int .i64 z2), .r [] (.int .i64 z3), .own 0, .r [] (.int .i64 z5), .r [] (.int .i64 z6), .r [] (.int .i64 z7), .r [] (.int .i64 z8)], .r [] (.int .i64 z9), .r [] (.bool z10)], [.arr none (.st .task) z4]) => some ((⟨z1, z2, z3, z4, z5, z6, z7, z8⟩ : Sched), z9, z10)
  | _ => none
def yeu (k : Nat) : PG := fun _ l K => (yeq l).bind fun a => (S_TickSched k a.1 a.2).bind fun r => K (yer r)
theorem yev (k : Nat) (a : Sched × Bool) : ev (yel k) (yeo (Sched × Int × Bool) k) 0 yen (st0 Try.f129 (yep a)) (fin Try.prog Try.f129 (.tup [.agg [.sc, .sc, .sc, .own (.st .task), .sc, .sc, .sc, .sc], .sc, .sc]) yet) = S_TickSched k a.1 a.2 := by kernel_rfl
theorem yew (k : Nat) : PureOk Try.prog 129 (yeu k) :=
  pureOk_of_ev (yem k) Try.func129 (by kernel_rfl) (by kernel_rfl) yep yeq
    (fun l a h => by unfold yeq at h; split at h <;> first | (cases h; rfl) | cases h) (fun a => rfl) (lpgood_none (by kernel_rfl))
    (fun o r h => by unfold yet at h; split at h <;> first | (cases h; rfl) | cases h) (yev k)
def yex (k : Nat) : Orc := pureOrc [.agg [(.int .i64), (.int .i64), (.int .i64), (.sl (.st .task)), (.int .i64), (.int .i64), (.int .i64), (.int .i64)], .one .bool] (yeu k)
theorem yey (k : Nat) : OrcOk Try.prog 129 (yex k) := pureOrc_ok (yew k)
noncomputable def yez (k : Nat) : Env := { P := Try.prog, tt := tt, orc := fun g => cond (Nat.beq g 31) (ycv k) (cond (Nat.beq g 127) (y80 k) (cond (Nat.beq g 128) (ydv k) (cond (Nat.beq g 129) (yex k) (noOrc)))) }
theorem yf0 (k : Nat) : EnvOk (yez k) := fun g => (orc_cond (ycw k) (orc_cond (y81 k) (orc_cond (ydw k) (orc_cond (yey k) (noOrc_ok _ _)))))
noncomputable def yf1 : Code := (Try.f37.body).getD .skip
noncomputable def yf2 : Code := ((loopsIn 0 yf1).getD 0 (0, .skip)).2
def yf3 : List Nat := [2, 6, 8, 10, 11]
def yf4 : List (Where × Co) := []
def yf5 : Ex → List Nat
  | .exit j => cond (Nat.beq j 0) [6, 8, 10] []
  | .ret => []
  | .normal => []
def yf6 : Ex → List (Where × Co)
  | .exit j => cond (Nat.beq j 0) [] []
  | .ret => []
  | .normal => []
def yf7 (pv : (List (List Int) × Int × Int × Int × Int × Int × Int × Int) × (Int × Int × Int × Int × Int × Int × Int × Int × List Int × List Task)) : St := { slots := [(2, .r [] (.sl (.sl (.int .i64)) pv.1.1)), (6, .ptr 0 0 0), (8, .ptr 1 0 0), (10, .own 2), (11, .r [] (.int .i64 pv.2.1))], heap := [(0, .box [.r [] (.int .i64 pv.1.2.1), .r [] (.int .i64 pv.1.2.2.1), .r [] (.int .i64 pv.1.2.2.2.1), .nilS, .r [] (.int .i64 pv.1.2.2.2.2.1), .r [] (.int .i64 pv.1.2.2.2.2.2.1), .r [] (.int .i64 pv.1.2.2.2.2.2.2.1), .r [] (.int .i64 pv.1.2.2.2.2.2.2.2)]), (1, .box [.r [] (.int .i64 pv.2.2.1), .r [] (.int .i64 pv.2.2.2.1), .r [] (.int .i64 pv.2.2.2.2.1), .own 3, .r [] (.int .i64 pv.2.2.2.2.2.1), .r [] (.int .i64 pv.2.2.2.2.2.2.1), .r [] (.int .i64 pv.2.2.2.2.2.2.2.1), .r [] (.int .i64 pv.2.2.2.2.2.2.2.2.1)]), (2, .arr none (.int .i64) pv.2.2.2.2.2.2.2.2.2.1), (3, .arr none (.st .task) pv.2.2.2.2.2.2.2.2.2.2)], nid := 4, n := 107, gh := [] }
def yf8 (nf : NF) : Option ((List (List Int) × Int × Int × Int × Int × Int × Int × Int) × (Int × Int × Int × Int × Int × Int × Int × Int × List Int × List Task)) := match nf with
  | ([.r [] (.sl (.sl (.int .i64)) w0), .ptr 0 0 0, .ptr 1 0 0, .own 2, .r [] (.int .i64 w1)], [.box [.r [] (.int .i64 w2), .r [] (.int .i64 w3), .r [] (.int .i64 w4), .nilS, .r [] (.int .i64 w5), .r [] (.int .i64 w6), .r [] (.int .i64 w7), .r [] (.int .i64 w8)], .box [.r [] (.int .i64 w9), .r [] (.int .i64 w10), .r [] (.int .i64 w11), .own 3, .r [] (.int .i64 w12), .r [] (.int .i64 w13), .r [] (.int .i64 w14), .r [] (.int .i64 w15)], .arr none (.int .i64) w16, .arr none (.st .task) w17], []) => some ((w0, w2, w3, w4, w5, w6, w7, w8), (w1, w9, w10, w11, w12, w13, w14, w15, w16, w17))
  | _ => none
theorem yf9 (nf : NF) (v : (List (List Int) × Int × Int × Int × Int × Int × Int × Int) × (Int × Int × Int × Int × Int × Int × Int × Int × List Int × List Task)) (h : yf8 nf = some v) : denorm yf3 107 nf = yf7 v := by
  unfold yf8 at h
  split at h
  · cases h; rfl
  · cases h
def yfa (p : List (List Int) × Int × Int × Int × Int × Int × Int × Int) (x : Int × Int × Int × Int × Int × Int × Int × List Int × List Task) : St := { slots := [(6, .ptr 0 0 0), (8, .ptr 1 0 0), (10, .own 2)], heap := [(0, .box [.r [] (.int .i64 p.2.1), .r [] (.int .i64 p.2.2.1), .r [] (.int .i64 p.2.2.2.1), .nilS, .r [] (.int .i64 p.2.2.2.2.1), .r [] (.int .i64 p.2.2.2.2.2.1), .r [] (.int .i64 p.2.2.2.2.2.2.1), .r [] (.int .i64 p.2.2.2.2.2.2.2)]), (1, .box [.r [] (.int .i64 x.1), .r [] (.int .i64 x.2.1), .r [] (.int .i64 x.2.2.1), .own 3, .r [] (.int .i64 x.2.2.2.1), .r [] (.int .i64 x.2.2.2.2.1), .r [] (.int .i64 x.2.2.2.2.2.1), .r [] (.int .i64 x.2.2.2.2.2.2.1)]), (2, .arr none (.int .i64) x.2.2.2.2.2.2.2.1), (3, .arr none (.st .task) x.2.2.2.2.2.2.2.2)], nid := 4, n := 107, gh := [] }
def yfb (ρ : Type) (k : Nat) : Nat → Ev ρ → Ev ρ := fun id f => cond (Nat.beq id 0) (loopOrc yf3 yf4 (fun n nf => cond (Nat.beq n 107) (yf8 nf) none) fun pv K => iter (fun v next => S_PlaySched_g0 k pv.1 v next (fun x => K (.exit 0) (yfa pv.1 x))) k pv.2) ((fun _ _ _ _ => none) id f)
theorem yfc {ρ : Type} (k : Nat) (p : List (List Int) × Int × Int × Int × Int × Int × Int × Int) (v : Int × Int × Int × Int × Int × Int × Int × Int × List Int × List Task) (K K1 : Ex → St → Option ρ) : ev (yez k) (yfb ρ k) 0 yf2 (yf7 (p, v)) (fun e st' => match e with
    | .normal => (normC yf3 yf4 st').bind fun nf => K1 .normal (denorm yf3 st'.n nf)
    | e => (normC (yf5 e) (yf6 e) st').bind fun nf => K e (denorm (yf5 e) st'.n nf)) = S_PlaySched_g0 k p v (fun v' => K1 .normal (yf7 (p, v'))) (fun x => K (.exit 0) (yfa p x)) := by kernel_rfl
theorem yfd {ρ : Type} (k : Nat) : Sound Try.prog (.loop yf2) (yfb ρ k 0 fun st K => ev (yez k) (yfb ρ k) 0 yf2 st K) :=
  loop_ok (ev_sound (yf0 k) yf2 0 (lpgood_none (by kernel_rfl))) yf5 yf6 k (g := fun p v next K => S_PlaySched_g0 k p v next (fun x => K (.exit 0) (yfa p x))) (dec_at yf9) (fun p v K K1 => yfc k p v K K1)
def yfe (a : Int × Int × List (List Int)) : List Arg := [.one (.int .i64 a.1), .one (.int .i64 a.2.1), .one (.sl (.sl (.int .i64)) a.2.2)]
def yff (l : List Arg) : Option (Int × Int × List (List Int)) := match l with
  | [.one (.int .i64 b0), .one (.int .i64 b1), .one (.sl (.sl (.int .i64)) b2)] => some (b0, b1, b2)
  | _ => none
def yfg (r : Sched × List Int) : Out := (.tup [.agg [.r [] (.int .i64 r.1.now), .r [] (.int .i64 r.1.slack), .r [] (.int .i64 r.1.age), .own 0, .r [] (.int .i64 r.1.run), .r [] (.int .i64 r.1.left), .r [] (.int .i64 r.1.turns), .r [] (.int .i64 r.1.next)], .own 1], [.arr none (.st .task) r.1.tasks, .arr none (.int .i64) r.2])
def yfh (o : Out) : Option (Sched × List Int) := match o with
  | (.tup [.agg [.r [] (.int .i64 z1), .r [] (.int .i64 z2), .r [] (.int .i64 z3), .own 0, .r [] (.int .i64 z5), .r [] (.int .i64 z6), .r [] (.int .i64 z7), .r [] (.int .i64 z8)], .own 1], [.arr none (.st .task) z4, .arr none (.int .i64) z9]) => some ((⟨z1, z2, z3, z4, z5, z6, z7, z8⟩ : Sched), z9)
  | _ => none
def yfi (k : Nat) : PG := fun _ l K => (yff l).bind fun a => (S_PlaySched k a.1 a.2.1 a.2.2).bind fun r => K (yfg r)
theorem yfj (k : Nat) (a : Int × Int × List (List Int)) : ev (yez k) (yfb (Sched × List Int) k) 0 yf1 (st0 Try.f37 (yfe a)) (fin Try.prog Try.f37 (.tup [.agg [.sc, .sc, .sc, .own (.st .task), .sc, .sc, .sc, .sc], .own (.int .i64)]) yfh) = S_PlaySched k a.1 a.2.1 a.2.2 := by kernel_rfl
theorem yfk (k : Nat) : PureOk Try.prog 37 (yfi k) :=
  pureOk_of_ev (yf0 k) Try.func37 (by kernel_rfl) (by kernel_rfl) yfe yff
    (fun l a h => by unfold yff at h; split at h <;> first | (cases h; rfl) | cases h) (fun a => rfl) (lpgood_of (l := [(0, yf2)]) (by kernel_rfl) ⟨yfd k, trivial⟩)
    (fun o r h => by unfold yfh at h; split at h <;> first | (cases h; rfl) | cases h) (yfj k)
def yfl (k : Nat) : Orc := pureOrc [.one (.int .i64), .one (.int .i64), .one (.sl (.sl (.int .i64)))] (yfi k)
theorem yfm (k : Nat) : OrcOk Try.prog 37 (yfl k) := pureOrc_ok (yfk k)
noncomputable def yfn (k : Nat) : Env := { P := Try.prog, tt := tt, orc := fun g => cond (Nat.beq g 31) (ycv k) (cond (Nat.beq g 37) (yfl k) (cond (Nat.beq g 109) (y2r k) (cond (Nat.beq g 110) (y3m k) (cond (Nat.beq g 111) (y38 k) (cond (Nat.beq g 126) (y4p k) (cond (Nat.beq g 129) (yex k) (noOrc))))))), wr := fun g => mem g [109, 110, 111, 126], wt := true }
theorem yfo (k : Nat) : EnvOk (yfn k) := fun g => (orc_cond (ycw k) (orc_cond (yfm k) (orc_cond (y2s k) (orc_cond (y3n k) (orc_cond (y39 k) (orc_cond (y4q k) (orc_cond (yey k) (noOrc_ok _ _))))))))
noncomputable def yfp : Code := (Try.f189.body).getD .skip
noncomputable def yfq : Code := ((loopsIn 0 yfp).getD 0 (0, .skip)).2
noncomputable def yfr : Code := ((loopsIn 0 yfp).getD 1 (0, .skip)).2
def yfs : List Nat := [0, 4, 5, 7]
def yft : List (Where × Co) := []
def yfu : Ex → List Nat
  | .exit j => cond (Nat.beq j 0) [0, 4, 5] []
  | .ret => []
  | .normal => []
def yfv : Ex → List (Where × Co)
  | .exit j => cond (Nat.beq j 0) [] []
  | .ret => []
  | .normal => []
def yfw (pv : (List Int × Int × Int × Int × Int × Int × Int × Int × Int × Int) × (Int × Int × Int × Int × Int × Int × Int × Int × List Task)) : St := { slots := [(0, .ptr 0 0 0), (4, .ptr 1 0 0), (5, .ptr 2 0 0), (7, .r [] (.int .i64 pv.2.1))], heap := [(0, .box [.r [] (.sl (.int .u8) pv.1.1), .r [] (.int .i64 pv.1.2.1), .r [] (.int .i64 pv.1.2.2.1)]), (1, .box [.r [] (.int .i64 pv.1.2.2.2.1), .r [] (.int .i64 pv.1.2.2.2.2.1), .r [] (.int .i64 pv.1.2.2.2.2.2.1), .nilS, .r [] (.int .i64 pv.1.2.2.2.2.2.2.1), .r [] (.int .i64 pv.1.2.2.2.2.2.2.2.1), .r [] (.int .i64 pv.1.2.2.2.2.2.2.2.2.1), .r [] (.int .i64 pv.1.2.2.2.2.2.2.2.2.2)]), (2, .box [.r [] (.int .i64 pv.2.2.1), .r [] (.int .i64 pv.2.2.2.1), .r [] (.int .i64 pv.2.2.2.2.1), .own 3, .r [] (.int .i64 pv.2.2.2.2.2.1), .r [] (.int .i64 pv.2.2.2.2.2.2.1), .r [] (.int .i64 pv.2.2.2.2.2.2.2.1), .r [] (.int .i64 pv.2.2.2.2.2.2.2.2.1)]), (3, .arr none (.st .task) pv.2.2.2.2.2.2.2.2.2)], nid := 4, n := 103, gh := [some 0] }
def yfx (nf : NF) : Option ((List Int × Int × Int × Int × Int × Int × Int × Int × Int × Int) × (Int × Int × Int × Int × Int × Int × Int × Int × List Task)) := match nf with
  | ([.ptr 0 0 0, .ptr 1 0 0, .ptr 2 0 0, .r [] (.int .i64 w0)], [.box [.r [] (.sl (.int .u8) w1), .r [] (.int .i64 w2), .r [] (.int .i64 w3)], .box [.r [] (.int .i64 w4), .r [] (.int .i64 w5), .r [] (.int .i64 w6), .nilS, .r [] (.int .i64 w7), .r [] (.int .i64 w8), .r [] (.int .i64 w9), .r [] (.int .i64 w10)], .box [.r [] (.int .i64 w11), .r [] (.int .i64 w12), .r [] (.int .i64 w13), .own 3, .r [] (.int .i64 w14), .r [] (.int .i64 w15), .r [] (.int .i64 w16), .r [] (.int .i64 w17)], .arr none (.st .task) w18], [some 0]) => some ((w1, w2, w3, w4, w5, w6, w7, w8, w9, w10), (w0, w11, w12, w13, w14, w15, w16, w17, w18))
  | _ => none
theorem yfy (nf : NF) (v : (List Int × Int × Int × Int × Int × Int × Int × Int × Int × Int) × (Int × Int × Int × Int × Int × Int × Int × Int × List Task)) (h : yfx nf = some v) : denorm yfs 103 nf = yfw v := by
  unfold yfx at h
  split at h
  · cases h; rfl
  · cases h
def yfz (p : List Int × Int × Int × Int × Int × Int × Int × Int × Int × Int) (x : Int × Int × Int × Int × Int × Int × Int × List Task) : St := { slots := [(0, .ptr 0 0 0), (4, .ptr 1 0 0), (5, .ptr 2 0 0)], heap := [(0, .box [.r [] (.sl (.int .u8) p.1), .r [] (.int .i64 p.2.1), .r [] (.int .i64 p.2.2.1)]), (1, .box [.r [] (.int .i64 p.2.2.2.1), .r [] (.int .i64 p.2.2.2.2.1), .r [] (.int .i64 p.2.2.2.2.2.1), .nilS, .r [] (.int .i64 p.2.2.2.2.2.2.1), .r [] (.int .i64 p.2.2.2.2.2.2.2.1), .r [] (.int .i64 p.2.2.2.2.2.2.2.2.1), .r [] (.int .i64 p.2.2.2.2.2.2.2.2.2)]), (2, .box [.r [] (.int .i64 x.1), .r [] (.int .i64 x.2.1), .r [] (.int .i64 x.2.2.1), .own 3, .r [] (.int .i64 x.2.2.2.1), .r [] (.int .i64 x.2.2.2.2.1), .r [] (.int .i64 x.2.2.2.2.2.1), .r [] (.int .i64 x.2.2.2.2.2.2.1)]), (3, .arr none (.st .task) x.2.2.2.2.2.2.2)], nid := 4, n := 103, gh := [some 0] }
def yg0 : List Nat := [4, 5, 8]
def yg1 : List (Where × Co) := []
def yg2 : Ex → List Nat
  | .exit j => cond (Nat.beq j 3) [4, 5] []
  | .ret => []
  | .normal => []
def yg3 : Ex → List (Where × Co)
  | .exit j => cond (Nat.beq j 3) [] []
  | .ret => []
  | .normal => []
def yg4 (pv : (Int × Int × Int × Int × Int × Int × Int × List Int × Int × Int) × (Int × Int × Int × Int × Int × Int × Int × Int × List Task)) : St := { slots := [(4, .ptr 0 0 0), (5, .ptr 1 0 0), (8, .r [] (.int .i64 pv.2.1))], heap := [(0, .box [.r [] (.int .i64 pv.1.1), .r [] (.int .i64 pv.1.2.1), .r [] (.int .i64 pv.1.2.2.1), .nilS, .r [] (.int .i64 pv.1.2.2.2.1), .r [] (.int .i64 pv.1.2.2.2.2.1), .r [] (.int .i64 pv.1.2.2.2.2.2.1), .r [] (.int .i64 pv.1.2.2.2.2.2.2.1)]), (1, .box [.r [] (.int .i64 pv.2.2.1), .r [] (.int .i64 pv.2.2.2.1), .r [] (.int .i64 pv.2.2.2.2.1), .own 3, .r [] (.int .i64 pv.2.2.2.2.2.1), .r [] (.int .i64 pv.2.2.2.2.2.2.1), .r [] (.int .i64 pv.2.2.2.2.2.2.2.1), .r [] (.int .i64 pv.2.2.2.2.2.2.2.2.1)]), (2, .box [.r [] (.sl (.int .u8) pv.1.2.2.2.2.2.2.2.1), .r [] (.int .i64 pv.1.2.2.2.2.2.2.2.2.1), .r [] (.int .i64 pv.1.2.2.2.2.2.2.2.2.2)]), (3, .arr none (.st .task) pv.2.2.2.2.2.2.2.2.2)], nid := 4, n := 103, gh := [some 2] }
def yg5 (nf : NF) : Option ((Int × Int × Int × Int × Int × Int × Int × List Int × Int × Int) × (Int × Int × Int × Int × Int × Int × Int × Int × List Task)) := match nf with
  | ([.ptr 0 0 0, .ptr 1 0 0, .r [] (.int .i64 w0)], [.box [.r [] (.int .i64 w1), .r [] (.int .i64 w2), .r [] (.int .i64 w3), .nilS, .r [] (.int .i64 w4), .r [] (.int .i64 w5), .r [] (.int .i64 w6), .r [] (.int .i64 w7)], .box [.r [] (.int .i64 w8), .r [] (.int .i64 w9), .r [] (.int .i64 w10), .own 3, .r [] (.int .i64 w11), .r [] (.int .i64 w12), .r [] (.int .i64 w13), .r [] (.int .i64 w14)], .box [.r [] (.sl (.int .u8) w15), .r [] (.int .i64 w16), .r [] (.int .i64 w17)], .arr none (.st .task) w18], [some 2]) => some ((w1, w2, w3, w4, w5, w6, w7, w15, w16, w17), (w0, w8, w9, w10, w11, w12, w13, w14, w18))
  | _ => none
theorem yg6 (nf : NF) (v : (Int × Int × Int × Int × Int × Int × Int × List Int × Int × Int) × (Int × Int × Int × Int × Int × Int × Int × Int × List Task)) (h : yg5 nf = some v) : denorm yg0 103 nf = yg4 v := by
  unfold yg5 at h
  split at h
  · cases h; rfl
  · cases h
def yg7 (p : Int × Int × Int × Int × Int × Int × Int × List Int × Int × Int) (x : Int × Int × Int × Int × Int × Int × Int × List Task) : St := { slots := [(4, .ptr 0 0 0), (5, .ptr 1 0 0)], heap := [(0, .box [.r [] (.int .i64 p.1), .r [] (.int .i64 p.2.1), .r [] (.int .i64 p.2.2.1), .nilS, .r [] (.int .i64 p.2.2.2.1), .r [] (.int .i64 p.2.2.2.2.1), .r [] (.int .i64 p.2.2.2.2.2.1), .r [] (.int .i64 p.2.2.2.2.2.2.1)]), (1, .box [.r [] (.int .i64 x.1), .r [] (.int .i64 x.2.1), .r [] (.int .i64 x.2.2.1), .own 3, .r [] (.int .i64 x.2.2.2.1), .r [] (.int .i64 x.2.2.2.2.1), .r [] (.int .i64 x.2.2.2.2.2.1), .r [] (.int .i64 x.2.2.2.2.2.2.1)]), (2, .box [.r [] (.sl (.int .u8) p.2.2.2.2.2.2.2.1), .r [] (.int .i64 p.2.2.2.2.2.2.2.2.1), .r [] (.int .i64 p.2.2.2.2.2.2.2.2.2)]), (3, .arr none (.st .task) x.2.2.2.2.2.2.2)], nid := 4, n := 103, gh := [some 2] }
def yg8 (ρ : Type) (k : Nat) : Nat → Ev ρ → Ev ρ := fun id f => cond (Nat.beq id 3) (loopOrc yg0 yg1 (fun n nf => cond (Nat.beq n 103) (yg5 nf) none) fun pv K => iter (fun v next => S_l07DrawSched_m_g1 k pv.1 v next (fun x => K (.exit 3) (yg7 pv.1 x))) k pv.2) ((fun id f => cond (Nat.beq id 0) (loopOrc yfs yft (fun n nf => cond (Nat.beq n 103) (yfx nf) none) fun pv K => iter (fun v next => S_l07DrawSched_m_g0 k pv.1 v next (fun x => K (.exit 0) (yfz pv.1 x))) k pv.2) ((fun _ _ _ _ => none) id f)) id f)
theorem yg9 {ρ : Type} (k : Nat) (p : List Int × Int × Int × Int × Int × Int × Int × Int × Int × Int) (v : Int × Int × Int × Int × Int × Int × Int × Int × List Task) (K K1 : Ex → St → Option ρ) : ev (yfn k) (yg8 ρ k) 0 yfq (yfw (p, v)) (fun e st' => match e with
    | .normal => (normC yfs yft st').bind fun nf => K1 .normal (denorm yfs st'.n nf)
    | e => (normC (yfu e) (yfv e) st').bind fun nf => K e (denorm (yfu e) st'.n nf)) = S_l07DrawSched_m_g0 k p v (fun v' => K1 .normal (yfw (p, v'))) (fun x => K (.exit 0) (yfz p x)) := by kernel_rfl
theorem yga {ρ : Type} (k : Nat) : Sound Try.prog (.loop yfq) (yg8 ρ k 0 fun st K => ev (yfn k) (yg8 ρ k) 0 yfq st K) :=
  loop_ok (ev_sound (yfo k) yfq 0 (lpgood_none (by kernel_rfl))) yfu yfv k (g := fun p v next K => S_l07DrawSched_m_g0 k p v next (fun x => K (.exit 0) (yfz p x))) (dec_at yfy) (fun p v K K1 => yg9 k p v K K1)
theorem ygb {ρ : Type} (k : Nat) (p : Int × Int × Int × Int × Int × Int × Int × List Int × Int × Int) (v : Int × Int × Int × Int × Int × Int × Int × Int × List Task) (K K1 : Ex → St → Option ρ) : ev (yfn k) (yg8 ρ k) 3 yfr (yg4 (p, v)) (fun e st' => match e with
    | .normal => (normC yg0 yg1 st').bind fun nf => K1 .normal (denorm yg0 st'.n nf)
    | e => (normC (yg2 e) (yg3 e) st').bind fun nf => K e (denorm (yg2 e) st'.n nf)) = S_l07DrawSched_m_g1 k p v (fun v' => K1 .normal (yg4 (p, v'))) (fun x => K (.exit 3) (yg7 p x)) := by kernel_rfl
theorem ygc {ρ : Type} (k : Nat) : Sound Try.prog (.loop yfr) (yg8 ρ k 3 fun st K => ev (yfn k) (yg8 ρ k) 3 yfr st K) :=
  loop_ok (ev_sound (yfo k) yfr 3 (lpgood_none (by kernel_rfl))) yg2 yg3 k (g := fun p v next K => S_l07DrawSched_m_g1 k p v next (fun x => K (.exit 3) (yg7 p x))) (dec_at yg6) (fun p v K K1 => ygb k p v K K1)
def ygd (a : List Int × Int × Int × Int) : List SV := [.ptr 0 0 0, .r [] (.int .i64 a.2.2.2)]
def yge (a : List Int × Int × Int × Int) : List Blk := [.box [.r [] (.sl (.int .u8) a.1), .r [] (.int .i64 a.2.1), .r [] (.int .i64 a.2.2.1)]]
def ygf (l : List SV) (b : List Blk) : Option (List Int × Int × Int × Int) := match l, b with
  | [.ptr 0 0 0, .r [] (.int .i64 w0)], [.box [.r [] (.sl (.int .u8) w1), .r [] (.int .i64 w2), .r [] (.int .i64 w3)]] => some (w1, w2, w3, w0)
  | _, _ => none
def ygg (a : List Int × Int × Int × Int) (r : Sched × Int × Int) : MOut := ⟨.agg [.r [] (.int .i64 r.1.now), .r [] (.int .i64 r.1.slack), .r [] (.int .i64 r.1.age), .own 1, .r [] (.int .i64 r.1.run), .r [] (.int .i64 r.1.left), .r [] (.int .i64 r.1.turns), .r [] (.int .i64 r.1.next)], [some (.box [.r [] (.sl (.int .u8) a.1), .r [] (.int .i64 r.2.1), .r [] (.int .i64 r.2.2)])], [.arr none (.st .task) r.1.tasks]⟩
def ygh (a : List Int × Int × Int × Int) (o : MOut) : Option (Sched × Int × Int) := match o with
  | ⟨.agg [.r [] (.int .i64 z1), .r [] (.int .i64 z2), .r [] (.int .i64 z3), .own 1, .r [] (.int .i64 z4), .r [] (.int .i64 z5), .r [] (.int .i64 z6), .r [] (.int .i64 z7)], [some (.box [.r [] (.sl (.int .u8) z8), .r [] (.int .i64 z9), .r [] (.int .i64 z10)])], [.arr none (.st .task) z11]⟩ => cond (@sameL (List Int) _ z8 a.1) (some ((⟨z1, z2, z3, z11, z4, z5, z6, z7⟩ : Sched), z9, z10)) none
  | _ => none
def ygi (k : Nat) : MG := fun _ l b K => (ygf l b).bind fun a => (S_l07DrawSched_m k a.1 a.2.1 a.2.2.1 a.2.2.2).bind fun r => K (ygg a r)
theorem ygj (k : Nat) (a : List Int × Int × Int × Int) : ev (yfn k) (yg8 (Sched × Int × Int) k) 0 yfp (st0M Try.f189 (ygd a) (yge a)) (finM Try.prog Try.f189 (.agg [.sc, .sc, .sc, .own (.st .task), .sc, .sc, .sc, .sc]) [.box [.ro (.int .u8), .sc, .sc]] (ygh a)) = S_l07DrawSched_m k a.1 a.2.1 a.2.2.1 a.2.2.2 := by kernel_rfl
theorem ygk (k : Nat) : MutOk Try.prog 189 (ygi k) :=
  mutOk_of_ev (yfo k) Try.func189 (by kernel_rfl) (by kernel_rfl) ygd yge ygf
    (fun l b a h => by unfold ygf at h; split at h <;> first | (cases h; exact ⟨rfl, rfl⟩) | cases h) (fun a => rfl) (lpgood_of (l := [(0, yfq), (3, yfr)]) (by kernel_rfl) ⟨yga k, ⟨ygc k, trivial⟩⟩) (fun a r => rfl)
    (fun a o r h => by unfold ygh at h; split at h <;> first | (obtain ⟨e0, hq⟩ := dec_chk1 h; clear h; subst e0; have h := hq; clear hq; cases h; rfl) | cases h) (ygj k)
def ygl (k : Nat) : Orc := mutOrc [.keep, .one (.int .i64)] (ygi k)
theorem ygm (k : Nat) : OrcOk Try.prog 189 (ygl k) := mutOrc_ok (ygk k)
noncomputable def ygn (k : Nat) : Env := { P := Try.prog, tt := tt, orc := fun g => cond (Nat.beq g 109) (y2r k) (cond (Nat.beq g 124) (y1g k) (cond (Nat.beq g 125) (y1t k) (cond (Nat.beq g 189) (ygl k) (noOrc)))), wr := fun g => mem g [109, 124, 189], wt := true }
theorem ygo (k : Nat) : EnvOk (ygn k) := fun g => (orc_cond (y2s k) (orc_cond (y1h k) (orc_cond (y1u k) (orc_cond (ygm k) (noOrc_ok _ _)))))
noncomputable def ygp : Code := (Try.f108.body).getD .skip
def ygq (ρ : Type) (k : Nat) : Nat → Ev ρ → Ev ρ := fun _ _ _ _ => none
def ygr (a : List Int) : List SV := [.r [] (.sl (.int .u8) a)]
def ygs (a : List Int) : List Blk := []
def ygt (l : List SV) (b : List Blk) : Option (List Int) := match l, b with
  | [.r [] (.sl (.int .u8) w0)], [] => some w0
  | _, _ => none
def ygu (a : List Int) (r : (Unit × Sched) × Int × Int) : MOut := ⟨.tup [.ptr 0 0 0, .agg [.r [] (.int .i64 r.1.2.now), .r [] (.int .i64 r.1.2.slack), .r [] (.int .i64 r.1.2.age), .own 1, .r [] (.int .i64 r.1.2.run), .r [] (.int .i64 r.1.2.left), .r [] (.int .i64 r.1.2.turns), .r [] (.int .i64 r.1.2.next)]], [], [.box [.r [] (.sl (.int .u8) a), .r [] (.int .i64 r.2.1), .r [] (.int .i64 r.2.2)], .arr none (.st .task) r.1.2.tasks]⟩
def ygv (a : List Int) (o : MOut) : Option ((Unit × Sched) × Int × Int) := match o with
  | ⟨.tup [.ptr 0 0 0, .agg [.r [] (.int .i64 z1), .r [] (.int .i64 z2), .r [] (.int .i64 z3), .own 1, .r [] (.int .i64 z4), .r [] (.int .i64 z5), .r [] (.int .i64 z6), .r [] (.int .i64 z7)]], [], [.box [.r [] (.sl (.int .u8) z8), .r [] (.int .i64 z9), .r [] (.int .i64 z10)], .arr none (.st .task) z11]⟩ => cond (@sameL (List Int) _ z8 a) (some (((), (⟨z1, z2, z3, z11, z4, z5, z6, z7⟩ : Sched)), z9, z10)) none
  | _ => none
def ygw (k : Nat) : MG := fun _ l b K => (ygt l b).bind fun a => (S_l07Draw_m k a).bind fun r => K (ygu a r)
theorem ygx (k : Nat) (a : List Int) : ev (ygn k) (ygq ((Unit × Sched) × Int × Int) k) 0 ygp (st0M Try.f108 (ygr a) (ygs a)) (finM Try.prog Try.f108 (.tup [.ptr, .agg [.sc, .sc, .sc, .own (.st .task), .sc, .sc, .sc, .sc]]) [.box [.ro (.int .u8), .sc, .sc]] (ygv a)) = S_l07Draw_m k a := by kernel_rfl
theorem ygy (k : Nat) : MutOk Try.prog 108 (ygw k) :=
  mutOk_of_ev (ygo k) Try.func108 (by kernel_rfl) (by kernel_rfl) ygr ygs ygt
    (fun l b a h => by unfold ygt at h; split at h <;> first | (cases h; exact ⟨rfl, rfl⟩) | cases h) (fun a => rfl) (lpgood_none (by kernel_rfl)) (fun a r => rfl)
    (fun a o r h => by unfold ygv at h; split at h <;> first | (obtain ⟨e0, hq⟩ := dec_chk1 h; clear h; subst e0; have h := hq; clear hq; cases h; rfl) | cases h) (ygx k)
def ygz (k : Nat) : Orc := mutOrc [.one (.sl (.int .u8))] (ygw k)
theorem yh0 (k : Nat) : OrcOk Try.prog 108 (ygz k) := mutOrc_ok (ygy k)
noncomputable def yh1 (k : Nat) : Env := { P := Try.prog, tt := tt, orc := fun g => cond (Nat.beq g 108) (ygz k) (noOrc), wr := fun g => mem g [108], wt := true }
theorem yh2 (k : Nat) : EnvOk (yh1 k) := fun g => (orc_cond (yh0 k) (noOrc_ok _ _))
noncomputable def yh3 : Code := (Try.f139.body).getD .skip
def yh4 (ρ : Type) (k : Nat) : Nat → Ev ρ → Ev ρ := fun _ _ _ _ => none
def yh5 (a : List Int) : List Arg := [.one (.sl (.int .u8) a)]
def yh6 (l : List Arg) : Option (List Int) := match l with
  | [.one (.sl (.int .u8) b0)] => some b0
  | _ => none
def yh7 (r : Sched) : Out := (.agg [.r [] (.int .i64 r.now), .r [] (.int .i64 r.slack), .r [] (.int .i64 r.age), .own 0, .r [] (.int .i64 r.run), .r [] (.int .i64 r.left), .r [] (.int .i64 r.turns), .r [] (.int .i64 r.next)], [.arr none (.st .task) r.tasks])
def yh8 (o : Out) : Option (Sched) := match o with
  | (.agg [.r [] (.int .i64 z1), .r [] (.int .i64 z2), .r [] (.int .i64 z3), .own 0, .r [] (.int .i64 z5), .r [] (.int .i64 z6), .r [] (.int .i64 z7), .r [] (.int .i64 z8)], [.arr none (.st .task) z4]) => some (⟨z1, z2, z3, z4, z5, z6, z7, z8⟩ : Sched)
  | _ => none
def yh9 (k : Nat) : PG := fun _ l K => (yh6 l).bind fun a => (S_DrawSchedOk k a).bind fun r => K (yh7 r)
theorem yha (k : Nat) (a : List Int) : ev (yh1 k) (yh4 (Sched) k) 0 yh3 (st0 Try.f139 (yh5 a)) (fin Try.prog Try.f139 (.agg [.sc, .sc, .sc, .own (.st .task), .sc, .sc, .sc, .sc]) yh8) = S_DrawSchedOk k a := by kernel_rfl
theorem yhb (k : Nat) : PureOk Try.prog 139 (yh9 k) :=
  pureOk_of_ev (yh2 k) Try.func139 (by kernel_rfl) (by kernel_rfl) yh5 yh6
    (fun l a h => by unfold yh6 at h; split at h <;> first | (cases h; rfl) | cases h) (fun a => rfl) (lpgood_none (by kernel_rfl))
    (fun o r h => by unfold yh8 at h; split at h <;> first | (cases h; rfl) | cases h) (yha k)
def yhc (k : Nat) : Orc := pureOrc [.one (.sl (.int .u8))] (yh9 k)
theorem yhd (k : Nat) : OrcOk Try.prog 139 (yhc k) := pureOrc_ok (yhb k)
noncomputable def yhe (k : Nat) : Env := { P := Try.prog, tt := tt, orc := fun g => cond (Nat.beq g 139) (yhc k) (noOrc) }
theorem yhf (k : Nat) : EnvOk (yhe k) := fun g => (orc_cond (yhd k) (noOrc_ok _ _))
noncomputable def yhg : Code := (Try.f43.body).getD .skip
def yhh (ρ : Type) (k : Nat) : Nat → Ev ρ → Ev ρ := fun _ _ _ _ => none
def yhi (a : List Int) : List Arg := [.one (.sl (.int .u8) a)]
def yhj (l : List Arg) : Option (List Int) := match l with
  | [.one (.sl (.int .u8) b0)] => some b0
  | _ => none
def yhk (r : Sched) : Out := (.agg [.r [] (.int .i64 r.now), .r [] (.int .i64 r.slack), .r [] (.int .i64 r.age), .own 0, .r [] (.int .i64 r.run), .r [] (.int .i64 r.left), .r [] (.int .i64 r.turns), .r [] (.int .i64 r.next)], [.arr none (.st .task) r.tasks])
def yhl (o : Out) : Option (Sched) := match o with
  | (.agg [.r [] (.int .i64 z1), .r [] (.int .i64 z2), .r [] (.int .i64 z3), .own 0, .r [] (.int .i64 z5), .r [] (.int .i64 z6), .r [] (.int .i64 z7), .r [] (.int .i64 z8)], [.arr none (.st .task) z4]) => some (⟨z1, z2, z3, z4, z5, z6, z7, z8⟩ : Sched)
  | _ => none
def yhm (k : Nat) : PG := fun _ l K => (yhj l).bind fun a => (S_DrawFitsIn k a).bind fun r => K (yhk r)
theorem yhn (k : Nat) (a : List Int) : ev (yhe k) (yhh (Sched) k) 0 yhg (st0 Try.f43 (yhi a)) (fin Try.prog Try.f43 (.agg [.sc, .sc, .sc, .own (.st .task), .sc, .sc, .sc, .sc]) yhl) = S_DrawFitsIn k a := by kernel_rfl
theorem yho (k : Nat) : PureOk Try.prog 43 (yhm k) :=
  pureOk_of_ev (yhf k) Try.func43 (by kernel_rfl) (by kernel_rfl) yhi yhj
    (fun l a h => by unfold yhj at h; split at h <;> first | (cases h; rfl) | cases h) (fun a => rfl) (lpgood_none (by kernel_rfl))
    (fun o r h => by unfold yhl at h; split at h <;> first | (cases h; rfl) | cases h) (yhn k)
def yhp (k : Nat) : Orc := pureOrc [.one (.sl (.int .u8))] (yhm k)
theorem yhq (k : Nat) : OrcOk Try.prog 43 (yhp k) := pureOrc_ok (yho k)
noncomputable def E_I_in (k : Nat) : Env := { P := Try.prog, tt := tt, orc := fun g => noOrc }
theorem yhr (k : Nat) : EnvOk (E_I_in k) := fun g => (noOrc_ok _ _)
noncomputable def c_I_in : Code := (Try.f132.body).getD .skip
def yhs (ρ : Type) (k : Nat) : Nat → Ev ρ → Ev ρ := fun _ _ _ _ => none
def yht (a : Int × Int × Int) : List Arg := [.one (.int .i64 a.1), .one (.int .i64 a.2.1), .one (.int .i64 a.2.2)]
def yhu (l : List Arg) : Option (Int × Int × Int) := match l with
  | [.one (.int .i64 b0), .one (.int .i64 b1), .one (.int .i64 b2)] => some (b0, b1, b2)
  | _ => none
def yhv (r : Bool) : Out := (.r [] (.bool r), [])
def yhw (o : Out) : Option (Bool) := match o with
  | (.r [] (.bool z1), []) => some z1
  | _ => none
def I_in_G (k : Nat) : PG := fun _ l K => (yhu l).bind fun a => (I_in k a.1 a.2.1 a.2.2).bind fun r => K (yhv r)
theorem yhx (k : Nat) (a : Int × Int × Int) : ev (E_I_in k) (yhs (Bool) k) 0 c_I_in (st0 Try.f132 (yht a)) (fin Try.prog Try.f132 (.sc) yhw) = I_in k a.1 a.2.1 a.2.2 := by kernel_rfl
theorem yhy (k : Nat) : PureOk Try.prog 132 (I_in_G k) :=
  pureOk_of_ev (yhr k) Try.func132 (by kernel_rfl) (by kernel_rfl) yht yhu
    (fun l a h => by unfold yhu at h; split at h <;> first | (cases h; rfl) | cases h) (fun a => rfl) (lpgood_none (by kernel_rfl))
    (fun o r h => by unfold yhw at h; split at h <;> first | (cases h; rfl) | cases h) (yhx k)
def o_I_in (k : Nat) : Orc := pureOrc [.one (.int .i64), .one (.int .i64), .one (.int .i64)] (I_in_G k)
theorem yhz (k : Nat) : OrcOk Try.prog 132 (o_I_in k) := pureOrc_ok (yhy k)
noncomputable def yi0 (k : Nat) : Env := { P := Try.prog, tt := tt, orc := fun g => cond (Nat.beq g 132) (o_I_in k) (noOrc) }
theorem yi1 (k : Nat) : EnvOk (yi0 k) := fun g => (orc_cond (yhz k) (noOrc_ok _ _))
noncomputable def yi2 : Code := (Try.f131.body).getD .skip
def yi3 (ρ : Type) (k : Nat) : Nat → Ev ρ → Ev ρ := fun _ _ _ _ => none
def yi4 (a : Int) : List Arg := [.one (.int .i64 a)]
def yi5 (l : List Arg) : Option (Int) := match l with
  | [.one (.int .i64 b0)] => some b0
  | _ => none
def yi6 (r : Bool) : Out := (.r [] (.bool r), [])
def yi7 (o : Out) : Option (Bool) := match o with
  | (.r [] (.bool z1), []) => some z1
  | _ => none
def yi8 (k : Nat) : PG := fun _ l K => (yi5 l).bind fun a => (I_isTick k a).bind fun r => K (yi6 r)
theorem yi9 (k : Nat) (a : Int) : ev (yi0 k) (yi3 (Bool) k) 0 yi2 (st0 Try.f131 (yi4 a)) (fin Try.prog Try.f131 (.sc) yi7) = I_isTick k a := by kernel_rfl
theorem yia (k : Nat) : PureOk Try.prog 131 (yi8 k) :=
  pureOk_of_ev (yi1 k) Try.func131 (by kernel_rfl) (by kernel_rfl) yi4 yi5
    (fun l a h => by unfold yi5 at h; split at h <;> first | (cases h; rfl) | cases h) (fun a => rfl) (lpgood_none (by kernel_rfl))
    (fun o r h => by unfold yi7 at h; split at h <;> first | (cases h; rfl) | cases h) (yi9 k)
def yib (k : Nat) : Orc := pureOrc [.one (.int .i64)] (yi8 k)
theorem yic (k : Nat) : OrcOk Try.prog 131 (yib k) := pureOrc_ok (yia k)
noncomputable def yid (k : Nat) : Env := { P := Try.prog, tt := tt, orc := fun g => cond (Nat.beq g 132) (o_I_in k) (noOrc) }
theorem yie (k : Nat) : EnvOk (yid k) := fun g => (orc_cond (yhz k) (noOrc_ok _ _))
noncomputable def yif : Code := (Try.f191.body).getD .skip
def yig (ρ : Type) (k : Nat) : Nat → Ev ρ → Ev ρ := fun _ _ _ _ => none
def yih (a : Int) : List Arg := [.one (.int .i64 a)]
def yii (l : List Arg) : Option (Int) := match l with
  | [.one (.int .i64 b0)] => some b0
  | _ => none
def yij (r : Bool) : Out := (.r [] (.bool r), [])
def yik (o : Out) : Option (Bool) := match o with
  | (.r [] (.bool z1), []) => some z1
  | _ => none
def yil (k : Nat) : PG := fun _ l K => (yii l).bind fun a => (I_TaskOk_c1 k a).bind fun r => K (yij r)
theorem yim (k : Nat) (a : Int) : ev (yid k) (yig (Bool) k) 0 yif (st0 Try.f191 (yih a)) (fin Try.prog Try.f191 (.sc) yik) = I_TaskOk_c1 k a := by kernel_rfl
theorem yin (k : Nat) : PureOk Try.prog 191 (yil k) :=
  pureOk_of_ev (yie k) Try.func191 (by kernel_rfl) (by kernel_rfl) yih yii
    (fun l a h => by unfold yii at h; split at h <;> first | (cases h; rfl) | cases h) (fun a => rfl) (lpgood_none (by kernel_rfl))
    (fun o r h => by unfold yik at h; split at h <;> first | (cases h; rfl) | cases h) (yim k)
def yio (k : Nat) : Orc := pureOrc [.one (.int .i64)] (yil k)
theorem yip (k : Nat) : OrcOk Try.prog 191 (yio k) := pureOrc_ok (yin k)
noncomputable def yiq (k : Nat) : Env := { P := Try.prog, tt := tt, orc := fun g => cond (Nat.beq g 191) (yio k) (noOrc) }
theorem yir (k : Nat) : EnvOk (yiq k) := fun g => (orc_cond (yip k) (noOrc_ok _ _))
noncomputable def yis : Code := (Try.f188.body).getD .skip
noncomputable def yit : Code := ((loopsIn 0 yis).getD 0 (0, .skip)).2
def yiu : List Nat := [0, 1, 7, 8]
def yiv : List (Where × Co) := []
def yiw : Ex → List Nat
  | .exit j => cond (Nat.beq j 0) [] []
  | .ret => [4]
  | .normal => []
def yix : Ex → List (Where × Co)
  | .exit j => cond (Nat.beq j 0) [] []
  | .ret => []
  | .normal => []
def yiy (pv : (List Int × Int) × (Int)) : St := { slots := [(0, .r [] (.sl (.int .i64) pv.1.1)), (1, .fn (.func 191) [] []), (7, .r [] (.int .i64 pv.1.2)), (8, .r [] (.int .i64 pv.2))], heap := [], nid := 0, n := 19, gh := [] }
def yiz (nf : NF) : Option ((List Int × Int) × (Int)) := match nf with
  | ([.r [] (.sl (.int .i64) w0), .fn (.func 191) [] [], .r [] (.int .i64 w1), .r [] (.int .i64 w2)], [], []) => some ((w0, w1), w2)
  | _ => none
theorem yj0 (nf : NF) (v : (List Int × Int) × (Int)) (h : yiz nf = some v) : denorm yiu 19 nf = yiy v := by
  unfold yiz at h
  split at h
  · cases h; rfl
  · cases h
def yj1 (p : List Int × Int) (x : Unit) : St := { slots := [], heap := [], nid := 0, n := 19, gh := [] }
def yj2 (p : List Int × Int) (x : Int) : St := { slots := [(4, .r [] (.int .i64 x))], heap := [], nid := 0, n := 19, gh := [] }
def yj3 (ρ : Type) (k : Nat) : Nat → Ev ρ → Ev ρ := fun id f => cond (Nat.beq id 0) (loopOrc yiu yiv (fun n nf => cond (Nat.beq n 19) (yiz nf) none) fun pv K => iter (fun v next => slices_IndexFunc_lint_int__I_TaskOk_c1_g0 k pv.1 v next (fun x => K (.exit 0) (yj1 pv.1 x)) (fun x => K .ret (yj2 pv.1 x))) k pv.2) ((fun _ _ _ _ => none) id f)
theorem yj4 {ρ : Type} (k : Nat) (p : List Int × Int) (v : Int) (K K1 : Ex → St → Option ρ) : ev (yiq k) (yj3 ρ k) 0 yit (yiy (p, v)) (fun e st' => match e with
    | .normal => (normC yiu yiv st').bind fun nf => K1 .normal (denorm yiu st'.n nf)
    | e => (normC (yiw e) (yix e) st').bind fun nf => K e (denorm (yiw e) st'.n nf)) = slices_IndexFunc_lint_int__I_TaskOk_c1_g0 k p v (fun v' => K1 .normal (yiy (p, v'))) (fun x => K (.exit 0) (yj1 p x)) (fun x => K .ret (yj2 p x)) := by kernel_rfl
theorem yj5 {ρ : Type} (k : Nat) : Sound Try.prog (.loop yit) (yj3 ρ k 0 fun st K => ev (yiq k) (yj3 ρ k) 0 yit st K) :=
  loop_ok (ev_sound (yir k) yit 0 (lpgood_none (by kernel_rfl))) yiw yix k (g := fun p v next K => slices_IndexFunc_lint_int__I_TaskOk_c1_g0 k p v next (fun x => K (.exit 0) (yj1 p x)) (fun x => K .ret (yj2 p x))) (dec_at yj0) (fun p v K K1 => yj4 k p v K K1)
def yj6 (a : List Int) : List Arg := [.one (.sl (.int .i64) a), .fn (.func 191) [] []]
def yj7 (l : List Arg) : Option (List Int) := match l with
  | [.one (.sl (.int .i64) b0), .fn (.func 191) [] []] => some b0
  | _ => none
def yj8 (r : Int) : Out := (.r [] (.int .i64 r), [])
def yj9 (o : Out) : Option (Int) := match o with
  | (.r [] (.int .i64 z1), []) => some z1
  | _ => none
def yja (k : Nat) : PG := fun _ l K => (yj7 l).bind fun a => (slices_IndexFunc_lint_int__I_TaskOk_c1 k a).bind fun r => K (yj8 r)
theorem yjb (k : Nat) (a : List Int) : ev (yiq k) (yj3 (Int) k) 0 yis (st0 Try.f188 (yj6 a)) (fin Try.prog Try.f188 (.sc) yj9) = slices_IndexFunc_lint_int__I_TaskOk_c1 k a := by kernel_rfl
theorem yjc (k : Nat) : PureOk Try.prog 188 (yja k) :=
  pureOk_of_ev (yir k) Try.func188 (by kernel_rfl) (by kernel_rfl) yj6 yj7
    (fun l a h => by unfold yj7 at h; split at h <;> first | (cases h; rfl) | cases h) (fun a => rfl) (lpgood_of (l := [(0, yit)]) (by kernel_rfl) ⟨yj5 k, trivial⟩)
    (fun o r h => by unfold yj9 at h; split at h <;> first | (cases h; rfl) | cases h) (yjb k)
def yjd (k : Nat) : Orc := pureOrc [.one (.sl (.int .i64)), .fn] (yja k)
theorem yje (k : Nat) : OrcOk Try.prog 188 (yjd k) := pureOrc_ok (yjc k)
noncomputable def yjf (k : Nat) : Env := { P := Try.prog, tt := tt, orc := fun g => cond (Nat.beq g 188) (yjd k) (noOrc) }
theorem yjg (k : Nat) : EnvOk (yjf k) := fun g => (orc_cond (yje k) (noOrc_ok _ _))
noncomputable def yjh : Code := (Try.f104.body).getD .skip
def yji (ρ : Type) (k : Nat) : Nat → Ev ρ → Ev ρ := fun _ _ _ _ => none
def yjj (a : List Int) : List Arg := [.one (.sl (.int .i64) a), .fn (.func 191) [] []]
def yjk (l : List Arg) : Option (List Int) := match l with
  | [.one (.sl (.int .i64) b0), .fn (.func 191) [] []] => some b0
  | _ => none
def yjl (r : Bool) : Out := (.r [] (.bool r), [])
def yjm (o : Out) : Option (Bool) := match o with
  | (.r [] (.bool z1), []) => some z1
  | _ => none
def yjn (k : Nat) : PG := fun _ l K => (yjk l).bind fun a => (slices_ContainsFunc_lint_int__I_TaskOk_c1 k a).bind fun r => K (yjl r)
theorem yjo (k : Nat) (a : List Int) : ev (yjf k) (yji (Bool) k) 0 yjh (st0 Try.f104 (yjj a)) (fin Try.prog Try.f104 (.sc) yjm) = slices_ContainsFunc_lint_int__I_TaskOk_c1 k a := by kernel_rfl
theorem yjp (k : Nat) : PureOk Try.prog 104 (yjn k) :=
  pureOk_of_ev (yjg k) Try.func104 (by kernel_rfl) (by kernel_rfl) yjj yjk
    (fun l a h => by unfold yjk at h; split at h <;> first | (cases h; rfl) | cases h) (fun a => rfl) (lpgood_none (by kernel_rfl))
    (fun o r h => by unfold yjm at h; split at h <;> first | (cases h; rfl) | cases h) (yjo k)
def yjq (k : Nat) : Orc := pureOrc [.one (.sl (.int .i64)), .fn] (yjn k)
theorem yjr (k : Nat) : OrcOk Try.prog 104 (yjq k) := pureOrc_ok (yjp k)
noncomputable def yjs (k : Nat) : Env := { P := Try.prog, tt := tt, orc := fun g => cond (Nat.beq g 104) (yjq k) (cond (Nat.beq g 131) (yib k) (cond (Nat.beq g 132) (o_I_in k) (noOrc))) }
theorem yjt (k : Nat) : EnvOk (yjs k) := fun g => (orc_cond (yjr k) (orc_cond (yic k) (orc_cond (yhz k) (noOrc_ok _ _))))
noncomputable def yju : Code := (Try.f117.body).getD .skip
def yjv (ρ : Type) (k : Nat) : Nat → Ev ρ → Ev ρ := fun _ _ _ _ => none
def yjw (a : Task) : List Arg := [.agg [.int .i64 a.id, .sl (.int .i64) a.costs, .int .i64 a.at_, .int .i64 a.due, .int .i64 a.born]]
def yjx (l : List Arg) : Option (Task) := match l with
  | [.agg [.int .i64 b0_0, .sl (.int .i64) b0_1, .int .i64 b0_2, .int .i64 b0_3, .int .i64 b0_4]] => some (⟨b0_0, b0_1, b0_2, b0_3, b0_4⟩ : Task)
  | _ => none
def yjy (r : Bool) : Out := (.r [] (.bool r), [])
def yjz (o : Out) : Option (Bool) := match o with
  | (.r [] (.bool z1), []) => some z1
  | _ => none
def yk0 (k : Nat) : PG := fun _ l K => (yjx l).bind fun a => (I_TaskOk k a).bind fun r => K (yjy r)
theorem yk1 (k : Nat) (a : Task) : ev (yjs k) (yjv (Bool) k) 0 yju (st0 Try.f117 (yjw a)) (fin Try.prog Try.f117 (.sc) yjz) = I_TaskOk k a := by kernel_rfl
theorem yk2 (k : Nat) : PureOk Try.prog 117 (yk0 k) :=
  pureOk_of_ev (yjt k) Try.func117 (by kernel_rfl) (by kernel_rfl) yjw yjx
    (fun l a h => by unfold yjx at h; split at h <;> first | (cases h; rfl) | cases h) (fun a => rfl) (lpgood_none (by kernel_rfl))
    (fun o r h => by unfold yjz at h; split at h <;> first | (cases h; rfl) | cases h) (yk1 k)
def yk3 (k : Nat) : Orc := pureOrc [.agg [(.int .i64), (.sl (.int .i64)), (.int .i64), (.int .i64), (.int .i64)]] (yk0 k)
theorem yk4 (k : Nat) : OrcOk Try.prog 117 (yk3 k) := pureOrc_ok (yk2 k)
noncomputable def yk5 (k : Nat) : Env := { P := Try.prog, tt := tt, orc := fun g => cond (Nat.beq g 117) (yk3 k) (noOrc) }
theorem yk6 (k : Nat) : EnvOk (yk5 k) := fun g => (orc_cond (yk4 k) (noOrc_ok _ _))
noncomputable def yk7 : Code := (Try.f133.body).getD .skip
noncomputable def yk8 : Code := ((loopsIn 0 yk7).getD 0 (0, .skip)).2
def yk9 : List Nat := [1, 6, 7, 8]
def yka : List (Where × Co) := []
def ykb : Ex → List Nat
  | .exit j => cond (Nat.beq j 0) [1] []
  | .ret => [2]
  | .normal => []
def ykc : Ex → List (Where × Co)
  | .exit j => cond (Nat.beq j 0) [] []
  | .ret => []
  | .normal => []
def ykd (pv : (List Task × Int × Int × Int × Int × List Task × Int × Int × Int × Int) × (Int)) : St := { slots := [(1, .ptr 0 0 0), (6, .r [] (.sl (.st .task) pv.1.1)), (7, .r [] (.int .i64 pv.1.2.1)), (8, .r [] (.int .i64 pv.2))], heap := [(0, .box [.r [] (.int .i64 pv.1.2.2.1), .r [] (.int .i64 pv.1.2.2.2.1), .r [] (.int .i64 pv.1.2.2.2.2.1), .r [] (.sl (.st .task) pv.1.2.2.2.2.2.1), .r [] (.int .i64 pv.1.2.2.2.2.2.2.1), .r [] (.int .i64 pv.1.2.2.2.2.2.2.2.1), .r [] (.int .i64 pv.1.2.2.2.2.2.2.2.2.1), .r [] (.int .i64 pv.1.2.2.2.2.2.2.2.2.2)])], nid := 1, n := 51, gh := [] }
def yke (nf : NF) : Option ((List Task × Int × Int × Int × Int × List Task × Int × Int × Int × Int) × (Int)) := match nf with
  | ([.ptr 0 0 0, .r [] (.sl (.st .task) w0), .r [] (.int .i64 w1), .r [] (.int .i64 w2)], [.box [.r [] (.int .i64 w3), .r [] (.int .i64 w4), .r [] (.int .i64 w5), .r [] (.sl (.st .task) w6), .r [] (.int .i64 w7), .r [] (.int .i64 w8), .r [] (.int .i64 w9), .r [] (.int .i64 w10)]], []) => some ((w0, w1, w3, w4, w5, w6, w7, w8, w9, w10), w2)
  | _ => none
theorem ykf (nf : NF) (v : (List Task × Int × Int × Int × Int × List Task × Int × Int × Int × Int) × (Int)) (h : yke nf = some v) : denorm yk9 51 nf = ykd v := by
  unfold yke at h
  split at h
  · cases h; rfl
  · cases h
def ykg (p : List Task × Int × Int × Int × Int × List Task × Int × Int × Int × Int) (x : Unit) : St := { slots := [(1, .ptr 0 0 0)], heap := [(0, .box [.r [] (.int .i64 p.2.2.1), .r [] (.int .i64 p.2.2.2.1), .r [] (.int .i64 p.2.2.2.2.1), .r [] (.sl (.st .task) p.2.2.2.2.2.1), .r [] (.int .i64 p.2.2.2.2.2.2.1), .r [] (.int .i64 p.2.2.2.2.2.2.2.1), .r [] (.int .i64 p.2.2.2.2.2.2.2.2.1), .r [] (.int .i64 p.2.2.2.2.2.2.2.2.2)])], nid := 1, n := 51, gh := [] }
def ykh (p : List Task × Int × Int × Int × Int × List Task × Int × Int × Int × Int) (x : Bool) : St := { slots := [(2, .r [] (.bool x))], heap := [], nid := 0, n := 51, gh := [] }
def yki (ρ : Type) (k : Nat) : Nat → Ev ρ → Ev ρ := fun id f => cond (Nat.beq id 0) (loopOrc yk9 yka (fun n nf => cond (Nat.beq n 51) (yke nf) none) fun pv K => iter (fun v next => I_Sched_areTasks_g0 k pv.1 v next (fun x => K (.exit 0) (ykg pv.1 x)) (fun x => K .ret (ykh pv.1 x))) k pv.2) ((fun _ _ _ _ => none) id f)
theorem ykj {ρ : Type} (k : Nat) (p : List Task × Int × Int × Int × Int × List Task × Int × Int × Int × Int) (v : Int) (K K1 : Ex → St → Option ρ) : ev (yk5 k) (yki ρ k) 0 yk8 (ykd (p, v)) (fun e st' => match e with
    | .normal => (normC yk9 yka st').bind fun nf => K1 .normal (denorm yk9 st'.n nf)
    | e => (normC (ykb e) (ykc e) st').bind fun nf => K e (denorm (ykb e) st'.n nf)) = I_Sched_areTasks_g0 k p v (fun v' => K1 .normal (ykd (p, v'))) (fun x => K (.exit 0) (ykg p x)) (fun x => K .ret (ykh p x)) := by kernel_rfl
theorem ykk {ρ : Type} (k : Nat) : Sound Try.prog (.loop yk8) (yki ρ k 0 fun st K => ev (yk5 k) (yki ρ k) 0 yk8 st K) :=
  loop_ok (ev_sound (yk6 k) yk8 0 (lpgood_none (by kernel_rfl))) ykb ykc k (g := fun p v next K => I_Sched_areTasks_g0 k p v next (fun x => K (.exit 0) (ykg p x)) (fun x => K .ret (ykh p x))) (dec_at ykf) (fun p v K K1 => ykj k p v K K1)
def ykl (a : Sched) : List Arg := [.agg [.int .i64 a.now, .int .i64 a.slack, .int .i64 a.age, .sl (.st .task) a.tasks, .int .i64 a.run, .int .i64 a.left, .int .i64 a.turns, .int .i64 a.next]]
def ykm (l : List Arg) : Option (Sched) := match l with
  | [.agg [.int .i64 b0_0, .int .i64 b0_1, .int .i64 b0_2, .sl (.st .task) b0_3, .int .i64 b0_4, .int .i64 b0_5, .int .i64 b0_6, .int .i64 b0_7]] => some (⟨b0_0, b0_1, b0_2, b0_3, b0_4, b0_5, b0_6, b0_7⟩ : Sched)
  | _ => none
def ykn (r : Bool) : Out := (.r [] (.bool r), [])
def yko (o : Out) : Option (Bool) := match o with
  | (.r [] (.bool z1), []) => some z1
  | _ => none
def ykp (k : Nat) : PG := fun _ l K => (ykm l).bind fun a => (I_Sched_areTasks k a).bind fun r => K (ykn r)
theorem ykq (k : Nat) (a : Sched) : ev (yk5 k) (yki (Bool) k) 0 yk7 (st0 Try.f133 (ykl a)) (fin Try.prog Try.f133 (.sc) yko) = I_Sched_areTasks k a := by kernel_rfl
theorem ykr (k : Nat) : PureOk Try.prog 133 (ykp k) :=
  pureOk_of_ev (yk6 k) Try.func133 (by kernel_rfl) (by kernel_rfl) ykl ykm
    (fun l a h => by unfold ykm at h; split at h <;> first | (cases h; rfl) | cases h) (fun a => rfl) (lpgood_of (l := [(0, yk8)]) (by kernel_rfl) ⟨ykk k, trivial⟩)
    (fun o r h => by unfold yko at h; split at h <;> first | (cases h; rfl) | cases h) (ykq k)
def yks (k : Nat) : Orc := pureOrc [.agg [(.int .i64), (.int .i64), (.int .i64), (.sl (.st .task)), (.int .i64), (.int .i64), (.int .i64), (.int .i64)]] (ykp k)
theorem ykt (k : Nat) : OrcOk Try.prog 133 (yks k) := pureOrc_ok (ykr k)
noncomputable def yku (k : Nat) : Env := { P := Try.prog, tt := tt, orc := fun g => noOrc }
theorem ykv (k : Nat) : EnvOk (yku k) := fun g => (noOrc_ok _ _)
noncomputable def ykw : Code := (Try.f197.body).getD .skip
def ykx (ρ : Type) (k : Nat) : Nat → Ev ρ → Ev ρ := fun _ _ _ _ => none
def yky (a : Task × Int) : List SV := [.agg [.r [] (.int .i64 a.1.id), .r [] (.sl (.int .i64) a.1.costs), .r [] (.int .i64 a.1.at_), .r [] (.int .i64 a.1.due), .r [] (.int .i64 a.1.born)], .ptr 0 0 0]
def ykz (a : Task × Int) : List Blk := [.box [.r [] (.int .i64 a.2)]]
def yl0 (l : List SV) (b : List Blk) : Option (Task × Int) := match l, b with
  | [.agg [.r [] (.int .i64 w0), .r [] (.sl (.int .i64) w1), .r [] (.int .i64 w2), .r [] (.int .i64 w3), .r [] (.int .i64 w4)], .ptr 0 0 0], [.box [.r [] (.int .i64 w5)]] => some ((⟨w0, w1, w2, w3, w4⟩ : Task), w5)
  | _, _ => none
def yl1 (a : Task × Int) (r : Bool) : MOut := ⟨.r [] (.bool r), [some (.box [.r [] (.int .i64 a.2)])], []⟩
def yl2 (a : Task × Int) (o : MOut) : Option (Bool) := match o with
  | ⟨.r [] (.bool z1), [some (.box [.r [] (.int .i64 z2)])], []⟩ => cond (@sameL Int _ z2 a.2) (some z1) none
  | _ => none
def yl3 (k : Nat) : MG := fun _ l b K => (yl0 l b).bind fun a => (I_Sched_find_c1_m k a.1 a.2).bind fun r => K (yl1 a r)
theorem yl4 (k : Nat) (a : Task × Int) : ev (yku k) (ykx (Bool) k) 0 ykw (st0M Try.f197 (yky a) (ykz a)) (finM Try.prog Try.f197 (.sc) [.box [.sc]] (yl2 a)) = I_Sched_find_c1_m k a.1 a.2 := by kernel_rfl
theorem yl5 (k : Nat) : MutOk Try.prog 197 (yl3 k) :=
  mutOk_of_ev (ykv k) Try.func197 (by kernel_rfl) (by kernel_rfl) yky ykz yl0
    (fun l b a h => by unfold yl0 at h; split at h <;> first | (cases h; exact ⟨rfl, rfl⟩) | cases h) (fun a => rfl) (lpgood_none (by kernel_rfl)) (fun a r => rfl)
    (fun a o r h => by unfold yl2 at h; split at h <;> first | (obtain ⟨e0, hq⟩ := dec_chk1 h; clear h; subst e0; have h := hq; clear hq; cases h; rfl) | cases h) (yl4 k)
def yl6 (k : Nat) : Orc := mutOrc [.agg [(.int .i64), (.sl (.int .i64)), (.int .i64), (.int .i64), (.int .i64)], .keep] (yl3 k)
theorem yl7 (k : Nat) : OrcOk Try.prog 197 (yl6 k) := mutOrc_ok (yl5 k)
noncomputable def yl8 (k : Nat) : Env := { P := Try.prog, tt := tt, orc := fun g => cond (Nat.beq g 197) (yl6 k) (noOrc), wr := fun g => mem g [197], wt := true }
theorem yl9 (k : Nat) : EnvOk (yl8 k) := fun g => (orc_cond (yl7 k) (noOrc_ok _ _))
noncomputable def yla : Code := (Try.f192.body).getD .skip
noncomputable def ylb : Code := ((loopsIn 0 yla).getD 0 (0, .skip)).2
def ylc : List Nat := [0, 1, 7, 8]
def yld : List (Where × Co) := []
def yle : Ex → List Nat
  | .exit j => cond (Nat.beq j 0) [] []
  | .ret => [4]
  | .normal => []
def ylf : Ex → List (Where × Co)
  | .exit j => cond (Nat.beq j 0) [] []
  | .ret => []
  | .normal => []
def ylg (pv : (List Task × Int × Int) × (Int)) : St := { slots := [(0, .r [] (.sl (.st .task) pv.1.1)), (1, .fn (.func 197) [] [.ptr 0 0 0]), (7, .r [] (.int .i64 pv.1.2.1)), (8, .r [] (.int .i64 pv.2))], heap := [(0, .box [.r [] (.int .i64 pv.1.2.2)])], nid := 1, n := 19, gh := [some 0] }
def ylh (nf : NF) : Option ((List Task × Int × Int) × (Int)) := match nf with
  | ([.r [] (.sl (.st .task) w0), .fn (.func 197) [] [.ptr 0 0 0], .r [] (.int .i64 w1), .r [] (.int .i64 w2)], [.box [.r [] (.int .i64 w3)]], [some 0]) => some ((w0, w1, w3), w2)
  | _ => none
theorem yli (nf : NF) (v : (List Task × Int × Int) × (Int)) (h : ylh nf = some v) : denorm ylc 19 nf = ylg v := by
  unfold ylh at h
  split at h
  · cases h; rfl
  · cases h
def ylj (p : List Task × Int × Int) (x : Unit) : St := { slots := [], heap := [(0, .box [.r [] (.int .i64 p.2.2)])], nid := 1, n := 19, gh := [some 0] }
def ylk (p : List Task × Int × Int) (x : Int) : St := { slots := [(4, .r [] (.int .i64 x))], heap := [(0, .box [.r [] (.int .i64 p.2.2)])], nid := 1, n := 19, gh := [some 0] }
def yll (ρ : Type) (k : Nat) : Nat → Ev ρ → Ev ρ := fun id f => cond (Nat.beq id 0) (loopOrc ylc yld (fun n nf => cond (Nat.beq n 19) (ylh nf) none) fun pv K => iter (fun v next => slices_IndexFunc_lI_Task_I_Task_m_g0 k pv.1 v next (fun x => K (.exit 0) (ylj pv.1 x)) (fun x => K .ret (ylk pv.1 x))) k pv.2) ((fun _ _ _ _ => none) id f)
theorem ylm {ρ : Type} (k : Nat) (p : List Task × Int × Int) (v : Int) (K K1 : Ex → St → Option ρ) : ev (yl8 k) (yll ρ k) 0 ylb (ylg (p, v)) (fun e st' => match e with
    | .normal => (normC ylc yld st').bind fun nf => K1 .normal (denorm ylc st'.n nf)
    | e => (normC (yle e) (ylf e) st').bind fun nf => K e (denorm (yle e) st'.n nf)) = slices_IndexFunc_lI_Task_I_Task_m_g0 k p v (fun v' => K1 .normal (ylg (p, v'))) (fun x => K (.exit 0) (ylj p x)) (fun x => K .ret (ylk p x)) := by kernel_rfl
theorem yln {ρ : Type} (k : Nat) : Sound Try.prog (.loop ylb) (yll ρ k 0 fun st K => ev (yl8 k) (yll ρ k) 0 ylb st K) :=
  loop_ok (ev_sound (yl9 k) ylb 0 (lpgood_none (by kernel_rfl))) yle ylf k (g := fun p v next K => slices_IndexFunc_lI_Task_I_Task_m_g0 k p v next (fun x => K (.exit 0) (ylj p x)) (fun x => K .ret (ylk p x))) (dec_at yli) (fun p v K K1 => ylm k p v K K1)
def ylo (a : List Task × Int) : List SV := [.r [] (.sl (.st .task) a.1), .fn (.func 197) [] [.ptr 0 0 0]]
def ylp (a : List Task × Int) : List Blk := [.box [.r [] (.int .i64 a.2)]]
def ylq (l : List SV) (b : List Blk) : Option (List Task × Int) := match l, b with
  | [.r [] (.sl (.st .task) w0), .fn (.func 197) [] [.ptr 0 0 0]], [.box [.r [] (.int .i64 w1)]] => some (w0, w1)
  | _, _ => none
def ylr (a : List Task × Int) (r : Int) : MOut := ⟨.r [] (.int .i64 r), [some (.box [.r [] (.int .i64 a.2)])], []⟩
def yls (a : List Task × Int) (o : MOut) : Option (Int) := match o with
  | ⟨.r [] (.int .i64 z1), [some (.box [.r [] (.int .i64 z2)])], []⟩ => cond (@sameL Int _ z2 a.2) (some z1) none
  | _ => none
def ylt (k : Nat) : MG := fun _ l b K => (ylq l b).bind fun a => (slices_IndexFunc_lI_Task_I_Task_m k a.1 a.2).bind fun r => K (ylr a r)
theorem ylu (k : Nat) (a : List Task × Int) : ev (yl8 k) (yll (Int) k) 0 yla (st0M Try.f192 (ylo a) (ylp a)) (finM Try.prog Try.f192 (.sc) [.box [.sc]] (yls a)) = slices_IndexFunc_lI_Task_I_Task_m k a.1 a.2 := by kernel_rfl
theorem ylv (k : Nat) : MutOk Try.prog 192 (ylt k) :=
  mutOk_of_ev (yl9 k) Try.func192 (by kernel_rfl) (by kernel_rfl) ylo ylp ylq
    (fun l b a h => by unfold ylq at h; split at h <;> first | (cases h; exact ⟨rfl, rfl⟩) | cases h) (fun a => rfl) (lpgood_of (l := [(0, ylb)]) (by kernel_rfl) ⟨yln k, trivial⟩) (fun a r => rfl)
    (fun a o r h => by unfold yls at h; split at h <;> first | (obtain ⟨e0, hq⟩ := dec_chk1 h; clear h; subst e0; have h := hq; clear hq; cases h; rfl) | cases h) (ylu k)
def ylw (k : Nat) : Orc := mutOrc [.one (.sl (.st .task)), .keep] (ylt k)
theorem ylx (k : Nat) : OrcOk Try.prog 192 (ylw k) := mutOrc_ok (ylv k)
noncomputable def yly (k : Nat) : Env := { P := Try.prog, tt := tt, orc := fun g => cond (Nat.beq g 192) (ylw k) (noOrc), wr := fun g => mem g [192], wt := true }
theorem ylz (k : Nat) : EnvOk (yly k) := fun g => (orc_cond (ylx k) (noOrc_ok _ _))
noncomputable def ym0 : Code := (Try.f134.body).getD .skip
def ym1 (ρ : Type) (k : Nat) : Nat → Ev ρ → Ev ρ := fun _ _ _ _ => none
def ym2 (a : Sched × Int) : List Arg := [.agg [.int .i64 a.1.now, .int .i64 a.1.slack, .int .i64 a.1.age, .sl (.st .task) a.1.tasks, .int .i64 a.1.run, .int .i64 a.1.left, .int .i64 a.1.turns, .int .i64 a.1.next], .one (.int .i64 a.2)]
def ym3 (l : List Arg) : Option (Sched × Int) := match l with
  | [.agg [.int .i64 b0_0, .int .i64 b0_1, .int .i64 b0_2, .sl (.st .task) b0_3, .int .i64 b0_4, .int .i64 b0_5, .int .i64 b0_6, .int .i64 b0_7], .one (.int .i64 b1)] => some ((⟨b0_0, b0_1, b0_2, b0_3, b0_4, b0_5, b0_6, b0_7⟩ : Sched), b1)
  | _ => none
def ym4 (r : Int) : Out := (.r [] (.int .i64 r), [])
def ym5 (o : Out) : Option (Int) := match o with
  | (.r [] (.int .i64 z1), []) => some z1
  | _ => none
def ym6 (k : Nat) : PG := fun _ l K => (ym3 l).bind fun a => (I_Sched_find k a.1 a.2).bind fun r => K (ym4 r)
theorem ym7 (k : Nat) (a : Sched × Int) : ev (yly k) (ym1 (Int) k) 0 ym0 (st0 Try.f134 (ym2 a)) (fin Try.prog Try.f134 (.sc) ym5) = I_Sched_find k a.1 a.2 := by kernel_rfl
theorem ym8 (k : Nat) : PureOk Try.prog 134 (ym6 k) :=
  pureOk_of_ev (ylz k) Try.func134 (by kernel_rfl) (by kernel_rfl) ym2 ym3
    (fun l a h => by unfold ym3 at h; split at h <;> first | (cases h; rfl) | cases h) (fun a => rfl) (lpgood_none (by kernel_rfl))
    (fun o r h => by unfold ym5 at h; split at h <;> first | (cases h; rfl) | cases h) (ym7 k)
def ym9 (k : Nat) : Orc := pureOrc [.agg [(.int .i64), (.int .i64), (.int .i64), (.sl (.st .task)), (.int .i64), (.int .i64), (.int .i64), (.int .i64)], .one (.int .i64)] (ym6 k)
theorem yma (k : Nat) : OrcOk Try.prog 134 (ym9 k) := pureOrc_ok (ym8 k)
noncomputable def ymb (k : Nat) : Env := { P := Try.prog, tt := tt, orc := fun g => cond (Nat.beq g 131) (yib k) (cond (Nat.beq g 132) (o_I_in k) (cond (Nat.beq g 133) (yks k) (cond (Nat.beq g 134) (ym9 k) (noOrc)))) }
theorem ymc (k : Nat) : EnvOk (ymb k) := fun g => (orc_cond (yic k) (orc_cond (yhz k) (orc_cond (ykt k) (orc_cond (yma k) (noOrc_ok _ _)))))
noncomputable def ymd : Code := (Try.f40.body).getD .skip
def yme (ρ : Type) (k : Nat) : Nat → Ev ρ → Ev ρ := fun _ _ _ _ => none
def ymf (a : Sched) : List Arg := [.agg [.int .i64 a.now, .int .i64 a.slack, .int .i64 a.age, .sl (.st .task) a.tasks, .int .i64 a.run, .int .i64 a.left, .int .i64 a.turns, .int .i64 a.next]]
def ymg (l : List Arg) : Option (Sched) := match l with
  | [.agg [.int .i64 b0_0, .int .i64 b0_1, .int .i64 b0_2, .sl (.st .task) b0_3, .int .i64 b0_4, .int .i64 b0_5, .int .i64 b0_6, .int .i64 b0_7]] => some (⟨b0_0, b0_1, b0_2, b0_3, b0_4, b0_5, b0_6, b0_7⟩ : Sched)
  | _ => none
def ymh (r : Bool) : Out := (.r [] (.bool r), [])
def ymi (o : Out) : Option (Bool) := match o with
  | (.r [] (.bool z1), []) => some z1
  | _ => none
def ymj (k : Nat) : PG := fun _ l K => (ymg l).bind fun a => (I_SchedOk k a).bind fun r => K (ymh r)
theorem ymk (k : Nat) (a : Sched) : ev (ymb k) (yme (Bool) k) 0 ymd (st0 Try.f40 (ymf a)) (fin Try.prog Try.f40 (.sc) ymi) = I_SchedOk k a := by kernel_rfl
theorem yml (k : Nat) : PureOk Try.prog 40 (ymj k) :=
  pureOk_of_ev (ymc k) Try.func40 (by kernel_rfl) (by kernel_rfl) ymf ymg
    (fun l a h => by unfold ymg at h; split at h <;> first | (cases h; rfl) | cases h) (fun a => rfl) (lpgood_none (by kernel_rfl))
    (fun o r h => by unfold ymi at h; split at h <;> first | (cases h; rfl) | cases h) (ymk k)
def ymm (k : Nat) : Orc := pureOrc [.agg [(.int .i64), (.int .i64), (.int .i64), (.sl (.st .task)), (.int .i64), (.int .i64), (.int .i64), (.int .i64)]] (ymj k)
theorem ymn (k : Nat) : OrcOk Try.prog 40 (ymm k) := pureOrc_ok (yml k)
noncomputable def ymo (k : Nat) : Env := { P := Try.prog, tt := tt, orc := fun g => noOrc }
theorem ymp (k : Nat) : EnvOk (ymo k) := fun g => (noOrc_ok _ _)
noncomputable def ymq : Code := (Try.f120.body).getD .skip
def ymr (ρ : Type) (k : Nat) : Nat → Ev ρ → Ev ρ := fun _ _ _ _ => none
def yms (a : Sched × Task) : List Arg := [.agg [.int .i64 a.1.now, .int .i64 a.1.slack, .int .i64 a.1.age, .sl (.st .task) a.1.tasks, .int .i64 a.1.run, .int .i64 a.1.left, .int .i64 a.1.turns, .int .i64 a.1.next], .agg [.int .i64 a.2.id, .sl (.int .i64) a.2.costs, .int .i64 a.2.at_, .int .i64 a.2.due, .int .i64 a.2.born]]
def ymt (l : List Arg) : Option (Sched × Task) := match l with
  | [.agg [.int .i64 b0_0, .int .i64 b0_1, .int .i64 b0_2, .sl (.st .task) b0_3, .int .i64 b0_4, .int .i64 b0_5, .int .i64 b0_6, .int .i64 b0_7], .agg [.int .i64 b1_0, .sl (.int .i64) b1_1, .int .i64 b1_2, .int .i64 b1_3, .int .i64 b1_4]] => some ((⟨b0_0, b0_1, b0_2, b0_3, b0_4, b0_5, b0_6, b0_7⟩ : Sched), (⟨b1_0, b1_1, b1_2, b1_3, b1_4⟩ : Task))
  | _ => none
def ymu (r : Bool) : Out := (.r [] (.bool r), [])
def ymv (o : Out) : Option (Bool) := match o with
  | (.r [] (.bool z1), []) => some z1
  | _ => none
def ymw (k : Nat) : PG := fun _ l K => (ymt l).bind fun a => (I_Sched_isLate k a.1 a.2).bind fun r => K (ymu r)
theorem ymx (k : Nat) (a : Sched × Task) : ev (ymo k) (ymr (Bool) k) 0 ymq (st0 Try.f120 (yms a)) (fin Try.prog Try.f120 (.sc) ymv) = I_Sched_isLate k a.1 a.2 := by kernel_rfl
theorem ymy (k : Nat) : PureOk Try.prog 120 (ymw k) :=
  pureOk_of_ev (ymp k) Try.func120 (by kernel_rfl) (by kernel_rfl) yms ymt
    (fun l a h => by unfold ymt at h; split at h <;> first | (cases h; rfl) | cases h) (fun a => rfl) (lpgood_none (by kernel_rfl))
    (fun o r h => by unfold ymv at h; split at h <;> first | (cases h; rfl) | cases h) (ymx k)
def ymz (k : Nat) : Orc := pureOrc [.agg [(.int .i64), (.int .i64), (.int .i64), (.sl (.st .task)), (.int .i64), (.int .i64), (.int .i64), (.int .i64)], .agg [(.int .i64), (.sl (.int .i64)), (.int .i64), (.int .i64), (.int .i64)]] (ymw k)
theorem yn0 (k : Nat) : OrcOk Try.prog 120 (ymz k) := pureOrc_ok (ymy k)
noncomputable def yn1 (k : Nat) : Env := { P := Try.prog, tt := tt, orc := fun g => noOrc }
theorem yn2 (k : Nat) : EnvOk (yn1 k) := fun g => (noOrc_ok _ _)
noncomputable def yn3 : Code := (Try.f180.body).getD .skip
noncomputable def yn4 : Code := ((loopsIn 0 yn3).getD 0 (0, .skip)).2
def yn5 : List Nat := [3, 6, 7, 8]
def yn6 : List (Where × Co) := []
def yn7 : Ex → List Nat
  | .exit j => cond (Nat.beq j 0) [3] []
  | .ret => []
  | .normal => []
def yn8 : Ex → List (Where × Co)
  | .exit j => cond (Nat.beq j 0) [] []
  | .ret => []
  | .normal => []
def yn9 (pv : (List Int × Int) × (Int × Int)) : St := { slots := [(3, .r [] (.int .i64 pv.2.1)), (6, .r [] (.sl (.int .i64) pv.1.1)), (7, .r [] (.int .i64 pv.1.2)), (8, .r [] (.int .i64 pv.2.2))], heap := [], nid := 0, n := 17, gh := [] }
def yna (nf : NF) : Option ((List Int × Int) × (Int × Int)) := match nf with
  | ([.r [] (.int .i64 w0), .r [] (.sl (.int .i64) w1), .r [] (.int .i64 w2), .r [] (.int .i64 w3)], [], []) => some ((w1, w2), (w0, w3))
  | _ => none
theorem ynb (nf : NF) (v : (List Int × Int) × (Int × Int)) (h : yna nf = some v) : denorm yn5 17 nf = yn9 v := by
  unfold yna at h
  split at h
  · cases h; rfl
  · cases h
def ync (p : List Int × Int) (x : Int) : St := { slots := [(3, .r [] (.int .i64 x))], heap := [], nid := 0, n := 17, gh := [] }
def ynd (ρ : Type) (k : Nat) : Nat → Ev ρ → Ev ρ := fun id f => cond (Nat.beq id 0) (loopOrc yn5 yn6 (fun n nf => cond (Nat.beq n 17) (yna nf) none) fun pv K => iter (fun v next => I_sum_g0 k pv.1 v next (fun x => K (.exit 0) (ync pv.1 x))) k pv.2) ((fun _ _ _ _ => none) id f)
theorem yne {ρ : Type} (k : Nat) (p : List Int × Int) (v : Int × Int) (K K1 : Ex → St → Option ρ) : ev (yn1 k) (ynd ρ k) 0 yn4 (yn9 (p, v)) (fun e st' => match e with
    | .normal => (normC yn5 yn6 st').bind fun nf => K1 .normal (denorm yn5 st'.n nf)
    | e => (normC (yn7 e) (yn8 e) st').bind fun nf => K e (denorm (yn7 e) st'.n nf)) = I_sum_g0 k p v (fun v' => K1 .normal (yn9 (p, v'))) (fun x => K (.exit 0) (ync p x)) := by kernel_rfl
theorem ynf {ρ : Type} (k : Nat) : Sound Try.prog (.loop yn4) (ynd ρ k 0 fun st K => ev (yn1 k) (ynd ρ k) 0 yn4 st K) :=
  loop_ok (ev_sound (yn2 k) yn4 0 (lpgood_none (by kernel_rfl))) yn7 yn8 k (g := fun p v next K => I_sum_g0 k p v next (fun x => K (.exit 0) (ync p x))) (dec_at ynb) (fun p v K K1 => yne k p v K K1)
def yng (a : List Int) : List Arg := [.one (.sl (.int .i64) a)]
def ynh (l : List Arg) : Option (List Int) := match l with
  | [.one (.sl (.int .i64) b0)] => some b0
  | _ => none
def yni (r : Int) : Out := (.r [] (.int .i64 r), [])
def ynj (o : Out) : Option (Int) := match o with
  | (.r [] (.int .i64 z1), []) => some z1
  | _ => none
def ynk (k : Nat) : PG := fun _ l K => (ynh l).bind fun a => (I_sum k a).bind fun r => K (yni r)
theorem ynl (k : Nat) (a : List Int) : ev (yn1 k) (ynd (Int) k) 0 yn3 (st0 Try.f180 (yng a)) (fin Try.prog Try.f180 (.sc) ynj) = I_sum k a := by kernel_rfl
theorem ynm (k : Nat) : PureOk Try.prog 180 (ynk k) :=
  pureOk_of_ev (yn2 k) Try.func180 (by kernel_rfl) (by kernel_rfl) yng ynh
    (fun l a h => by unfold ynh at h; split at h <;> first | (cases h; rfl) | cases h) (fun a => rfl) (lpgood_of (l := [(0, yn4)]) (by kernel_rfl) ⟨ynf k, trivial⟩)
    (fun o r h => by unfold ynj at h; split at h <;> first | (cases h; rfl) | cases h) (ynl k)
def ynn (k : Nat) : Orc := pureOrc [.one (.sl (.int .i64))] (ynk k)
theorem yno (k : Nat) : OrcOk Try.prog 180 (ynn k) := pureOrc_ok (ynm k)
noncomputable def ynp (k : Nat) : Env := { P := Try.prog, tt := tt, orc := fun g => cond (Nat.beq g 180) (ynn k) (noOrc) }
theorem ynq (k : Nat) : EnvOk (ynp k) := fun g => (orc_cond (yno k) (noOrc_ok _ _))
noncomputable def ynr : Code := (Try.f193.body).getD .skip
def yns (ρ : Type) (k : Nat) : Nat → Ev ρ → Ev ρ := fun _ _ _ _ => none
def ynt (a : Sched × Task) : List Arg := [.agg [.int .i64 a.1.now, .int .i64 a.1.slack, .int .i64 a.1.age, .sl (.st .task) a.1.tasks, .int .i64 a.1.run, .int .i64 a.1.left, .int .i64 a.1.turns, .int .i64 a.1.next], .agg [.int .i64 a.2.id, .sl (.int .i64) a.2.costs, .int .i64 a.2.at_, .int .i64 a.2.due, .int .i64 a.2.born]]
end
end Go.Proofs.Ev
