/- Text of this claim. -/
import Derived.Test.YthaamopjdieecaaEvK6
import Derived.Test.YthaamopjdieecaaProg
import Derived.Test.YthaamopjdieecaaEvD1
import Derived.Test.YthaamopjdieecaaEvD11
import Derived.Test.YthaamopjdieecaaEvD3
import Derived.Test.YthaamopjdieecaaEvD6
import Derived.Test.YthaamopjdieecaaEvD7
import Derived.Test.YthaamopjdieecaaEvD8
set_option linter.unusedVariables false
set_option linter.unusedSimpArgs false
set_option linter.unusedVariables false
set_option linter.unusedSimpArgs false
set_option maxRecDepth 100000
set_option maxHeartbeats 4000000
namespace Go.Proofs.Ev
noncomputable section
variable [Tok]
set_option linter.unusedSectionVars false
def tt : TT := look [(2, (.int .i64)), (3, (.int .i64)), (4, .bool), (5, (.int .u8)), (6, (.int .u8)), (9, .str), (10, .str), (11, .str), (12, (.int .u64)), (21, (.int .i32)), (22, (.sl (.int .u8))), (24, (.st .shape)), (25, (.sl (.int .i64))), (27, (.st .tensor)), (29, (.st .step)), (33, (.st .shape)), (35, (.st .tensor)), (37, (.st .step)), (44, (.sl (.st .step))), (47, (.sl (.st .step))), (53, (.sl (.st .task))), (64, (.sl (.sl (.int .i64)))), (74, (.st .task)), (76, (.sl (.st .layer))), (78, (.st .model)), (80, (.sl (.st .layer))), (82, (.st .model)), (90, (.sl (.st .tensor))), (102, (.sl (.st .wish))), (106, (.sl (.st .wish))), (126, (.sl (.st .shape))), (163, (.st .layer)), (179, (.st .wish)), (181, (.st .wish)), (202, (.int .u64)), (214, (.st .layer)), (219, (.sl (.sl (.st .layer)))), (258, (.int .u32)), (259, (.int .u8)), (260, (.int .u8)), (263, (.int .i32)), (264, (.int .i32))]
def ttTask : TT := look [(2, (.int .i64)), (3, (.int .i64)), (4, .bool), (5, (.int .u8)), (6, (.int .u8)), (9, .str), (10, .str), (11, .str), (12, (.int .u64)), (21, (.int .i32)), (22, (.sl (.int .u8))), (24, (.st .shape)), (25, (.sl (.int .i64))), (27, (.st .tensor)), (29, (.st .step)), (33, (.st .shape)), (35, (.st .tensor)), (37, (.st .step)), (44, (.sl (.st .step))), (47, (.sl (.st .step))), (53, (.sl (.st .taskK))), (64, (.sl (.sl (.int .i64)))), (74, (.st .taskK)), (76, (.sl (.st .layer))), (78, (.st .model)), (80, (.sl (.st .layer))), (82, (.st .model)), (90, (.sl (.st .tensor))), (102, (.sl (.st .wish))), (106, (.sl (.st .wish))), (126, (.sl (.st .shape))), (163, (.st .layer)), (179, (.st .wish)), (181, (.st .wish)), (202, (.int .u64)), (214, (.st .layer)), (219, (.sl (.sl (.st .layer)))), (258, (.int .u32)), (259, (.int .u8)), (260, (.int .u8)), (263, (.int .i32)), (264, (.int .i32))]
noncomputable def y0 (k : Nat) : Env := { P := Try.prog, tt := tt, orc := fun g => noOrc }
theorem y1 (k : Nat) : EnvOk (y0 k) := fun g => (noOrc_ok _ _)
noncomputable def ya : Code := (Try.f29.body).getD .skip
def yb (ρ : Type) (k : Nat) : Nat → Ev ρ → Ev ρ := fun _ _ _ _ => none
def yc (a : List Int) : List Arg := [.one (.sl (.int .u8) a)]
def yd (l : List Arg) : Option (List Int) := match l with
  | [.one (.sl (.int .u8) b0)] => some b0
  | _ => none
def ye (r : Bool) : Out := (.r [] (.bool r), [])
def yf (o : Out) : Option (Bool) := match o with
  | (.r [] (.bool z1), []) => some z1
  | _ => none
def yg (k : Nat) : PG := fun _ l K => (yd l).bind fun a => (L_big k a).bind fun r => K (ye r)
theorem yh (k : Nat) (a : List Int) : ev (y0 k) (yb (Bool) k) 0 ya (st0 Try.f29 (yc a)) (fin Try.prog Try.f29 (.sc) yf) = L_big k a := by kernel_rfl
theorem yi (k : Nat) : PureOk Try.prog 29 (yg k) :=
  pureOk_of_ev (y1 k) Try.func29 (by kernel_rfl) (by kernel_rfl) yc yd
    (fun l a h => by unfold yd at h; split at h <;> first | (cases h; rfl) | cases h) (fun a => rfl) (lpgood_none (by kernel_rfl))
    (fun o r h => by unfold yf at h; split at h <;> first | (cases h; rfl) | cases h) (yh k)
def yj (k : Nat) : Orc := pureOrc [.one (.sl (.int .u8))] (yg k)
theorem yk (k : Nat) : OrcOk Try.prog 29 (yj k) := pureOrc_ok (yi k)
noncomputable def yl (k : Nat) : Env := { P := Try.prog, tt := tt, orc := fun g => noOrc }
theorem ym (k : Nat) : EnvOk (yl k) := fun g => (noOrc_ok _ _)
noncomputable def yn : Code := (Try.f124.body).getD .skip
noncomputable def yo : Code := ((loopsIn 0 yn).getD 0 (0, .skip)).2
def yp : List Nat := [0, 3, 4]
def yq : List (Where × Co) := []
def yr : Ex → List Nat
  | .exit j => cond (Nat.beq j 0) [0, 3] []
  | .ret => []
  | .normal => []
def yt : Ex → List (Where × Co)
  | .exit j => cond (Nat.beq j 0) [] []
  | .ret => []
  | .normal => []
def yu (pv : (List Int) × (Int × Int)) : St := { slots := [(0, .r [] (.sl (.int .u8) pv.1)), (3, .r [] (.int .i64 pv.2.1)), (4, .r [] (.int .i64 pv.2.2))], heap := [], nid := 0, n := 32, gh := [] }
def yv (nf : NF) : Option ((List Int) × (Int × Int)) := match nf with
  | ([.r [] (.sl (.int .u8) w0), .r [] (.int .i64 w1), .r [] (.int .i64 w2)], [], []) => some (w0, (w1, w2))
  | _ => none
theorem yw (nf : NF) (v : (List Int) × (Int × Int)) (h : yv nf = some v) : denorm yp 32 nf = yu v := by
  unfold yv at h
  split at h
  · cases h; rfl
  · cases h
def yx (p : List Int) (x : Int) : St := { slots := [(0, .r [] (.sl (.int .u8) p)), (3, .r [] (.int .i64 x))], heap := [], nid := 0, n := 32, gh := [] }
def yy (ρ : Type) (k : Nat) : Nat → Ev ρ → Ev ρ := fun id f => cond (Nat.beq id 0) (loopOrc yp yq (fun n nf => cond (Nat.beq n 32) (yv nf) none) fun pv K => iter (fun v next => S_l01New_m_g0 k pv.1 v next (fun x => K (.exit 0) (yx pv.1 x))) k pv.2) ((fun _ _ _ _ => none) id f)
theorem yz {ρ : Type} (k : Nat) (p : List Int) (v : Int × Int) (K K1 : Ex → St → Option ρ) : ev (yl k) (yy ρ k) 0 yo (yu (p, v)) (fun e st' => match e with
    | .normal => (normC yp yq st').bind fun nf => K1 .normal (denorm yp st'.n nf)
    | e => (normC (yr e) (yt e) st').bind fun nf => K e (denorm (yr e) st'.n nf)) = S_l01New_m_g0 k p v (fun v' => K1 .normal (yu (p, v'))) (fun x => K (.exit 0) (yx p x)) := by kernel_rfl
theorem y11 {ρ : Type} (k : Nat) : Sound Try.prog (.loop yo) (yy ρ k 0 fun st K => ev (yl k) (yy ρ k) 0 yo st K) :=
  loop_ok (ev_sound (ym k) yo 0 (lpgood_none (by kernel_rfl))) yr yt k (g := fun p v next K => S_l01New_m_g0 k p v next (fun x => K (.exit 0) (yx p x))) (dec_at yw) (fun p v K K1 => yz k p v K K1)
def y13 (a : List Int) : List SV := [.r [] (.sl (.int .u8) a)]
def y16 (a : List Int) : List Blk := []
def y17 (l : List SV) (b : List Blk) : Option (List Int) := match l, b with
  | [.r [] (.sl (.int .u8) w0)], [] => some w0
  | _, _ => none
def y18 (a : List Int) (r : Int × Int) : MOut := ⟨.ptr 0 0 0, [], [.box [.r [] (.sl (.int .u8) a), .r [] (.int .i64 r.1), .r [] (.int .i64 r.2)]]⟩
def y1a (a : List Int) (o : MOut) : Option (Int × Int) := match o with
  | ⟨.ptr 0 0 0, [], [.box [.r [] (.sl (.int .u8) z1), .r [] (.int .i64 z2), .r [] (.int .i64 z3)]]⟩ => cond (@sameL (List Int) _ z1 a) (some (z2, z3)) none
  | _ => none
def y1b (k : Nat) : MG := fun _ l b K => (y17 l b).bind fun a => (S_l01New_m k a).bind fun r => K (y18 a r)
theorem y1c (k : Nat) (a : List Int) : ev (yl k) (yy (Int × Int) k) 0 yn (st0M Try.f124 (y13 a) (y16 a)) (finM Try.prog Try.f124 (.ptr) [.box [.ro (.int .u8), .sc, .sc]] (y1a a)) = S_l01New_m k a := by kernel_rfl
theorem y1d (k : Nat) : MutOk Try.prog 124 (y1b k) :=
  mutOk_of_ev (ym k) Try.func124 (by kernel_rfl) (by kernel_rfl) y13 y16 y17
    (fun l b a h => by unfold y17 at h; split at h <;> first | (cases h; exact ⟨rfl, rfl⟩) | cases h) (fun a => rfl) (lpgood_of (l := [(0, yo)]) (by kernel_rfl) ⟨y11 k, trivial⟩) (fun a r => rfl)
    (fun a o r h => by unfold y1a at h; split at h <;> first | (obtain ⟨e0, hq⟩ := dec_chk1 h; clear h; subst e0; have h := hq; clear hq; cases h; rfl) | cases h) (y1c k)
def y1e (k : Nat) : Orc := mutOrc [.one (.sl (.int .u8))] (y1b k)
theorem y1f (k : Nat) : OrcOk Try.prog 124 (y1e k) := mutOrc_ok (y1d k)
noncomputable def y1g (k : Nat) : Env := { P := Try.prog, tt := tt, orc := fun g => noOrc }
theorem y1h (k : Nat) : EnvOk (y1g k) := fun g => (noOrc_ok _ _)
noncomputable def y1i : Code := (Try.f125.body).getD .skip
def y1j (ρ : Type) (k : Nat) : Nat → Ev ρ → Ev ρ := fun _ _ _ _ => none
def y1k (a : List Int × Int) : List Arg := [.one (.sl (.int .u8) a.1), .one (.int .i64 a.2)]
def y1l (l : List Arg) : Option (List Int × Int) := match l with
  | [.one (.sl (.int .u8) b0), .one (.int .i64 b1)] => some (b0, b1)
  | _ => none
def y1m (r : Int) : Out := (.r [] (.int .i64 r), [])
def y1n (o : Out) : Option (Int) := match o with
  | (.r [] (.int .i64 z1), []) => some z1
  | _ => none
def y1o (k : Nat) : PG := fun _ l K => (y1l l).bind fun a => (S_l01Size k a.1 a.2).bind fun r => K (y1m r)
theorem y1p (k : Nat) (a : List Int × Int) : ev (y1g k) (y1j (Int) k) 0 y1i (st0 Try.f125 (y1k a)) (fin Try.prog Try.f125 (.sc) y1n) = S_l01Size k a.1 a.2 := by kernel_rfl
theorem y1q (k : Nat) : PureOk Try.prog 125 (y1o k) :=
  pureOk_of_ev (y1h k) Try.func125 (by kernel_rfl) (by kernel_rfl) y1k y1l
    (fun l a h => by unfold y1l at h; split at h <;> first | (cases h; rfl) | cases h) (fun a => rfl) (lpgood_none (by kernel_rfl))
    (fun o r h => by unfold y1n at h; split at h <;> first | (cases h; rfl) | cases h) (y1p k)
def y1r (k : Nat) : Orc := pureOrc [.one (.sl (.int .u8)), .one (.int .i64)] (y1o k)
theorem y1s (k : Nat) : OrcOk Try.prog 125 (y1r k) := pureOrc_ok (y1q k)
noncomputable def y1t (k : Nat) : Env := { P := Try.prog, tt := tt, orc := fun g => noOrc }
theorem y1u (k : Nat) : EnvOk (y1t k) := fun g => (noOrc_ok _ _)
noncomputable def y1v : Code := (Try.f190.body).getD .skip
def y1w (ρ : Type) (k : Nat) : Nat → Ev ρ → Ev ρ := fun _ _ _ _ => none
def y1x (a : List Int × Int × Int) : List SV := [.ptr 0 0 0]
def y1y (a : List Int × Int × Int) : List Blk := [.box [.r [] (.sl (.int .u8) a.1), .r [] (.int .i64 a.2.1), .r [] (.int .i64 a.2.2)]]
def y1z (l : List SV) (b : List Blk) : Option (List Int × Int × Int) := match l, b with
  | [.ptr 0 0 0], [.box [.r [] (.sl (.int .u8) w0), .r [] (.int .i64 w1), .r [] (.int .i64 w2)]] => some (w0, w1, w2)
  | _, _ => none
def y22 (a : List Int × Int × Int) (r : Int × Int × Int) : MOut := ⟨.r [] (.int .i64 r.1), [some (.box [.r [] (.sl (.int .u8) a.1), .r [] (.int .i64 r.2.1), .r [] (.int .i64 r.2.2)])], []⟩
def y23 (a : List Int × Int × Int) (o : MOut) : Option (Int × Int × Int) := match o with
  | ⟨.r [] (.int .i64 z1), [some (.box [.r [] (.sl (.int .u8) z2), .r [] (.int .i64 z3), .r [] (.int .i64 z4)])], []⟩ => cond (@sameL (List Int) _ z2 a.1) (some (z1, z3, z4)) none
  | _ => none
def y25 (k : Nat) : MG := fun _ l b K => (y1z l b).bind fun a => (S_l01Byte_m k a.1 a.2.1 a.2.2).bind fun r => K (y22 a r)
theorem y26 (k : Nat) (a : List Int × Int × Int) : ev (y1t k) (y1w (Int × Int × Int) k) 0 y1v (st0M Try.f190 (y1x a) (y1y a)) (finM Try.prog Try.f190 (.sc) [.box [.ro (.int .u8), .sc, .sc]] (y23 a)) = S_l01Byte_m k a.1 a.2.1 a.2.2 := by kernel_rfl
theorem y27 (k : Nat) : MutOk Try.prog 190 (y25 k) :=
  mutOk_of_ev (y1u k) Try.func190 (by kernel_rfl) (by kernel_rfl) y1x y1y y1z
    (fun l b a h => by unfold y1z at h; split at h <;> first | (cases h; exact ⟨rfl, rfl⟩) | cases h) (fun a => rfl) (lpgood_none (by kernel_rfl)) (fun a r => rfl)
    (fun a o r h => by unfold y23 at h; split at h <;> first | (obtain ⟨e0, hq⟩ := dec_chk1 h; clear h; subst e0; have h := hq; clear hq; cases h; rfl) | cases h) (y26 k)
def y2a (k : Nat) : Orc := mutOrc [.keep] (y25 k)
theorem y2b (k : Nat) : OrcOk Try.prog 190 (y2a k) := mutOrc_ok (y27 k)
noncomputable def y2c (k : Nat) : Env := { P := Try.prog, tt := tt, orc := fun g => cond (Nat.beq g 190) (y2a k) (noOrc), wr := fun g => mem g [190], wt := true }
theorem y2d (k : Nat) : EnvOk (y2c k) := fun g => (orc_cond (y2b k) (noOrc_ok _ _))
noncomputable def y2e : Code := (Try.f109.body).getD .skip
def y2f (ρ : Type) (k : Nat) : Nat → Ev ρ → Ev ρ := fun _ _ _ _ => none
def y2g (a : List Int × Int × Int × Int) : List SV := [.ptr 0 0 0, .r [] (.int .i64 a.2.2.2)]
def y2h (a : List Int × Int × Int × Int) : List Blk := [.box [.r [] (.sl (.int .u8) a.1), .r [] (.int .i64 a.2.1), .r [] (.int .i64 a.2.2.1)]]
def y2i (l : List SV) (b : List Blk) : Option (List Int × Int × Int × Int) := match l, b with
  | [.ptr 0 0 0, .r [] (.int .i64 w0)], [.box [.r [] (.sl (.int .u8) w1), .r [] (.int .i64 w2), .r [] (.int .i64 w3)]] => some (w1, w2, w3, w0)
  | _, _ => none
def y2j (a : List Int × Int × Int × Int) (r : Int × Int × Int) : MOut := ⟨.r [] (.int .i64 r.1), [some (.box [.r [] (.sl (.int .u8) a.1), .r [] (.int .i64 r.2.1), .r [] (.int .i64 r.2.2)])], []⟩
def y2k (a : List Int × Int × Int × Int) (o : MOut) : Option (Int × Int × Int) := match o with
  | ⟨.r [] (.int .i64 z1), [some (.box [.r [] (.sl (.int .u8) z2), .r [] (.int .i64 z3), .r [] (.int .i64 z4)])], []⟩ => cond (@sameL (List Int) _ z2 a.1) (some (z1, z3, z4)) none
  | _ => none
def y2l (k : Nat) : MG := fun _ l b K => (y2i l b).bind fun a => (S_l01Below_m k a.1 a.2.1 a.2.2.1 a.2.2.2).bind fun r => K (y2j a r)
theorem y2m (k : Nat) (a : List Int × Int × Int × Int) : ev (y2c k) (y2f (Int × Int × Int) k) 0 y2e (st0M Try.f109 (y2g a) (y2h a)) (finM Try.prog Try.f109 (.sc) [.box [.ro (.int .u8), .sc, .sc]] (y2k a)) = S_l01Below_m k a.1 a.2.1 a.2.2.1 a.2.2.2 := by kernel_rfl
theorem y2n (k : Nat) : MutOk Try.prog 109 (y2l k) :=
  mutOk_of_ev (y2d k) Try.func109 (by kernel_rfl) (by kernel_rfl) y2g y2h y2i
    (fun l b a h => by unfold y2i at h; split at h <;> first | (cases h; exact ⟨rfl, rfl⟩) | cases h) (fun a => rfl) (lpgood_none (by kernel_rfl)) (fun a r => rfl)
    (fun a o r h => by unfold y2k at h; split at h <;> first | (obtain ⟨e0, hq⟩ := dec_chk1 h; clear h; subst e0; have h := hq; clear hq; cases h; rfl) | cases h) (y2m k)
def y2o (k : Nat) : Orc := mutOrc [.keep, .one (.int .i64)] (y2l k)
theorem y2p (k : Nat) : OrcOk Try.prog 109 (y2o k) := mutOrc_ok (y2n k)
noncomputable def y2q (k : Nat) : Env := { P := Try.prog, tt := tt, orc := fun g => cond (Nat.beq g 109) (y2o k) (noOrc), wr := fun g => mem g [109], wt := true }
theorem y2r (k : Nat) : EnvOk (y2q k) := fun g => (orc_cond (y2p k) (noOrc_ok _ _))
noncomputable def y2s : Code := (Try.f111.body).getD .skip
def y2t (ρ : Type) (k : Nat) : Nat → Ev ρ → Ev ρ := fun _ _ _ _ => none
def y2u (a : List Int × Int × Int × List Int) : List SV := [.ptr 0 0 0, .r [] (.sl (.int .i64) a.2.2.2)]
def y2v (a : List Int × Int × Int × List Int) : List Blk := [.box [.r [] (.sl (.int .u8) a.1), .r [] (.int .i64 a.2.1), .r [] (.int .i64 a.2.2.1)]]
def y2w (l : List SV) (b : List Blk) : Option (List Int × Int × Int × List Int) := match l, b with
  | [.ptr 0 0 0, .r [] (.sl (.int .i64) w0)], [.box [.r [] (.sl (.int .u8) w1), .r [] (.int .i64 w2), .r [] (.int .i64 w3)]] => some (w1, w2, w3, w0)
  | _, _ => none
def y2x (a : List Int × Int × Int × List Int) (r : Int × Int × Int) : MOut := ⟨.r [] (.int .i64 r.1), [some (.box [.r [] (.sl (.int .u8) a.1), .r [] (.int .i64 r.2.1), .r [] (.int .i64 r.2.2)])], []⟩
def y2y (a : List Int × Int × Int × List Int) (o : MOut) : Option (Int × Int × Int) := match o with
  | ⟨.r [] (.int .i64 z1), [some (.box [.r [] (.sl (.int .u8) z2), .r [] (.int .i64 z3), .r [] (.int .i64 z4)])], []⟩ => cond (@sameL (List Int) _ z2 a.1) (some (z1, z3, z4)) none
  | _ => none
def y2z (k : Nat) : MG := fun _ l b K => (y2w l b).bind fun a => (S_l01PickInt_m k a.1 a.2.1 a.2.2.1 a.2.2.2).bind fun r => K (y2x a r)
theorem y31 (k : Nat) (a : List Int × Int × Int × List Int) : ev (y2q k) (y2t (Int × Int × Int) k) 0 y2s (st0M Try.f111 (y2u a) (y2v a)) (finM Try.prog Try.f111 (.sc) [.box [.ro (.int .u8), .sc, .sc]] (y2y a)) = S_l01PickInt_m k a.1 a.2.1 a.2.2.1 a.2.2.2 := by kernel_rfl
theorem y32 (k : Nat) : MutOk Try.prog 111 (y2z k) :=
  mutOk_of_ev (y2r k) Try.func111 (by kernel_rfl) (by kernel_rfl) y2u y2v y2w
    (fun l b a h => by unfold y2w at h; split at h <;> first | (cases h; exact ⟨rfl, rfl⟩) | cases h) (fun a => rfl) (lpgood_none (by kernel_rfl)) (fun a r => rfl)
    (fun a o r h => by unfold y2y at h; split at h <;> first | (obtain ⟨e0, hq⟩ := dec_chk1 h; clear h; subst e0; have h := hq; clear hq; cases h; rfl) | cases h) (y31 k)
def y34 (k : Nat) : Orc := mutOrc [.keep, .one (.sl (.int .i64))] (y2z k)
theorem y35 (k : Nat) : OrcOk Try.prog 111 (y34 k) := mutOrc_ok (y32 k)
noncomputable def y37 (k : Nat) : Env := { P := Try.prog, tt := tt, orc := fun g => cond (Nat.beq g 109) (y2o k) (noOrc), wr := fun g => mem g [109], wt := true }
theorem y38 (k : Nat) : EnvOk (y37 k) := fun g => (orc_cond (y2p k) (noOrc_ok _ _))
noncomputable def y3a : Code := (Try.f110.body).getD .skip
def y3b (ρ : Type) (k : Nat) : Nat → Ev ρ → Ev ρ := fun _ _ _ _ => none
def y3c (a : List Int × Int × Int × Int) : List SV := [.ptr 0 0 0, .r [] (.int .i64 a.2.2.2)]
def y3d (a : List Int × Int × Int × Int) : List Blk := [.box [.r [] (.sl (.int .u8) a.1), .r [] (.int .i64 a.2.1), .r [] (.int .i64 a.2.2.1)]]
def y3e (l : List SV) (b : List Blk) : Option (List Int × Int × Int × Int) := match l, b with
  | [.ptr 0 0 0, .r [] (.int .i64 w0)], [.box [.r [] (.sl (.int .u8) w1), .r [] (.int .i64 w2), .r [] (.int .i64 w3)]] => some (w1, w2, w3, w0)
  | _, _ => none
def y3f (a : List Int × Int × Int × Int) (r : Bool × Int × Int) : MOut := ⟨.r [] (.bool r.1), [some (.box [.r [] (.sl (.int .u8) a.1), .r [] (.int .i64 r.2.1), .r [] (.int .i64 r.2.2)])], []⟩
def y3g (a : List Int × Int × Int × Int) (o : MOut) : Option (Bool × Int × Int) := match o with
  | ⟨.r [] (.bool z1), [some (.box [.r [] (.sl (.int .u8) z2), .r [] (.int .i64 z3), .r [] (.int .i64 z4)])], []⟩ => cond (@sameL (List Int) _ z2 a.1) (some (z1, z3, z4)) none
  | _ => none
def y3h (k : Nat) : MG := fun _ l b K => (y3e l b).bind fun a => (S_l01Once_m k a.1 a.2.1 a.2.2.1 a.2.2.2).bind fun r => K (y3f a r)
theorem y3i (k : Nat) (a : List Int × Int × Int × Int) : ev (y37 k) (y3b (Bool × Int × Int) k) 0 y3a (st0M Try.f110 (y3c a) (y3d a)) (finM Try.prog Try.f110 (.sc) [.box [.ro (.int .u8), .sc, .sc]] (y3g a)) = S_l01Once_m k a.1 a.2.1 a.2.2.1 a.2.2.2 := by kernel_rfl
theorem y3j (k : Nat) : MutOk Try.prog 110 (y3h k) :=
  mutOk_of_ev (y38 k) Try.func110 (by kernel_rfl) (by kernel_rfl) y3c y3d y3e
    (fun l b a h => by unfold y3e at h; split at h <;> first | (cases h; exact ⟨rfl, rfl⟩) | cases h) (fun a => rfl) (lpgood_none (by kernel_rfl)) (fun a r => rfl)
    (fun a o r h => by unfold y3g at h; split at h <;> first | (obtain ⟨e0, hq⟩ := dec_chk1 h; clear h; subst e0; have h := hq; clear hq; cases h; rfl) | cases h) (y3i k)
def y3k (k : Nat) : Orc := mutOrc [.keep, .one (.int .i64)] (y3h k)
theorem y3l (k : Nat) : OrcOk Try.prog 110 (y3k k) := mutOrc_ok (y3j k)
noncomputable def y3m (k : Nat) : Env := { P := Try.prog, tt := tt, orc := fun g => cond (Nat.beq g 109) (y2o k) (cond (Nat.beq g 110) (y3k k) (cond (Nat.beq g 111) (y34 k) (noOrc))), wr := fun g => mem g [109, 110, 111], wt := true, fz := fun r => cond (Nat.beq r 3) [(true, 5, [])] (cond (Nat.beq r 29) [(false, 8, [])] ([])) }
theorem y3n (k : Nat) : EnvOk (y3m k) := fun g => (orc_cond (y2p k) (orc_cond (y3l k) (orc_cond (y35 k) (noOrc_ok _ _))))
noncomputable def y3o : Code := (Try.f126.body).getD .skip
noncomputable def y3p : Code := ((loopsIn 0 y3o).getD 0 (0, .skip)).2
noncomputable def y3q : Code := ((loopsIn 0 y3p).getD 0 (0, .skip)).2
def y3r : List Nat := [0, 1, 5, 6, 7, 8, 9]
def y3s : List (Where × Co) := []
def y3t : Ex → List Nat
  | .exit j => cond (Nat.beq j 3) [0, 1, 5, 6, 7, 8] []
  | .ret => []
  | .normal => []
def y3u : Ex → List (Where × Co)
  | .exit j => cond (Nat.beq j 3) [] []
  | .ret => []
  | .normal => []
def y3v (pv : (Int × Int × Int × List Int × List (List Int)) × (Int × Int × Int × List Int)) : St := { slots := [(0, .ptr 0 0 0), (1, .r [] (.int .i64 pv.1.1)), (5, .own 1), (6, .r [] (.int .i64 pv.1.2.1)), (7, .r [] (.int .i64 pv.1.2.2.1)), (8, .own 2), (9, .r [] (.int .i64 pv.2.1))], heap := [(0, .box [.r [] (.sl (.int .u8) pv.1.2.2.2.1), .r [] (.int .i64 pv.2.2.1), .r [] (.int .i64 pv.2.2.2.1)]), (1, .arr (some []) (.sl (.int .i64)) pv.1.2.2.2.2), (2, .arr none (.int .i64) pv.2.2.2.2)], nid := 3, n := 95, gh := [some 0] }
def y3w (nf : NF) : Option ((Int × Int × Int × List Int × List (List Int)) × (Int × Int × Int × List Int)) := match nf with
  | ([.ptr 0 0 0, .r [] (.int .i64 w0), .own 1, .r [] (.int .i64 w1), .r [] (.int .i64 w2), .own 2, .r [] (.int .i64 w3)], [.box [.r [] (.sl (.int .u8) w4), .r [] (.int .i64 w5), .r [] (.int .i64 w6)], .arr (some []) (.sl (.int .i64)) w7, .arr none (.int .i64) w8], [some 0]) => some ((w0, w1, w2, w4, w7), (w3, w5, w6, w8))
  | _ => none
theorem y3x (nf : NF) (v : (Int × Int × Int × List Int × List (List Int)) × (Int × Int × Int × List Int)) (h : y3w nf = some v) : denorm y3r 95 nf = y3v v := by
  unfold y3w at h
  split at h
  · cases h; rfl
  · cases h
def y3y (p : Int × Int × Int × List Int × List (List Int)) (x : Int × Int × List Int) : St := { slots := [(0, .ptr 0 0 0), (1, .r [] (.int .i64 p.1)), (5, .own 1), (6, .r [] (.int .i64 p.2.1)), (7, .r [] (.int .i64 p.2.2.1)), (8, .own 2)], heap := [(0, .box [.r [] (.sl (.int .u8) p.2.2.2.1), .r [] (.int .i64 x.1), .r [] (.int .i64 x.2.1)]), (1, .arr (some []) (.sl (.int .i64)) p.2.2.2.2), (2, .arr none (.int .i64) x.2.2)], nid := 3, n := 95, gh := [some 0] }
def y3z : List Nat := [0, 1, 5, 6, 7]
def y41 : List (Where × Co) := []
def y43 : Ex → List Nat
  | .exit j => cond (Nat.beq j 0) [5] []
  | .ret => []
  | .normal => []
def y44 : Ex → List (Where × Co)
  | .exit j => cond (Nat.beq j 0) [] []
  | .ret => []
  | .normal => []
def y46 (pv : (Int × List Int) × (Int × Int × Int × Int × List (List Int))) : St := { slots := [(0, .ptr 0 0 0), (1, .r [] (.int .i64 pv.1.1)), (5, .own 1), (6, .r [] (.int .i64 pv.2.1)), (7, .r [] (.int .i64 pv.2.2.1))], heap := [(0, .box [.r [] (.sl (.int .u8) pv.1.2), .r [] (.int .i64 pv.2.2.2.1), .r [] (.int .i64 pv.2.2.2.2.1)]), (1, .arr (some []) (.sl (.int .i64)) pv.2.2.2.2.2)], nid := 2, n := 95, gh := [some 0] }
def y47 (nf : NF) : Option ((Int × List Int) × (Int × Int × Int × Int × List (List Int))) := match nf with
  | ([.ptr 0 0 0, .r [] (.int .i64 w0), .own 1, .r [] (.int .i64 w1), .r [] (.int .i64 w2)], [.box [.r [] (.sl (.int .u8) w3), .r [] (.int .i64 w4), .r [] (.int .i64 w5)], .arr (some []) (.sl (.int .i64)) w6], [some 0]) => some ((w0, w3), (w1, w2, w4, w5, w6))
  | _ => none
theorem y48 (nf : NF) (v : (Int × List Int) × (Int × Int × Int × Int × List (List Int))) (h : y47 nf = some v) : denorm y3z 95 nf = y46 v := by
  unfold y47 at h
  split at h
  · cases h; rfl
  · cases h
def y4a (p : Int × List Int) (x : List (List Int) × Int × Int) : St := { slots := [(5, .own 0)], heap := [(0, .arr (some []) (.sl (.int .i64)) x.1), (1, .box [.r [] (.sl (.int .u8) p.2), .r [] (.int .i64 x.2.1), .r [] (.int .i64 x.2.2)])], nid := 2, n := 95, gh := [some 1] }
def y4b (ρ : Type) (k : Nat) : Nat → Ev ρ → Ev ρ := fun id f => cond (Nat.beq id 0) (loopOrc y3z y41 (fun n nf => cond (Nat.beq n 95) (y47 nf) none) fun pv K => iter (fun v next => S_l07DrawOps_m_g0 k pv.1 v next (fun x => K (.exit 0) (y4a pv.1 x))) k pv.2) ((fun id f => cond (Nat.beq id 3) (loopOrc y3r y3s (fun n nf => cond (Nat.beq n 95) (y3w nf) none) fun pv K => iter (fun v next => S_l07DrawOps_m_g1 k pv.1 v next (fun x => K (.exit 3) (y3y pv.1 x))) k pv.2) ((fun _ _ _ _ => none) id f)) id f)
theorem y4c {ρ : Type} (k : Nat) (p : Int × Int × Int × List Int × List (List Int)) (v : Int × Int × Int × List Int) (K K1 : Ex → St → Option ρ) : ev (y3m k) (y4b ρ k) 3 y3q (y3v (p, v)) (fun e st' => match e with
    | .normal => (normC y3r y3s st').bind fun nf => K1 .normal (denorm y3r st'.n nf)
    | e => (normC (y3t e) (y3u e) st').bind fun nf => K e (denorm (y3t e) st'.n nf)) = S_l07DrawOps_m_g1 k p v (fun v' => K1 .normal (y3v (p, v'))) (fun x => K (.exit 3) (y3y p x)) := by kernel_rfl
theorem y4d {ρ : Type} (k : Nat) : Sound Try.prog (.loop y3q) (y4b ρ k 3 fun st K => ev (y3m k) (y4b ρ k) 3 y3q st K) :=
  loop_ok (ev_sound (y3n k) y3q 3 (lpgood_none (by kernel_rfl))) y3t y3u k (g := fun p v next K => S_l07DrawOps_m_g1 k p v next (fun x => K (.exit 3) (y3y p x))) (dec_at y3x) (fun p v K K1 => y4c k p v K K1)
theorem y4e {ρ : Type} (k : Nat) (p : Int × List Int) (v : Int × Int × Int × Int × List (List Int)) (K K1 : Ex → St → Option ρ) : ev (y3m k) (y4b ρ k) 0 y3p (y46 (p, v)) (fun e st' => match e with
    | .normal => (normC y3z y41 st').bind fun nf => K1 .normal (denorm y3z st'.n nf)
    | e => (normC (y43 e) (y44 e) st').bind fun nf => K e (denorm (y43 e) st'.n nf)) = S_l07DrawOps_m_g0 k p v (fun v' => K1 .normal (y46 (p, v'))) (fun x => K (.exit 0) (y4a p x)) := by kernel_rfl
theorem y4f {ρ : Type} (k : Nat) : Sound Try.prog (.loop y3p) (y4b ρ k 0 fun st K => ev (y3m k) (y4b ρ k) 0 y3p st K) :=
  loop_ok (ev_sound (y3n k) y3p 0 (lpgood_of (l := [(3, y3q)]) (by kernel_rfl) ⟨y4d k, trivial⟩)) y43 y44 k (g := fun p v next K => S_l07DrawOps_m_g0 k p v next (fun x => K (.exit 0) (y4a p x))) (dec_at y48) (fun p v K K1 => y4e k p v K K1)
def y4g (a : List Int × Int × Int × Int) : List SV := [.ptr 0 0 0, .r [] (.int .i64 a.2.2.2)]
def y4h (a : List Int × Int × Int × Int) : List Blk := [.box [.r [] (.sl (.int .u8) a.1), .r [] (.int .i64 a.2.1), .r [] (.int .i64 a.2.2.1)]]
def y4i (l : List SV) (b : List Blk) : Option (List Int × Int × Int × Int) := match l, b with
  | [.ptr 0 0 0, .r [] (.int .i64 w0)], [.box [.r [] (.sl (.int .u8) w1), .r [] (.int .i64 w2), .r [] (.int .i64 w3)]] => some (w1, w2, w3, w0)
  | _, _ => none
def y4j (a : List Int × Int × Int × Int) (r : List (List Int) × Int × Int) : MOut := ⟨.own 1, [some (.box [.r [] (.sl (.int .u8) a.1), .r [] (.int .i64 r.2.1), .r [] (.int .i64 r.2.2)])], [.arr (some []) (.sl (.int .i64)) r.1]⟩
def y4k (a : List Int × Int × Int × Int) (o : MOut) : Option (List (List Int) × Int × Int) := match o with
  | ⟨.own 1, [some (.box [.r [] (.sl (.int .u8) z1), .r [] (.int .i64 z2), .r [] (.int .i64 z3)])], [.arr (some []) (.sl (.int .i64)) z4]⟩ => cond (@sameL (List Int) _ z1 a.1) (some (z4, z2, z3)) none
  | _ => none
def y4l (k : Nat) : MG := fun _ l b K => (y4i l b).bind fun a => (S_l07DrawOps_m k a.1 a.2.1 a.2.2.1 a.2.2.2).bind fun r => K (y4j a r)
theorem y4m (k : Nat) (a : List Int × Int × Int × Int) : ev (y3m k) (y4b (List (List Int) × Int × Int) k) 0 y3o (st0M Try.f126 (y4g a) (y4h a)) (finM Try.prog Try.f126 (.shl (.sl (.int .i64))) [.box [.ro (.int .u8), .sc, .sc]] (y4k a)) = S_l07DrawOps_m k a.1 a.2.1 a.2.2.1 a.2.2.2 := by kernel_rfl
theorem y4n (k : Nat) : MutOk Try.prog 126 (y4l k) :=
  mutOk_of_ev (y3n k) Try.func126 (by kernel_rfl) (by kernel_rfl) y4g y4h y4i
    (fun l b a h => by unfold y4i at h; split at h <;> first | (cases h; exact ⟨rfl, rfl⟩) | cases h) (fun a => rfl) (lpgood_of (l := [(0, y3p)]) (by kernel_rfl) ⟨y4f k, trivial⟩) (fun a r => rfl)
    (fun a o r h => by unfold y4k at h; split at h <;> first | (obtain ⟨e0, hq⟩ := dec_chk1 h; clear h; subst e0; have h := hq; clear hq; cases h; rfl) | cases h) (y4m k)
def y4o (k : Nat) : Orc := mutOrc [.keep, .one (.int .i64)] (y4l k)
theorem y4p (k : Nat) : OrcOk Try.prog 126 (y4o k) := mutOrc_ok (y4n k)
noncomputable def y4q (k : Nat) : Env := { P := Try.prog, tt := tt, orc := fun g => noOrc }
theorem y4r (k : Nat) : EnvOk (y4q k) := fun g => (noOrc_ok _ _)
noncomputable def y4s : Code := (Try.f136.body).getD .skip
def y4t (ρ : Type) (k : Nat) : Nat → Ev ρ → Ev ρ := fun _ _ _ _ => none
def y4u (a : Int × Int × Int) : List Arg := [.one (.int .i64 a.1), .one (.int .i64 a.2.1), .one (.int .i64 a.2.2)]
def y4v (l : List Arg) : Option (Int × Int × Int) := match l with
  | [.one (.int .i64 b0), .one (.int .i64 b1), .one (.int .i64 b2)] => some (b0, b1, b2)
  | _ => none
def y4w (r : Bool) : Out := (.r [] (.bool r), [])
def y4x (o : Out) : Option (Bool) := match o with
  | (.r [] (.bool z1), []) => some z1
  | _ => none
def y4y (k : Nat) : PG := fun _ l K => (y4v l).bind fun a => (S_l01In k a.1 a.2.1 a.2.2).bind fun r => K (y4w r)
theorem y4z (k : Nat) (a : Int × Int × Int) : ev (y4q k) (y4t (Bool) k) 0 y4s (st0 Try.f136 (y4u a)) (fin Try.prog Try.f136 (.sc) y4x) = S_l01In k a.1 a.2.1 a.2.2 := by kernel_rfl
theorem y50 (k : Nat) : PureOk Try.prog 136 (y4y k) :=
  pureOk_of_ev (y4r k) Try.func136 (by kernel_rfl) (by kernel_rfl) y4u y4v
    (fun l a h => by unfold y4v at h; split at h <;> first | (cases h; rfl) | cases h) (fun a => rfl) (lpgood_none (by kernel_rfl))
    (fun o r h => by unfold y4x at h; split at h <;> first | (cases h; rfl) | cases h) (y4z k)
def y51 (k : Nat) : Orc := pureOrc [.one (.int .i64), .one (.int .i64), .one (.int .i64)] (y4y k)
theorem y52 (k : Nat) : OrcOk Try.prog 136 (y51 k) := pureOrc_ok (y50 k)
noncomputable def y54 (k : Nat) : Env := { P := Try.prog, tt := tt, orc := fun g => cond (Nat.beq g 136) (y51 k) (noOrc) }
theorem y55 (k : Nat) : EnvOk (y54 k) := fun g => (orc_cond (y52 k) (noOrc_ok _ _))
noncomputable def y56 : Code := (Try.f135.body).getD .skip
def y57 (ρ : Type) (k : Nat) : Nat → Ev ρ → Ev ρ := fun _ _ _ _ => none
def y58 (a : Int) : List Arg := [.one (.int .i64 a)]
def y59 (l : List Arg) : Option (Int) := match l with
  | [.one (.int .i64 b0)] => some b0
  | _ => none
def y5a (r : Bool) : Out := (.r [] (.bool r), [])
def y5b (o : Out) : Option (Bool) := match o with
  | (.r [] (.bool z1), []) => some z1
  | _ => none
def y5c (k : Nat) : PG := fun _ l K => (y59 l).bind fun a => (S_l07Tick k a).bind fun r => K (y5a r)
theorem y5d (k : Nat) (a : Int) : ev (y54 k) (y57 (Bool) k) 0 y56 (st0 Try.f135 (y58 a)) (fin Try.prog Try.f135 (.sc) y5b) = S_l07Tick k a := by kernel_rfl
theorem y5e (k : Nat) : PureOk Try.prog 135 (y5c k) :=
  pureOk_of_ev (y55 k) Try.func135 (by kernel_rfl) (by kernel_rfl) y58 y59
    (fun l a h => by unfold y59 at h; split at h <;> first | (cases h; rfl) | cases h) (fun a => rfl) (lpgood_none (by kernel_rfl))
    (fun o r h => by unfold y5b at h; split at h <;> first | (cases h; rfl) | cases h) (y5d k)
def y5f (k : Nat) : Orc := pureOrc [.one (.int .i64)] (y5c k)
theorem y5g (k : Nat) : OrcOk Try.prog 135 (y5f k) := pureOrc_ok (y5e k)
noncomputable def y5h (k : Nat) : Env := { P := Try.prog, tt := tt, orc := fun g => cond (Nat.beq g 135) (y5f k) (cond (Nat.beq g 136) (y51 k) (noOrc)) }
theorem y5i (k : Nat) : EnvOk (y5h k) := fun g => (orc_cond (y5g k) (orc_cond (y52 k) (noOrc_ok _ _)))
noncomputable def y5j : Code := (Try.f114.body).getD .skip
noncomputable def y5k : Code := ((loopsIn 0 y5j).getD 0 (0, .skip)).2
def y5l : List Nat := [1, 3]
def y5m : List (Where × Co) := []
def y5n : Ex → List Nat
  | .exit j => cond (Nat.beq j 0) [] []
  | .ret => [2]
  | .normal => []
def y5o : Ex → List (Where × Co)
  | .exit j => cond (Nat.beq j 0) [] []
  | .ret => []
  | .normal => []
def y5p (pv : (Int × List Int × Int × Int × Int) × (Int)) : St := { slots := [(1, .ptr 0 0 0), (3, .r [] (.int .i64 pv.2))], heap := [(0, .box [.r [] (.int .i64 pv.1.1), .r [] (.sl (.int .i64) pv.1.2.1), .r [] (.int .i64 pv.1.2.2.1), .r [] (.int .i64 pv.1.2.2.2.1), .r [] (.int .i64 pv.1.2.2.2.2)])], nid := 1, n := 51, gh := [] }
def y5q (nf : NF) : Option ((Int × List Int × Int × Int × Int) × (Int)) := match nf with
  | ([.ptr 0 0 0, .r [] (.int .i64 w0)], [.box [.r [] (.int .i64 w1), .r [] (.sl (.int .i64) w2), .r [] (.int .i64 w3), .r [] (.int .i64 w4), .r [] (.int .i64 w5)]], []) => some ((w1, w2, w3, w4, w5), w0)
  | _ => none
theorem y5r (nf : NF) (v : (Int × List Int × Int × Int × Int) × (Int)) (h : y5q nf = some v) : denorm y5l 51 nf = y5p v := by
  unfold y5q at h
  split at h
  · cases h; rfl
  · cases h
def y5s (p : Int × List Int × Int × Int × Int) (x : Unit) : St := { slots := [], heap := [], nid := 0, n := 51, gh := [] }
def y5t (p : Int × List Int × Int × Int × Int) (x : Bool) : St := { slots := [(2, .r [] (.bool x))], heap := [], nid := 0, n := 51, gh := [] }
def y5u (ρ : Type) (k : Nat) : Nat → Ev ρ → Ev ρ := fun id f => cond (Nat.beq id 0) (loopOrc y5l y5m (fun n nf => cond (Nat.beq n 51) (y5q nf) none) fun pv K => iter (fun v next => S_TaskOk_g0 k pv.1 v next (fun x => K (.exit 0) (y5s pv.1 x)) (fun x => K .ret (y5t pv.1 x))) k pv.2) ((fun _ _ _ _ => none) id f)
theorem y5v {ρ : Type} (k : Nat) (p : Int × List Int × Int × Int × Int) (v : Int) (K K1 : Ex → St → Option ρ) : ev (y5h k) (y5u ρ k) 0 y5k (y5p (p, v)) (fun e st' => match e with
    | .normal => (normC y5l y5m st').bind fun nf => K1 .normal (denorm y5l st'.n nf)
    | e => (normC (y5n e) (y5o e) st').bind fun nf => K e (denorm (y5n e) st'.n nf)) = S_TaskOk_g0 k p v (fun v' => K1 .normal (y5p (p, v'))) (fun x => K (.exit 0) (y5s p x)) (fun x => K .ret (y5t p x)) := by kernel_rfl
theorem y5w {ρ : Type} (k : Nat) : Sound Try.prog (.loop y5k) (y5u ρ k 0 fun st K => ev (y5h k) (y5u ρ k) 0 y5k st K) :=
  loop_ok (ev_sound (y5i k) y5k 0 (lpgood_none (by kernel_rfl))) y5n y5o k (g := fun p v next K => S_TaskOk_g0 k p v next (fun x => K (.exit 0) (y5s p x)) (fun x => K .ret (y5t p x))) (dec_at y5r) (fun p v K K1 => y5v k p v K K1)
def y5x (a : Task) : List Arg := [.agg [.int .i64 a.id, .sl (.int .i64) a.costs, .int .i64 a.at_, .int .i64 a.due, .int .i64 a.born]]
def y5y (l : List Arg) : Option (Task) := match l with
  | [.agg [.int .i64 b0_0, .sl (.int .i64) b0_1, .int .i64 b0_2, .int .i64 b0_3, .int .i64 b0_4]] => some (⟨b0_0, b0_1, b0_2, b0_3, b0_4⟩ : Task)
  | _ => none
def y5z (r : Bool) : Out := (.r [] (.bool r), [])
def y60 (o : Out) : Option (Bool) := match o with
  | (.r [] (.bool z1), []) => some z1
  | _ => none
def y62 (k : Nat) : PG := fun _ l K => (y5y l).bind fun a => (S_TaskOk k a).bind fun r => K (y5z r)
theorem y63 (k : Nat) (a : Task) : ev (y5h k) (y5u (Bool) k) 0 y5j (st0 Try.f114 (y5x a)) (fin Try.prog Try.f114 (.sc) y60) = S_TaskOk k a := by kernel_rfl
theorem y64 (k : Nat) : PureOk Try.prog 114 (y62 k) :=
  pureOk_of_ev (y5i k) Try.func114 (by kernel_rfl) (by kernel_rfl) y5x y5y
    (fun l a h => by unfold y5y at h; split at h <;> first | (cases h; rfl) | cases h) (fun a => rfl) (lpgood_of (l := [(0, y5k)]) (by kernel_rfl) ⟨y5w k, trivial⟩)
    (fun o r h => by unfold y60 at h; split at h <;> first | (cases h; rfl) | cases h) (y63 k)
def y65 (k : Nat) : Orc := pureOrc [.agg [(.int .i64), (.sl (.int .i64)), (.int .i64), (.int .i64), (.int .i64)]] (y62 k)
theorem y67 (k : Nat) : OrcOk Try.prog 114 (y65 k) := pureOrc_ok (y64 k)
noncomputable def y68 (k : Nat) : Env := { P := Try.prog, tt := tt, orc := fun g => noOrc }
theorem y69 (k : Nat) : EnvOk (y68 k) := fun g => (noOrc_ok _ _)
noncomputable def y6a : Code := (Try.f137.body).getD .skip
noncomputable def y6b : Code := ((loopsIn 0 y6a).getD 0 (0, .skip)).2
def y6c : List Nat := [1, 2, 5]
def y6d : List (Where × Co) := []
def y6e : Ex → List Nat
  | .exit j => cond (Nat.beq j 0) [] []
  | .ret => [4]
  | .normal => []
def y6f : Ex → List (Where × Co)
  | .exit j => cond (Nat.beq j 0) [] []
  | .ret => []
  | .normal => []
def y6g (pv : (Int × Int × Int × Int × List Task × Int × Int × Int × Int) × (Int)) : St := { slots := [(1, .r [] (.int .i64 pv.1.1)), (2, .ptr 0 0 0), (5, .r [] (.int .i64 pv.2))], heap := [(0, .box [.r [] (.int .i64 pv.1.2.1), .r [] (.int .i64 pv.1.2.2.1), .r [] (.int .i64 pv.1.2.2.2.1), .r [] (.sl (.st .task) pv.1.2.2.2.2.1), .r [] (.int .i64 pv.1.2.2.2.2.2.1), .r [] (.int .i64 pv.1.2.2.2.2.2.2.1), .r [] (.int .i64 pv.1.2.2.2.2.2.2.2.1), .r [] (.int .i64 pv.1.2.2.2.2.2.2.2.2)])], nid := 1, n := 22, gh := [] }
def y6h (nf : NF) : Option ((Int × Int × Int × Int × List Task × Int × Int × Int × Int) × (Int)) := match nf with
  | ([.r [] (.int .i64 w0), .ptr 0 0 0, .r [] (.int .i64 w1)], [.box [.r [] (.int .i64 w2), .r [] (.int .i64 w3), .r [] (.int .i64 w4), .r [] (.sl (.st .task) w5), .r [] (.int .i64 w6), .r [] (.int .i64 w7), .r [] (.int .i64 w8), .r [] (.int .i64 w9)]], []) => some ((w0, w2, w3, w4, w5, w6, w7, w8, w9), w1)
  | _ => none
theorem y6i (nf : NF) (v : (Int × Int × Int × Int × List Task × Int × Int × Int × Int) × (Int)) (h : y6h nf = some v) : denorm y6c 22 nf = y6g v := by
  unfold y6h at h
  split at h
  · cases h; rfl
  · cases h
def y6j (p : Int × Int × Int × Int × List Task × Int × Int × Int × Int) (x : Unit) : St := { slots := [], heap := [], nid := 0, n := 22, gh := [] }
def y6k (p : Int × Int × Int × Int × List Task × Int × Int × Int × Int) (x : Int) : St := { slots := [(4, .r [] (.int .i64 x))], heap := [], nid := 0, n := 22, gh := [] }
def y6l (ρ : Type) (k : Nat) : Nat → Ev ρ → Ev ρ := fun id f => cond (Nat.beq id 0) (loopOrc y6c y6d (fun n nf => cond (Nat.beq n 22) (y6h nf) none) fun pv K => iter (fun v next => S_l07At_g0 k pv.1 v next (fun x => K (.exit 0) (y6j pv.1 x)) (fun x => K .ret (y6k pv.1 x))) k pv.2) ((fun _ _ _ _ => none) id f)
theorem y6m {ρ : Type} (k : Nat) (p : Int × Int × Int × Int × List Task × Int × Int × Int × Int) (v : Int) (K K1 : Ex → St → Option ρ) : ev (y68 k) (y6l ρ k) 0 y6b (y6g (p, v)) (fun e st' => match e with
    | .normal => (normC y6c y6d st').bind fun nf => K1 .normal (denorm y6c st'.n nf)
    | e => (normC (y6e e) (y6f e) st').bind fun nf => K e (denorm (y6e e) st'.n nf)) = S_l07At_g0 k p v (fun v' => K1 .normal (y6g (p, v'))) (fun x => K (.exit 0) (y6j p x)) (fun x => K .ret (y6k p x)) := by kernel_rfl
theorem y6n {ρ : Type} (k : Nat) : Sound Try.prog (.loop y6b) (y6l ρ k 0 fun st K => ev (y68 k) (y6l ρ k) 0 y6b st K) :=
  loop_ok (ev_sound (y69 k) y6b 0 (lpgood_none (by kernel_rfl))) y6e y6f k (g := fun p v next K => S_l07At_g0 k p v next (fun x => K (.exit 0) (y6j p x)) (fun x => K .ret (y6k p x))) (dec_at y6i) (fun p v K K1 => y6m k p v K K1)
def y6o (a : Sched × Int) : List Arg := [.agg [.int .i64 a.1.now, .int .i64 a.1.slack, .int .i64 a.1.age, .sl (.st .task) a.1.tasks, .int .i64 a.1.run, .int .i64 a.1.left, .int .i64 a.1.turns, .int .i64 a.1.next], .one (.int .i64 a.2)]
def y6p (l : List Arg) : Option (Sched × Int) := match l with
  | [.agg [.int .i64 b0_0, .int .i64 b0_1, .int .i64 b0_2, .sl (.st .task) b0_3, .int .i64 b0_4, .int .i64 b0_5, .int .i64 b0_6, .int .i64 b0_7], .one (.int .i64 b1)] => some ((⟨b0_0, b0_1, b0_2, b0_3, b0_4, b0_5, b0_6, b0_7⟩ : Sched), b1)
  | _ => none
def y6q (r : Int) : Out := (.r [] (.int .i64 r), [])
def y6r (o : Out) : Option (Int) := match o with
  | (.r [] (.int .i64 z1), []) => some z1
  | _ => none
def y6s (k : Nat) : PG := fun _ l K => (y6p l).bind fun a => (S_l07At k a.1 a.2).bind fun r => K (y6q r)
theorem y6t (k : Nat) (a : Sched × Int) : ev (y68 k) (y6l (Int) k) 0 y6a (st0 Try.f137 (y6o a)) (fin Try.prog Try.f137 (.sc) y6r) = S_l07At k a.1 a.2 := by kernel_rfl
theorem y6u (k : Nat) : PureOk Try.prog 137 (y6s k) :=
  pureOk_of_ev (y69 k) Try.func137 (by kernel_rfl) (by kernel_rfl) y6o y6p
    (fun l a h => by unfold y6p at h; split at h <;> first | (cases h; rfl) | cases h) (fun a => rfl) (lpgood_of (l := [(0, y6b)]) (by kernel_rfl) ⟨y6n k, trivial⟩)
    (fun o r h => by unfold y6r at h; split at h <;> first | (cases h; rfl) | cases h) (y6t k)
def y6v (k : Nat) : Orc := pureOrc [.agg [(.int .i64), (.int .i64), (.int .i64), (.sl (.st .task)), (.int .i64), (.int .i64), (.int .i64), (.int .i64)], .one (.int .i64)] (y6s k)
theorem y6w (k : Nat) : OrcOk Try.prog 137 (y6v k) := pureOrc_ok (y6u k)
noncomputable def y6x (k : Nat) : Env := { P := Try.prog, tt := tt, orc := fun g => cond (Nat.beq g 114) (y65 k) (cond (Nat.beq g 135) (y5f k) (cond (Nat.beq g 136) (y51 k) (cond (Nat.beq g 137) (y6v k) (noOrc)))) }
theorem y6y (k : Nat) : EnvOk (y6x k) := fun g => (orc_cond (y67 k) (orc_cond (y5g k) (orc_cond (y52 k) (orc_cond (y6w k) (noOrc_ok _ _)))))
noncomputable def y6z : Code := (Try.f41.body).getD .skip
noncomputable def y70 : Code := ((loopsIn 0 y6z).getD 0 (0, .skip)).2
def y72 : List Nat := [1, 3]
def y73 : List (Where × Co) := []
def y74 : Ex → List Nat
  | .exit j => cond (Nat.beq j 0) [1] []
  | .ret => [2]
  | .normal => []
def y75 : Ex → List (Where × Co)
  | .exit j => cond (Nat.beq j 0) [] []
  | .ret => []
  | .normal => []
def y77 (pv : (Int × Int × Int × List Task × Int × Int × Int × Int) × (Int)) : St := { slots := [(1, .ptr 0 0 0), (3, .r [] (.int .i64 pv.2))], heap := [(0, .box [.r [] (.int .i64 pv.1.1), .r [] (.int .i64 pv.1.2.1), .r [] (.int .i64 pv.1.2.2.1), .r [] (.sl (.st .task) pv.1.2.2.2.1), .r [] (.int .i64 pv.1.2.2.2.2.1), .r [] (.int .i64 pv.1.2.2.2.2.2.1), .r [] (.int .i64 pv.1.2.2.2.2.2.2.1), .r [] (.int .i64 pv.1.2.2.2.2.2.2.2)])], nid := 1, n := 116, gh := [] }
def y78 (nf : NF) : Option ((Int × Int × Int × List Task × Int × Int × Int × Int) × (Int)) := match nf with
  | ([.ptr 0 0 0, .r [] (.int .i64 w0)], [.box [.r [] (.int .i64 w1), .r [] (.int .i64 w2), .r [] (.int .i64 w3), .r [] (.sl (.st .task) w4), .r [] (.int .i64 w5), .r [] (.int .i64 w6), .r [] (.int .i64 w7), .r [] (.int .i64 w8)]], []) => some ((w1, w2, w3, w4, w5, w6, w7, w8), w0)
  | _ => none
theorem y79 (nf : NF) (v : (Int × Int × Int × List Task × Int × Int × Int × Int) × (Int)) (h : y78 nf = some v) : denorm y72 116 nf = y77 v := by
  unfold y78 at h
  split at h
  · cases h; rfl
  · cases h
def y7a (p : Int × Int × Int × List Task × Int × Int × Int × Int) (x : Unit) : St := { slots := [(1, .ptr 0 0 0)], heap := [(0, .box [.r [] (.int .i64 p.1), .r [] (.int .i64 p.2.1), .r [] (.int .i64 p.2.2.1), .r [] (.sl (.st .task) p.2.2.2.1), .r [] (.int .i64 p.2.2.2.2.1), .r [] (.int .i64 p.2.2.2.2.2.1), .r [] (.int .i64 p.2.2.2.2.2.2.1), .r [] (.int .i64 p.2.2.2.2.2.2.2)])], nid := 1, n := 116, gh := [] }
def y7b (p : Int × Int × Int × List Task × Int × Int × Int × Int) (x : Bool) : St := { slots := [(2, .r [] (.bool x))], heap := [], nid := 0, n := 116, gh := [] }
def y7c (ρ : Type) (k : Nat) : Nat → Ev ρ → Ev ρ := fun id f => cond (Nat.beq id 0) (loopOrc y72 y73 (fun n nf => cond (Nat.beq n 116) (y78 nf) none) fun pv K => iter (fun v next => S_SchedOk_g0 k pv.1 v next (fun x => K (.exit 0) (y7a pv.1 x)) (fun x => K .ret (y7b pv.1 x))) k pv.2) ((fun _ _ _ _ => none) id f)
theorem y7d {ρ : Type} (k : Nat) (p : Int × Int × Int × List Task × Int × Int × Int × Int) (v : Int) (K K1 : Ex → St → Option ρ) : ev (y6x k) (y7c ρ k) 0 y70 (y77 (p, v)) (fun e st' => match e with
    | .normal => (normC y72 y73 st').bind fun nf => K1 .normal (denorm y72 st'.n nf)
    | e => (normC (y74 e) (y75 e) st').bind fun nf => K e (denorm (y74 e) st'.n nf)) = S_SchedOk_g0 k p v (fun v' => K1 .normal (y77 (p, v'))) (fun x => K (.exit 0) (y7a p x)) (fun x => K .ret (y7b p x)) := by kernel_rfl
theorem y7e {ρ : Type} (k : Nat) : Sound Try.prog (.loop y70) (y7c ρ k 0 fun st K => ev (y6x k) (y7c ρ k) 0 y70 st K) :=
  loop_ok (ev_sound (y6y k) y70 0 (lpgood_none (by kernel_rfl))) y74 y75 k (g := fun p v next K => S_SchedOk_g0 k p v next (fun x => K (.exit 0) (y7a p x)) (fun x => K .ret (y7b p x))) (dec_at y79) (fun p v K K1 => y7d k p v K K1)
def y7f (a : Sched) : List Arg := [.agg [.int .i64 a.now, .int .i64 a.slack, .int .i64 a.age, .sl (.st .task) a.tasks, .int .i64 a.run, .int .i64 a.left, .int .i64 a.turns, .int .i64 a.next]]
def y7g (l : List Arg) : Option (Sched) := match l with
  | [.agg [.int .i64 b0_0, .int .i64 b0_1, .int .i64 b0_2, .sl (.st .task) b0_3, .int .i64 b0_4, .int .i64 b0_5, .int .i64 b0_6, .int .i64 b0_7]] => some (⟨b0_0, b0_1, b0_2, b0_3, b0_4, b0_5, b0_6, b0_7⟩ : Sched)
  | _ => none
def y7h (r : Bool) : Out := (.r [] (.bool r), [])
def y7i (o : Out) : Option (Bool) := match o with
  | (.r [] (.bool z1), []) => some z1
  | _ => none
def y7j (k : Nat) : PG := fun _ l K => (y7g l).bind fun a => (S_SchedOk k a).bind fun r => K (y7h r)
theorem y7k (k : Nat) (a : Sched) : ev (y6x k) (y7c (Bool) k) 0 y6z (st0 Try.f41 (y7f a)) (fin Try.prog Try.f41 (.sc) y7i) = S_SchedOk k a := by kernel_rfl
theorem y7l (k : Nat) : PureOk Try.prog 41 (y7j k) :=
  pureOk_of_ev (y6y k) Try.func41 (by kernel_rfl) (by kernel_rfl) y7f y7g
    (fun l a h => by unfold y7g at h; split at h <;> first | (cases h; rfl) | cases h) (fun a => rfl) (lpgood_of (l := [(0, y70)]) (by kernel_rfl) ⟨y7e k, trivial⟩)
    (fun o r h => by unfold y7i at h; split at h <;> first | (cases h; rfl) | cases h) (y7k k)
def y7m (k : Nat) : Orc := pureOrc [.agg [(.int .i64), (.int .i64), (.int .i64), (.sl (.st .task)), (.int .i64), (.int .i64), (.int .i64), (.int .i64)]] (y7j k)
theorem y7n (k : Nat) : OrcOk Try.prog 41 (y7m k) := pureOrc_ok (y7l k)
noncomputable def y7o (k : Nat) : Env := { P := Try.prog, tt := tt, orc := fun g => cond (Nat.beq g 41) (y7m k) (noOrc) }
theorem y7p (k : Nat) : EnvOk (y7o k) := fun g => (orc_cond (y7n k) (noOrc_ok _ _))
noncomputable def y7q : Code := (Try.f127.body).getD .skip
def y7r (ρ : Type) (k : Nat) : Nat → Ev ρ → Ev ρ := fun _ _ _ _ => none
def y7s (a : Int × Int) : List Arg := [.one (.int .i64 a.1), .one (.int .i64 a.2)]
def y7t (l : List Arg) : Option (Int × Int) := match l with
  | [.one (.int .i64 b0), .one (.int .i64 b1)] => some (b0, b1)
  | _ => none
def y7u (r : Sched × Bool) : Out := (.tup [.agg [.r [] (.int .i64 r.1.now), .r [] (.int .i64 r.1.slack), .r [] (.int .i64 r.1.age), .own 0, .r [] (.int .i64 r.1.run), .r [] (.int .i64 r.1.left), .r [] (.int .i64 r.1.turns), .r [] (.int .i64 r.1.next)], .r [] (.bool r.2)], [.arr none (.st .task) r.1.tasks])
def y7v (o : Out) : Option (Sched × Bool) := match o with
  | (.tup [.agg [.r [] (.int .i64 z1), .r [] (.int .i64 z2), .r [] (.int .i64 z3), .own 0, .r [] (.int .i64 z5), .r [] (.int .i64 z6), .r [] (.int .i64 z7), .r [] (.int .i64 z8)], .r [] (.bool z9)], [.arr none (.st .task) z4]) => some ((⟨z1, z2, z3, z4, z5, z6, z7, z8⟩ : Sched), z9)
  | _ => none
def y7w (k : Nat) : PG := fun _ l K => (y7t l).bind fun a => (S_NewSched k a.1 a.2).bind fun r => K (y7u r)
theorem y7x (k : Nat) (a : Int × Int) : ev (y7o k) (y7r (Sched × Bool) k) 0 y7q (st0 Try.f127 (y7s a)) (fin Try.prog Try.f127 (.tup [.agg [.sc, .sc, .sc, .own (.st .task), .sc, .sc, .sc, .sc], .sc]) y7v) = S_NewSched k a.1 a.2 := by kernel_rfl
theorem y7y (k : Nat) : PureOk Try.prog 127 (y7w k) :=
  pureOk_of_ev (y7p k) Try.func127 (by kernel_rfl) (by kernel_rfl) y7s y7t
    (fun l a h => by unfold y7t at h; split at h <;> first | (cases h; rfl) | cases h) (fun a => rfl) (lpgood_none (by kernel_rfl))
    (fun o r h => by unfold y7v at h; split at h <;> first | (cases h; rfl) | cases h) (y7x k)
def y7z (k : Nat) : Orc := pureOrc [.one (.int .i64), .one (.int .i64)] (y7w k)
theorem y80 (k : Nat) : OrcOk Try.prog 127 (y7z k) := pureOrc_ok (y7y k)
noncomputable def y81 (k : Nat) : Env := { P := Try.prog, tt := tt, orc := fun g => noOrc }
theorem y82 (k : Nat) : EnvOk (y81 k) := fun g => (noOrc_ok _ _)
noncomputable def y84 : Code := (Try.f113.body).getD .skip
noncomputable def y85 : Code := ((loopsIn 0 y84).getD 0 (0, .skip)).2
def y86 : List Nat := [0, 3, 4]
def y88 : List (Where × Co) := []
def y89 : Ex → List Nat
  | .exit j => cond (Nat.beq j 0) [3] []
  | .ret => []
  | .normal => []
def y8a : Ex → List (Where × Co)
  | .exit j => cond (Nat.beq j 0) [] []
  | .ret => []
  | .normal => []
def y8b (pv : (List Int) × (Int × List Int)) : St := { slots := [(0, .r [] (.sl (.int .i64) pv.1)), (3, .own 0), (4, .r [] (.int .i64 pv.2.1))], heap := [(0, .arr none (.int .i64) pv.2.2)], nid := 1, n := 20, gh := [] }
def y8c (nf : NF) : Option ((List Int) × (Int × List Int)) := match nf with
  | ([.r [] (.sl (.int .i64) w0), .own 0, .r [] (.int .i64 w1)], [.arr none (.int .i64) w2], []) => some (w0, (w1, w2))
  | _ => none
theorem y8d (nf : NF) (v : (List Int) × (Int × List Int)) (h : y8c nf = some v) : denorm y86 20 nf = y8b v := by
  unfold y8c at h
  split at h
  · cases h; rfl
  · cases h
def y8e (p : List Int) (x : List Int) : St := { slots := [(3, .own 0)], heap := [(0, .arr none (.int .i64) x)], nid := 1, n := 20, gh := [] }
def y8f (ρ : Type) (k : Nat) : Nat → Ev ρ → Ev ρ := fun id f => cond (Nat.beq id 0) (loopOrc y86 y88 (fun n nf => cond (Nat.beq n 20) (y8c nf) none) fun pv K => iter (fun v next => S_l01Copy_g0 k pv.1 v next (fun x => K (.exit 0) (y8e pv.1 x))) k pv.2) ((fun _ _ _ _ => none) id f)
theorem y8g {ρ : Type} (k : Nat) (p : List Int) (v : Int × List Int) (K K1 : Ex → St → Option ρ) : ev (y81 k) (y8f ρ k) 0 y85 (y8b (p, v)) (fun e st' => match e with
    | .normal => (normC y86 y88 st').bind fun nf => K1 .normal (denorm y86 st'.n nf)
    | e => (normC (y89 e) (y8a e) st').bind fun nf => K e (denorm (y89 e) st'.n nf)) = S_l01Copy_g0 k p v (fun v' => K1 .normal (y8b (p, v'))) (fun x => K (.exit 0) (y8e p x)) := by kernel_rfl
theorem y8h {ρ : Type} (k : Nat) : Sound Try.prog (.loop y85) (y8f ρ k 0 fun st K => ev (y81 k) (y8f ρ k) 0 y85 st K) :=
  loop_ok (ev_sound (y82 k) y85 0 (lpgood_none (by kernel_rfl))) y89 y8a k (g := fun p v next K => S_l01Copy_g0 k p v next (fun x => K (.exit 0) (y8e p x))) (dec_at y8d) (fun p v K K1 => y8g k p v K K1)
def y8i (a : List Int) : List Arg := [.one (.sl (.int .i64) a)]
def y8j (l : List Arg) : Option (List Int) := match l with
  | [.one (.sl (.int .i64) b0)] => some b0
  | _ => none
def y8k (r : List Int) : Out := (.own 0, [.arr none (.int .i64) r])
def y8l (o : Out) : Option (List Int) := match o with
  | (.own 0, [.arr none (.int .i64) z1]) => some z1
  | _ => none
def y8m (k : Nat) : PG := fun _ l K => (y8j l).bind fun a => (S_l01Copy k a).bind fun r => K (y8k r)
theorem y8n (k : Nat) (a : List Int) : ev (y81 k) (y8f (List Int) k) 0 y84 (st0 Try.f113 (y8i a)) (fin Try.prog Try.f113 (.own (.int .i64)) y8l) = S_l01Copy k a := by kernel_rfl
theorem y8o (k : Nat) : PureOk Try.prog 113 (y8m k) :=
  pureOk_of_ev (y82 k) Try.func113 (by kernel_rfl) (by kernel_rfl) y8i y8j
    (fun l a h => by unfold y8j at h; split at h <;> first | (cases h; rfl) | cases h) (fun a => rfl) (lpgood_of (l := [(0, y85)]) (by kernel_rfl) ⟨y8h k, trivial⟩)
    (fun o r h => by unfold y8l at h; split at h <;> first | (cases h; rfl) | cases h) (y8n k)
def y8p (k : Nat) : Orc := pureOrc [.one (.sl (.int .i64))] (y8m k)
theorem y8q (k : Nat) : OrcOk Try.prog 113 (y8p k) := pureOrc_ok (y8o k)
noncomputable def y8r (k : Nat) : Env := { P := Try.prog, tt := tt, orc := fun g => cond (Nat.beq g 113) (y8p k) (noOrc) }
theorem y8s (k : Nat) : EnvOk (y8r k) := fun g => (orc_cond (y8q k) (noOrc_ok _ _))
noncomputable def y8t : Code := (Try.f112.body).getD .skip
noncomputable def y8u : Code := ((loopsIn 0 y8t).getD 0 (0, .skip)).2
def y8v : List Nat := [1, 2, 3, 4]
def y8w : List (Where × Co) := [((.pbox 3 3), (.nilOwn false (.st .task)))]
def y8x : Ex → List Nat
  | .exit j => cond (Nat.beq j 0) [2, 3] []
  | .ret => []
  | .normal => []
def y8y : Ex → List (Where × Co)
  | .exit j => cond (Nat.beq j 0) [] []
  | .ret => []
  | .normal => []
def y8z (pv : (Int × Int × Int × List Task × Int × Int × Int × Int × Int × Int × Int × Int × Int × Int × Int × Int × Int × Int × Int × Int × Int × Int) × (Int × List Task)) : St := { slots := [(1, .ptr 0 0 0), (2, .ptr 1 0 0), (3, .ptr 2 0 0), (4, .r [] (.int .i64 pv.2.1))], heap := [(0, .box [.r [] (.int .i64 pv.1.1), .r [] (.int .i64 pv.1.2.1), .r [] (.int .i64 pv.1.2.2.1), .r [] (.sl (.st .task) pv.1.2.2.2.1), .r [] (.int .i64 pv.1.2.2.2.2.1), .r [] (.int .i64 pv.1.2.2.2.2.2.1), .r [] (.int .i64 pv.1.2.2.2.2.2.2.1), .r [] (.int .i64 pv.1.2.2.2.2.2.2.2.1)]), (1, .box [.r [] (.int .i64 pv.1.2.2.2.2.2.2.2.2.1), .r [] (.int .i64 pv.1.2.2.2.2.2.2.2.2.2.1), .r [] (.int .i64 pv.1.2.2.2.2.2.2.2.2.2.2.1), .nilS, .r [] (.int .i64 pv.1.2.2.2.2.2.2.2.2.2.2.2.1), .r [] (.int .i64 pv.1.2.2.2.2.2.2.2.2.2.2.2.2.1), .r [] (.int .i64 pv.1.2.2.2.2.2.2.2.2.2.2.2.2.2.1), .r [] (.int .i64 pv.1.2.2.2.2.2.2.2.2.2.2.2.2.2.2.1)]), (2, .box [.r [] (.int .i64 pv.1.2.2.2.2.2.2.2.2.2.2.2.2.2.2.2.1), .r [] (.int .i64 pv.1.2.2.2.2.2.2.2.2.2.2.2.2.2.2.2.2.1), .r [] (.int .i64 pv.1.2.2.2.2.2.2.2.2.2.2.2.2.2.2.2.2.2.1), .own 3, .r [] (.int .i64 pv.1.2.2.2.2.2.2.2.2.2.2.2.2.2.2.2.2.2.2.1), .r [] (.int .i64 pv.1.2.2.2.2.2.2.2.2.2.2.2.2.2.2.2.2.2.2.2.1), .r [] (.int .i64 pv.1.2.2.2.2.2.2.2.2.2.2.2.2.2.2.2.2.2.2.2.2.1), .r [] (.int .i64 pv.1.2.2.2.2.2.2.2.2.2.2.2.2.2.2.2.2.2.2.2.2.2)]), (3, .arr none (.st .task) pv.2.2)], nid := 4, n := 31, gh := [] }
def y90 (nf : NF) : Option ((Int × Int × Int × List Task × Int × Int × Int × Int × Int × Int × Int × Int × Int × Int × Int × Int × Int × Int × Int × Int × Int × Int) × (Int × List Task)) := match nf with
  | ([.ptr 0 0 0, .ptr 1 0 0, .ptr 2 0 0, .r [] (.int .i64 w0)], [.box [.r [] (.int .i64 w1), .r [] (.int .i64 w2), .r [] (.int .i64 w3), .r [] (.sl (.st .task) w4), .r [] (.int .i64 w5), .r [] (.int .i64 w6), .r [] (.int .i64 w7), .r [] (.int .i64 w8)], .box [.r [] (.int .i64 w9), .r [] (.int .i64 w10), .r [] (.int .i64 w11), .nilS, .r [] (.int .i64 w12), .r [] (.int .i64 w13), .r [] (.int .i64 w14), .r [] (.int .i64 w15)], .box [.r [] (.int .i64 w16), .r [] (.int .i64 w17), .r [] (.int .i64 w18), .own 3, .r [] (.int .i64 w19), .r [] (.int .i64 w20), .r [] (.int .i64 w21), .r [] (.int .i64 w22)], .arr none (.st .task) w23], []) => some ((w1, w2, w3, w4, w5, w6, w7, w8, w9, w10, w11, w12, w13, w14, w15, w16, w17, w18, w19, w20, w21, w22), (w0, w23))
  | _ => none
theorem y91 (nf : NF) (v : (Int × Int × Int × List Task × Int × Int × Int × Int × Int × Int × Int × Int × Int × Int × Int × Int × Int × Int × Int × Int × Int × Int) × (Int × List Task)) (h : y90 nf = some v) : denorm y8v 31 nf = y8z v := by
  unfold y90 at h
  split at h
  · cases h; rfl
  · cases h
def y93 (p : Int × Int × Int × List Task × Int × Int × Int × Int × Int × Int × Int × Int × Int × Int × Int × Int × Int × Int × Int × Int × Int × Int) (x : List Task) : St := { slots := [(2, .ptr 0 0 0), (3, .ptr 1 0 0)], heap := [(0, .box [.r [] (.int .i64 p.2.2.2.2.2.2.2.2.1), .r [] (.int .i64 p.2.2.2.2.2.2.2.2.2.1), .r [] (.int .i64 p.2.2.2.2.2.2.2.2.2.2.1), .nilS, .r [] (.int .i64 p.2.2.2.2.2.2.2.2.2.2.2.1), .r [] (.int .i64 p.2.2.2.2.2.2.2.2.2.2.2.2.1), .r [] (.int .i64 p.2.2.2.2.2.2.2.2.2.2.2.2.2.1), .r [] (.int .i64 p.2.2.2.2.2.2.2.2.2.2.2.2.2.2.1)]), (1, .box [.r [] (.int .i64 p.2.2.2.2.2.2.2.2.2.2.2.2.2.2.2.1), .r [] (.int .i64 p.2.2.2.2.2.2.2.2.2.2.2.2.2.2.2.2.1), .r [] (.int .i64 p.2.2.2.2.2.2.2.2.2.2.2.2.2.2.2.2.2.1), .own 2, .r [] (.int .i64 p.2.2.2.2.2.2.2.2.2.2.2.2.2.2.2.2.2.2.1), .r [] (.int .i64 p.2.2.2.2.2.2.2.2.2.2.2.2.2.2.2.2.2.2.2.1), .r [] (.int .i64 p.2.2.2.2.2.2.2.2.2.2.2.2.2.2.2.2.2.2.2.2.1), .r [] (.int .i64 p.2.2.2.2.2.2.2.2.2.2.2.2.2.2.2.2.2.2.2.2.2)]), (2, .arr none (.st .task) x)], nid := 3, n := 31, gh := [] }
def y94 (ρ : Type) (k : Nat) : Nat → Ev ρ → Ev ρ := fun id f => cond (Nat.beq id 0) (loopOrc y8v y8w (fun n nf => cond (Nat.beq n 31) (y90 nf) none) fun pv K => iter (fun v next => S_l07Copy_g0 k pv.1 v next (fun x => K (.exit 0) (y93 pv.1 x))) k pv.2) ((fun _ _ _ _ => none) id f)
theorem y95 {ρ : Type} (k : Nat) (p : Int × Int × Int × List Task × Int × Int × Int × Int × Int × Int × Int × Int × Int × Int × Int × Int × Int × Int × Int × Int × Int × Int) (v : Int × List Task) (K K1 : Ex → St → Option ρ) : ev (y8r k) (y94 ρ k) 0 y8u (y8z (p, v)) (fun e st' => match e with
    | .normal => (normC y8v y8w st').bind fun nf => K1 .normal (denorm y8v st'.n nf)
    | e => (normC (y8x e) (y8y e) st').bind fun nf => K e (denorm (y8x e) st'.n nf)) = S_l07Copy_g0 k p v (fun v' => K1 .normal (y8z (p, v'))) (fun x => K (.exit 0) (y93 p x)) := by kernel_rfl
theorem y97 {ρ : Type} (k : Nat) : Sound Try.prog (.loop y8u) (y94 ρ k 0 fun st K => ev (y8r k) (y94 ρ k) 0 y8u st K) :=
  loop_ok (ev_sound (y8s k) y8u 0 (lpgood_none (by kernel_rfl))) y8x y8y k (g := fun p v next K => S_l07Copy_g0 k p v next (fun x => K (.exit 0) (y93 p x))) (dec_at y91) (fun p v K K1 => y95 k p v K K1)
def y98 (a : Sched) : List Arg := [.agg [.int .i64 a.now, .int .i64 a.slack, .int .i64 a.age, .sl (.st .task) a.tasks, .int .i64 a.run, .int .i64 a.left, .int .i64 a.turns, .int .i64 a.next]]
def y99 (l : List Arg) : Option (Sched) := match l with
  | [.agg [.int .i64 b0_0, .int .i64 b0_1, .int .i64 b0_2, .sl (.st .task) b0_3, .int .i64 b0_4, .int .i64 b0_5, .int .i64 b0_6, .int .i64 b0_7]] => some (⟨b0_0, b0_1, b0_2, b0_3, b0_4, b0_5, b0_6, b0_7⟩ : Sched)
  | _ => none
def y9a (r : Sched) : Out := (.agg [.r [] (.int .i64 r.now), .r [] (.int .i64 r.slack), .r [] (.int .i64 r.age), .own 0, .r [] (.int .i64 r.run), .r [] (.int .i64 r.left), .r [] (.int .i64 r.turns), .r [] (.int .i64 r.next)], [.arr none (.st .task) r.tasks])
def y9b (o : Out) : Option (Sched) := match o with
  | (.agg [.r [] (.int .i64 z1), .r [] (.int .i64 z2), .r [] (.int .i64 z3), .own 0, .r [] (.int .i64 z5), .r [] (.int .i64 z6), .r [] (.int .i64 z7), .r [] (.int .i64 z8)], [.arr none (.st .task) z4]) => some (⟨z1, z2, z3, z4, z5, z6, z7, z8⟩ : Sched)
  | _ => none
def y9c (k : Nat) : PG := fun _ l K => (y99 l).bind fun a => (S_l07Copy k a).bind fun r => K (y9a r)
theorem y9d (k : Nat) (a : Sched) : ev (y8r k) (y94 (Sched) k) 0 y8t (st0 Try.f112 (y98 a)) (fin Try.prog Try.f112 (.agg [.sc, .sc, .sc, .own (.st .task), .sc, .sc, .sc, .sc]) y9b) = S_l07Copy k a := by kernel_rfl
theorem y9e (k : Nat) : PureOk Try.prog 112 (y9c k) :=
  pureOk_of_ev (y8s k) Try.func112 (by kernel_rfl) (by kernel_rfl) y98 y99
    (fun l a h => by unfold y99 at h; split at h <;> first | (cases h; rfl) | cases h) (fun a => rfl) (lpgood_of (l := [(0, y8u)]) (by kernel_rfl) ⟨y97 k, trivial⟩)
    (fun o r h => by unfold y9b at h; split at h <;> first | (cases h; rfl) | cases h) (y9d k)
def y9f (k : Nat) : Orc := pureOrc [.agg [(.int .i64), (.int .i64), (.int .i64), (.sl (.st .task)), (.int .i64), (.int .i64), (.int .i64), (.int .i64)]] (y9c k)
theorem y9g (k : Nat) : OrcOk Try.prog 112 (y9f k) := pureOrc_ok (y9e k)
noncomputable def y9h (k : Nat) : Env := { P := Try.prog, tt := tt, orc := fun g => cond (Nat.beq g 41) (y7m k) (noOrc) }
theorem y9i (k : Nat) : EnvOk (y9h k) := fun g => (orc_cond (y7n k) (noOrc_ok _ _))
noncomputable def y9j : Code := (Try.f140.body).getD .skip
noncomputable def y9k : Code := ((loopsIn 0 y9j).getD 0 (0, .skip)).2
def y9l : List Nat := [1, 3, 4]
def y9m : List (Where × Co) := []
def y9n : Ex → List Nat
  | .exit j => cond (Nat.beq j 0) [3] []
  | .ret => []
  | .normal => []
def y9o : Ex → List (Where × Co)
  | .exit j => cond (Nat.beq j 0) [] []
  | .ret => []
  | .normal => []
def y9p (pv : (Int × Int × Int × List Task × Int × Int × Int × Int) × (Int × List Int)) : St := { slots := [(1, .ptr 0 0 0), (3, .own 1), (4, .r [] (.int .i64 pv.2.1))], heap := [(0, .box [.r [] (.int .i64 pv.1.1), .r [] (.int .i64 pv.1.2.1), .r [] (.int .i64 pv.1.2.2.1), .r [] (.sl (.st .task) pv.1.2.2.2.1), .r [] (.int .i64 pv.1.2.2.2.2.1), .r [] (.int .i64 pv.1.2.2.2.2.2.1), .r [] (.int .i64 pv.1.2.2.2.2.2.2.1), .r [] (.int .i64 pv.1.2.2.2.2.2.2.2)]), (1, .arr none (.int .i64) pv.2.2)], nid := 2, n := 35, gh := [] }
def y9q (nf : NF) : Option ((Int × Int × Int × List Task × Int × Int × Int × Int) × (Int × List Int)) := match nf with
  | ([.ptr 0 0 0, .own 1, .r [] (.int .i64 w0)], [.box [.r [] (.int .i64 w1), .r [] (.int .i64 w2), .r [] (.int .i64 w3), .r [] (.sl (.st .task) w4), .r [] (.int .i64 w5), .r [] (.int .i64 w6), .r [] (.int .i64 w7), .r [] (.int .i64 w8)], .arr none (.int .i64) w9], []) => some ((w1, w2, w3, w4, w5, w6, w7, w8), (w0, w9))
  | _ => none
theorem y9r (nf : NF) (v : (Int × Int × Int × List Task × Int × Int × Int × Int) × (Int × List Int)) (h : y9q nf = some v) : denorm y9l 35 nf = y9p v := by
  unfold y9q at h
  split at h
  · cases h; rfl
  · cases h
def y9s (p : Int × Int × Int × List Task × Int × Int × Int × Int) (x : List Int) : St := { slots := [(3, .own 0)], heap := [(0, .arr none (.int .i64) x)], nid := 1, n := 35, gh := [] }
def y9t (ρ : Type) (k : Nat) : Nat → Ev ρ → Ev ρ := fun id f => cond (Nat.beq id 0) (loopOrc y9l y9m (fun n nf => cond (Nat.beq n 35) (y9q nf) none) fun pv K => iter (fun v next => S_LateOf_g0 k pv.1 v next (fun x => K (.exit 0) (y9s pv.1 x))) k pv.2) ((fun _ _ _ _ => none) id f)
theorem y9u {ρ : Type} (k : Nat) (p : Int × Int × Int × List Task × Int × Int × Int × Int) (v : Int × List Int) (K K1 : Ex → St → Option ρ) : ev (y9h k) (y9t ρ k) 0 y9k (y9p (p, v)) (fun e st' => match e with
    | .normal => (normC y9l y9m st').bind fun nf => K1 .normal (denorm y9l st'.n nf)
    | e => (normC (y9n e) (y9o e) st').bind fun nf => K e (denorm (y9n e) st'.n nf)) = S_LateOf_g0 k p v (fun v' => K1 .normal (y9p (p, v'))) (fun x => K (.exit 0) (y9s p x)) := by kernel_rfl
theorem y9v {ρ : Type} (k : Nat) : Sound Try.prog (.loop y9k) (y9t ρ k 0 fun st K => ev (y9h k) (y9t ρ k) 0 y9k st K) :=
  loop_ok (ev_sound (y9i k) y9k 0 (lpgood_none (by kernel_rfl))) y9n y9o k (g := fun p v next K => S_LateOf_g0 k p v next (fun x => K (.exit 0) (y9s p x))) (dec_at y9r) (fun p v K K1 => y9u k p v K K1)
def y9w (a : Sched) : List Arg := [.agg [.int .i64 a.now, .int .i64 a.slack, .int .i64 a.age, .sl (.st .task) a.tasks, .int .i64 a.run, .int .i64 a.left, .int .i64 a.turns, .int .i64 a.next]]
def y9x (l : List Arg) : Option (Sched) := match l with
  | [.agg [.int .i64 b0_0, .int .i64 b0_1, .int .i64 b0_2, .sl (.st .task) b0_3, .int .i64 b0_4, .int .i64 b0_5, .int .i64 b0_6, .int .i64 b0_7]] => some (⟨b0_0, b0_1, b0_2, b0_3, b0_4, b0_5, b0_6, b0_7⟩ : Sched)
  | _ => none
def y9y (r : List Int) : Out := (.own 0, [.arr none (.int .i64) r])
def y9z (o : Out) : Option (List Int) := match o with
  | (.own 0, [.arr none (.int .i64) z1]) => some z1
  | _ => none
def ya0 (k : Nat) : PG := fun _ l K => (y9x l).bind fun a => (S_LateOf k a).bind fun r => K (y9y r)
theorem ya1 (k : Nat) (a : Sched) : ev (y9h k) (y9t (List Int) k) 0 y9j (st0 Try.f140 (y9w a)) (fin Try.prog Try.f140 (.own (.int .i64)) y9z) = S_LateOf k a := by kernel_rfl
theorem ya2 (k : Nat) : PureOk Try.prog 140 (ya0 k) :=
  pureOk_of_ev (y9i k) Try.func140 (by kernel_rfl) (by kernel_rfl) y9w y9x
    (fun l a h => by unfold y9x at h; split at h <;> first | (cases h; rfl) | cases h) (fun a => rfl) (lpgood_of (l := [(0, y9k)]) (by kernel_rfl) ⟨y9v k, trivial⟩)
    (fun o r h => by unfold y9z at h; split at h <;> first | (cases h; rfl) | cases h) (ya1 k)
def ya3 (k : Nat) : Orc := pureOrc [.agg [(.int .i64), (.int .i64), (.int .i64), (.sl (.st .task)), (.int .i64), (.int .i64), (.int .i64), (.int .i64)]] (ya0 k)
theorem ya4 (k : Nat) : OrcOk Try.prog 140 (ya3 k) := pureOrc_ok (ya2 k)
noncomputable def ya5 (k : Nat) : Env := { P := Try.prog, tt := tt, orc := fun g => cond (Nat.beq g 41) (y7m k) (cond (Nat.beq g 137) (y6v k) (noOrc)) }
theorem ya6 (k : Nat) : EnvOk (ya5 k) := fun g => (orc_cond (y7n k) (orc_cond (y6w k) (noOrc_ok _ _)))
noncomputable def ya7 : Code := (Try.f200.body).getD .skip
noncomputable def ya8 : Code := ((loopsIn 0 ya7).getD 0 (0, .skip)).2
def ya9 : List Nat := [1, 2, 6, 7, 8]
def yaa : List (Where × Co) := []
def yab : Ex → List Nat
  | .exit j => cond (Nat.beq j 0) [1, 2, 6, 7] []
  | .ret => []
  | .normal => []
def yac : Ex → List (Where × Co)
  | .exit j => cond (Nat.beq j 0) [] []
  | .ret => []
  | .normal => []
def yad (pv : (Int × Int × Int × Int × List Task × Int × Int × Int × Int × Int × List Int × Int × Int × Int) × (Int × Int)) : St := { slots := [(1, .r [] (.int .i64 pv.1.1)), (2, .ptr 0 0 0), (6, .ptr 1 0 0), (7, .r [] (.int .i64 pv.2.1)), (8, .r [] (.int .i64 pv.2.2))], heap := [(0, .box [.r [] (.int .i64 pv.1.2.1), .r [] (.int .i64 pv.1.2.2.1), .r [] (.int .i64 pv.1.2.2.2.1), .r [] (.sl (.st .task) pv.1.2.2.2.2.1), .r [] (.int .i64 pv.1.2.2.2.2.2.1), .r [] (.int .i64 pv.1.2.2.2.2.2.2.1), .r [] (.int .i64 pv.1.2.2.2.2.2.2.2.1), .r [] (.int .i64 pv.1.2.2.2.2.2.2.2.2.1)]), (1, .box [.r [] (.int .i64 pv.1.2.2.2.2.2.2.2.2.2.1), .r [] (.sl (.int .i64) pv.1.2.2.2.2.2.2.2.2.2.2.1), .r [] (.int .i64 pv.1.2.2.2.2.2.2.2.2.2.2.2.1), .r [] (.int .i64 pv.1.2.2.2.2.2.2.2.2.2.2.2.2.1), .r [] (.int .i64 pv.1.2.2.2.2.2.2.2.2.2.2.2.2.2)])], nid := 2, n := 56, gh := [] }
def yae (nf : NF) : Option ((Int × Int × Int × Int × List Task × Int × Int × Int × Int × Int × List Int × Int × Int × Int) × (Int × Int)) := match nf with
  | ([.r [] (.int .i64 w0), .ptr 0 0 0, .ptr 1 0 0, .r [] (.int .i64 w1), .r [] (.int .i64 w2)], [.box [.r [] (.int .i64 w3), .r [] (.int .i64 w4), .r [] (.int .i64 w5), .r [] (.sl (.st .task) w6), .r [] (.int .i64 w7), .r [] (.int .i64 w8), .r [] (.int .i64 w9), .r [] (.int .i64 w10)], .box [.r [] (.int .i64 w11), .r [] (.sl (.int .i64) w12), .r [] (.int .i64 w13), .r [] (.int .i64 w14), .r [] (.int .i64 w15)]], []) => some ((w0, w3, w4, w5, w6, w7, w8, w9, w10, w11, w12, w13, w14, w15), (w1, w2))
  | _ => none
theorem yaf (nf : NF) (v : (Int × Int × Int × Int × List Task × Int × Int × Int × Int × Int × List Int × Int × Int × Int) × (Int × Int)) (h : yae nf = some v) : denorm ya9 56 nf = yad v := by
  unfold yae at h
  split at h
  · cases h; rfl
  · cases h
def yag (p : Int × Int × Int × Int × List Task × Int × Int × Int × Int × Int × List Int × Int × Int × Int) (x : Int) : St := { slots := [(1, .r [] (.int .i64 p.1)), (2, .ptr 0 0 0), (6, .ptr 1 0 0), (7, .r [] (.int .i64 x))], heap := [(0, .box [.r [] (.int .i64 p.2.1), .r [] (.int .i64 p.2.2.1), .r [] (.int .i64 p.2.2.2.1), .r [] (.sl (.st .task) p.2.2.2.2.1), .r [] (.int .i64 p.2.2.2.2.2.1), .r [] (.int .i64 p.2.2.2.2.2.2.1), .r [] (.int .i64 p.2.2.2.2.2.2.2.1), .r [] (.int .i64 p.2.2.2.2.2.2.2.2.1)]), (1, .box [.r [] (.int .i64 p.2.2.2.2.2.2.2.2.2.1), .r [] (.sl (.int .i64) p.2.2.2.2.2.2.2.2.2.2.1), .r [] (.int .i64 p.2.2.2.2.2.2.2.2.2.2.2.1), .r [] (.int .i64 p.2.2.2.2.2.2.2.2.2.2.2.2.1), .r [] (.int .i64 p.2.2.2.2.2.2.2.2.2.2.2.2.2)])], nid := 2, n := 56, gh := [] }
def yah (ρ : Type) (k : Nat) : Nat → Ev ρ → Ev ρ := fun id f => cond (Nat.beq id 0) (loopOrc ya9 yaa (fun n nf => cond (Nat.beq n 56) (yae nf) none) fun pv K => iter (fun v next => S_RemainOf_g0 k pv.1 v next (fun x => K (.exit 0) (yag pv.1 x))) k pv.2) ((fun _ _ _ _ => none) id f)
theorem yai {ρ : Type} (k : Nat) (p : Int × Int × Int × Int × List Task × Int × Int × Int × Int × Int × List Int × Int × Int × Int) (v : Int × Int) (K K1 : Ex → St → Option ρ) : ev (ya5 k) (yah ρ k) 0 ya8 (yad (p, v)) (fun e st' => match e with
    | .normal => (normC ya9 yaa st').bind fun nf => K1 .normal (denorm ya9 st'.n nf)
    | e => (normC (yab e) (yac e) st').bind fun nf => K e (denorm (yab e) st'.n nf)) = S_RemainOf_g0 k p v (fun v' => K1 .normal (yad (p, v'))) (fun x => K (.exit 0) (yag p x)) := by kernel_rfl
theorem yaj {ρ : Type} (k : Nat) : Sound Try.prog (.loop ya8) (yah ρ k 0 fun st K => ev (ya5 k) (yah ρ k) 0 ya8 st K) :=
  loop_ok (ev_sound (ya6 k) ya8 0 (lpgood_none (by kernel_rfl))) yab yac k (g := fun p v next K => S_RemainOf_g0 k p v next (fun x => K (.exit 0) (yag p x))) (dec_at yaf) (fun p v K K1 => yai k p v K K1)
def yak (a : Sched × Int) : List Arg := [.agg [.int .i64 a.1.now, .int .i64 a.1.slack, .int .i64 a.1.age, .sl (.st .task) a.1.tasks, .int .i64 a.1.run, .int .i64 a.1.left, .int .i64 a.1.turns, .int .i64 a.1.next], .one (.int .i64 a.2)]
def yal (l : List Arg) : Option (Sched × Int) := match l with
  | [.agg [.int .i64 b0_0, .int .i64 b0_1, .int .i64 b0_2, .sl (.st .task) b0_3, .int .i64 b0_4, .int .i64 b0_5, .int .i64 b0_6, .int .i64 b0_7], .one (.int .i64 b1)] => some ((⟨b0_0, b0_1, b0_2, b0_3, b0_4, b0_5, b0_6, b0_7⟩ : Sched), b1)
  | _ => none
def yam (r : Int) : Out := (.r [] (.int .i64 r), [])
def yan (o : Out) : Option (Int) := match o with
  | (.r [] (.int .i64 z1), []) => some z1
  | _ => none
def yao (k : Nat) : PG := fun _ l K => (yal l).bind fun a => (S_RemainOf k a.1 a.2).bind fun r => K (yam r)
theorem yap (k : Nat) (a : Sched × Int) : ev (ya5 k) (yah (Int) k) 0 ya7 (st0 Try.f200 (yak a)) (fin Try.prog Try.f200 (.sc) yan) = S_RemainOf k a.1 a.2 := by kernel_rfl
theorem yaq (k : Nat) : PureOk Try.prog 200 (yao k) :=
  pureOk_of_ev (ya6 k) Try.func200 (by kernel_rfl) (by kernel_rfl) yak yal
    (fun l a h => by unfold yal at h; split at h <;> first | (cases h; rfl) | cases h) (fun a => rfl) (lpgood_of (l := [(0, ya8)]) (by kernel_rfl) ⟨yaj k, trivial⟩)
    (fun o r h => by unfold yan at h; split at h <;> first | (cases h; rfl) | cases h) (yap k)
def yar (k : Nat) : Orc := pureOrc [.agg [(.int .i64), (.int .i64), (.int .i64), (.sl (.st .task)), (.int .i64), (.int .i64), (.int .i64), (.int .i64)], .one (.int .i64)] (yao k)
theorem yas (k : Nat) : OrcOk Try.prog 200 (yar k) := pureOrc_ok (yaq k)
noncomputable def yat (k : Nat) : Env := { P := Try.prog, tt := tt, orc := fun g => cond (Nat.beq g 41) (y7m k) (cond (Nat.beq g 200) (yar k) (noOrc)) }
theorem yau (k : Nat) : EnvOk (yat k) := fun g => (orc_cond (y7n k) (orc_cond (yas k) (noOrc_ok _ _)))
noncomputable def yav : Code := (Try.f141.body).getD .skip
noncomputable def yaw : Code := ((loopsIn 0 yav).getD 0 (0, .skip)).2
def yax : List Nat := [1, 2, 5, 6]
def yay : List (Where × Co) := []
def yaz : Ex → List Nat
  | .exit j => cond (Nat.beq j 0) [5] []
  | .ret => []
  | .normal => []
def yb0 : Ex → List (Where × Co)
  | .exit j => cond (Nat.beq j 0) [] []
  | .ret => []
  | .normal => []
def yb1 (pv : (Int × Int × Int × Int × List Task × Int × Int × Int × Int) × (Int × Int)) : St := { slots := [(1, .r [] (.int .i64 pv.1.1)), (2, .ptr 0 0 0), (5, .r [] (.int .i64 pv.2.1)), (6, .r [] (.int .i64 pv.2.2))], heap := [(0, .box [.r [] (.int .i64 pv.1.2.1), .r [] (.int .i64 pv.1.2.2.1), .r [] (.int .i64 pv.1.2.2.2.1), .r [] (.sl (.st .task) pv.1.2.2.2.2.1), .r [] (.int .i64 pv.1.2.2.2.2.2.1), .r [] (.int .i64 pv.1.2.2.2.2.2.2.1), .r [] (.int .i64 pv.1.2.2.2.2.2.2.2.1), .r [] (.int .i64 pv.1.2.2.2.2.2.2.2.2)])], nid := 1, n := 36, gh := [] }
def yb2 (nf : NF) : Option ((Int × Int × Int × Int × List Task × Int × Int × Int × Int) × (Int × Int)) := match nf with
  | ([.r [] (.int .i64 w0), .ptr 0 0 0, .r [] (.int .i64 w1), .r [] (.int .i64 w2)], [.box [.r [] (.int .i64 w3), .r [] (.int .i64 w4), .r [] (.int .i64 w5), .r [] (.sl (.st .task) w6), .r [] (.int .i64 w7), .r [] (.int .i64 w8), .r [] (.int .i64 w9), .r [] (.int .i64 w10)]], []) => some ((w0, w3, w4, w5, w6, w7, w8, w9, w10), (w1, w2))
  | _ => none
theorem yb3 (nf : NF) (v : (Int × Int × Int × Int × List Task × Int × Int × Int × Int) × (Int × Int)) (h : yb2 nf = some v) : denorm yax 36 nf = yb1 v := by
  unfold yb2 at h
  split at h
  · cases h; rfl
  · cases h
def yb4 (p : Int × Int × Int × Int × List Task × Int × Int × Int × Int) (x : Int) : St := { slots := [(5, .r [] (.int .i64 x))], heap := [], nid := 0, n := 36, gh := [] }
def yb5 (ρ : Type) (k : Nat) : Nat → Ev ρ → Ev ρ := fun id f => cond (Nat.beq id 0) (loopOrc yax yay (fun n nf => cond (Nat.beq n 36) (yb2 nf) none) fun pv K => iter (fun v next => S_DemandAt_g0 k pv.1 v next (fun x => K (.exit 0) (yb4 pv.1 x))) k pv.2) ((fun _ _ _ _ => none) id f)
theorem yb6 {ρ : Type} (k : Nat) (p : Int × Int × Int × Int × List Task × Int × Int × Int × Int) (v : Int × Int) (K K1 : Ex → St → Option ρ) : ev (yat k) (yb5 ρ k) 0 yaw (yb1 (p, v)) (fun e st' => match e with
    | .normal => (normC yax yay st').bind fun nf => K1 .normal (denorm yax st'.n nf)
    | e => (normC (yaz e) (yb0 e) st').bind fun nf => K e (denorm (yaz e) st'.n nf)) = S_DemandAt_g0 k p v (fun v' => K1 .normal (yb1 (p, v'))) (fun x => K (.exit 0) (yb4 p x)) := by kernel_rfl
theorem yb7 {ρ : Type} (k : Nat) : Sound Try.prog (.loop yaw) (yb5 ρ k 0 fun st K => ev (yat k) (yb5 ρ k) 0 yaw st K) :=
  loop_ok (ev_sound (yau k) yaw 0 (lpgood_none (by kernel_rfl))) yaz yb0 k (g := fun p v next K => S_DemandAt_g0 k p v next (fun x => K (.exit 0) (yb4 p x))) (dec_at yb3) (fun p v K K1 => yb6 k p v K K1)
def yb8 (a : Sched × Int) : List Arg := [.agg [.int .i64 a.1.now, .int .i64 a.1.slack, .int .i64 a.1.age, .sl (.st .task) a.1.tasks, .int .i64 a.1.run, .int .i64 a.1.left, .int .i64 a.1.turns, .int .i64 a.1.next], .one (.int .i64 a.2)]
def yb9 (l : List Arg) : Option (Sched × Int) := match l with
  | [.agg [.int .i64 b0_0, .int .i64 b0_1, .int .i64 b0_2, .sl (.st .task) b0_3, .int .i64 b0_4, .int .i64 b0_5, .int .i64 b0_6, .int .i64 b0_7], .one (.int .i64 b1)] => some ((⟨b0_0, b0_1, b0_2, b0_3, b0_4, b0_5, b0_6, b0_7⟩ : Sched), b1)
  | _ => none
def yba (r : Int) : Out := (.r [] (.int .i64 r), [])
def ybb (o : Out) : Option (Int) := match o with
  | (.r [] (.int .i64 z1), []) => some z1
  | _ => none
def ybc (k : Nat) : PG := fun _ l K => (yb9 l).bind fun a => (S_DemandAt k a.1 a.2).bind fun r => K (yba r)
theorem ybd (k : Nat) (a : Sched × Int) : ev (yat k) (yb5 (Int) k) 0 yav (st0 Try.f141 (yb8 a)) (fin Try.prog Try.f141 (.sc) ybb) = S_DemandAt k a.1 a.2 := by kernel_rfl
theorem ybe (k : Nat) : PureOk Try.prog 141 (ybc k) :=
  pureOk_of_ev (yau k) Try.func141 (by kernel_rfl) (by kernel_rfl) yb8 yb9
    (fun l a h => by unfold yb9 at h; split at h <;> first | (cases h; rfl) | cases h) (fun a => rfl) (lpgood_of (l := [(0, yaw)]) (by kernel_rfl) ⟨yb7 k, trivial⟩)
    (fun o r h => by unfold ybb at h; split at h <;> first | (cases h; rfl) | cases h) (ybd k)
def ybf (k : Nat) : Orc := pureOrc [.agg [(.int .i64), (.int .i64), (.int .i64), (.sl (.st .task)), (.int .i64), (.int .i64), (.int .i64), (.int .i64)], .one (.int .i64)] (ybc k)
theorem ybg (k : Nat) : OrcOk Try.prog 141 (ybf k) := pureOrc_ok (ybe k)
noncomputable def ybh (k : Nat) : Env := { P := Try.prog, tt := tt, orc := fun g => cond (Nat.beq g 41) (y7m k) (cond (Nat.beq g 137) (y6v k) (noOrc)) }
theorem ybi (k : Nat) : EnvOk (ybh k) := fun g => (orc_cond (y7n k) (orc_cond (y6w k) (noOrc_ok _ _)))
noncomputable def ybj : Code := (Try.f142.body).getD .skip
def ybk (ρ : Type) (k : Nat) : Nat → Ev ρ → Ev ρ := fun _ _ _ _ => none
def ybl (a : Sched × Int) : List Arg := [.agg [.int .i64 a.1.now, .int .i64 a.1.slack, .int .i64 a.1.age, .sl (.st .task) a.1.tasks, .int .i64 a.1.run, .int .i64 a.1.left, .int .i64 a.1.turns, .int .i64 a.1.next], .one (.int .i64 a.2)]
def ybm (l : List Arg) : Option (Sched × Int) := match l with
  | [.agg [.int .i64 b0_0, .int .i64 b0_1, .int .i64 b0_2, .sl (.st .task) b0_3, .int .i64 b0_4, .int .i64 b0_5, .int .i64 b0_6, .int .i64 b0_7], .one (.int .i64 b1)] => some ((⟨b0_0, b0_1, b0_2, b0_3, b0_4, b0_5, b0_6, b0_7⟩ : Sched), b1)
  | _ => none
def ybn (r : Int) : Out := (.r [] (.int .i64 r), [])
def ybo (o : Out) : Option (Int) := match o with
  | (.r [] (.int .i64 z1), []) => some z1
  | _ => none
def ybp (k : Nat) : PG := fun _ l K => (ybm l).bind fun a => (S_BlockAt k a.1 a.2).bind fun r => K (ybn r)
theorem ybq (k : Nat) (a : Sched × Int) : ev (ybh k) (ybk (Int) k) 0 ybj (st0 Try.f142 (ybl a)) (fin Try.prog Try.f142 (.sc) ybo) = S_BlockAt k a.1 a.2 := by kernel_rfl
theorem ybr (k : Nat) : PureOk Try.prog 142 (ybp k) :=
  pureOk_of_ev (ybi k) Try.func142 (by kernel_rfl) (by kernel_rfl) ybl ybm
    (fun l a h => by unfold ybm at h; split at h <;> first | (cases h; rfl) | cases h) (fun a => rfl) (lpgood_none (by kernel_rfl))
    (fun o r h => by unfold ybo at h; split at h <;> first | (cases h; rfl) | cases h) (ybq k)
def ybs (k : Nat) : Orc := pureOrc [.agg [(.int .i64), (.int .i64), (.int .i64), (.sl (.st .task)), (.int .i64), (.int .i64), (.int .i64), (.int .i64)], .one (.int .i64)] (ybp k)
theorem ybt (k : Nat) : OrcOk Try.prog 142 (ybs k) := pureOrc_ok (ybr k)
noncomputable def ybu (k : Nat) : Env := { P := Try.prog, tt := tt, orc := fun g => cond (Nat.beq g 41) (y7m k) (cond (Nat.beq g 140) (ya3 k) (cond (Nat.beq g 141) (ybf k) (cond (Nat.beq g 142) (ybs k) (noOrc)))) }
theorem ybv (k : Nat) : EnvOk (ybu k) := fun g => (orc_cond (y7n k) (orc_cond (ya4 k) (orc_cond (ybg k) (orc_cond (ybt k) (noOrc_ok _ _)))))
noncomputable def ybw : Code := (Try.f44.body).getD .skip
noncomputable def ybx : Code := ((loopsIn 0 ybw).getD 0 (0, .skip)).2
def yby : List Nat := [1, 3]
def ybz : List (Where × Co) := []
def yc0 : Ex → List Nat
  | .exit j => cond (Nat.beq j 0) [] []
  | .ret => [2]
  | .normal => []
def yc1 : Ex → List (Where × Co)
  | .exit j => cond (Nat.beq j 0) [] []
  | .ret => []
  | .normal => []
def yc2 (pv : (Int × Int × Int × List Task × Int × Int × Int × Int) × (Int)) : St := { slots := [(1, .ptr 0 0 0), (3, .r [] (.int .i64 pv.2))], heap := [(0, .box [.r [] (.int .i64 pv.1.1), .r [] (.int .i64 pv.1.2.1), .r [] (.int .i64 pv.1.2.2.1), .r [] (.sl (.st .task) pv.1.2.2.2.1), .r [] (.int .i64 pv.1.2.2.2.2.1), .r [] (.int .i64 pv.1.2.2.2.2.2.1), .r [] (.int .i64 pv.1.2.2.2.2.2.2.1), .r [] (.int .i64 pv.1.2.2.2.2.2.2.2)])], nid := 1, n := 42, gh := [] }
def yc3 (nf : NF) : Option ((Int × Int × Int × List Task × Int × Int × Int × Int) × (Int)) := match nf with
  | ([.ptr 0 0 0, .r [] (.int .i64 w0)], [.box [.r [] (.int .i64 w1), .r [] (.int .i64 w2), .r [] (.int .i64 w3), .r [] (.sl (.st .task) w4), .r [] (.int .i64 w5), .r [] (.int .i64 w6), .r [] (.int .i64 w7), .r [] (.int .i64 w8)]], []) => some ((w1, w2, w3, w4, w5, w6, w7, w8), w0)
  | _ => none
theorem yc4 (nf : NF) (v : (Int × Int × Int × List Task × Int × Int × Int × Int) × (Int)) (h : yc3 nf = some v) : denorm yby 42 nf = yc2 v := by
  unfold yc3 at h
  split at h
  · cases h; rfl
  · cases h
def yc5 (p : Int × Int × Int × List Task × Int × Int × Int × Int) (x : Unit) : St := { slots := [], heap := [], nid := 0, n := 42, gh := [] }
def yc6 (p : Int × Int × Int × List Task × Int × Int × Int × Int) (x : Bool) : St := { slots := [(2, .r [] (.bool x))], heap := [], nid := 0, n := 42, gh := [] }
def yc7 (ρ : Type) (k : Nat) : Nat → Ev ρ → Ev ρ := fun id f => cond (Nat.beq id 0) (loopOrc yby ybz (fun n nf => cond (Nat.beq n 42) (yc3 nf) none) fun pv K => iter (fun v next => S_FitsIn_g0 k pv.1 v next (fun x => K (.exit 0) (yc5 pv.1 x)) (fun x => K .ret (yc6 pv.1 x))) k pv.2) ((fun _ _ _ _ => none) id f)
theorem yc8 {ρ : Type} (k : Nat) (p : Int × Int × Int × List Task × Int × Int × Int × Int) (v : Int) (K K1 : Ex → St → Option ρ) : ev (ybu k) (yc7 ρ k) 0 ybx (yc2 (p, v)) (fun e st' => match e with
    | .normal => (normC yby ybz st').bind fun nf => K1 .normal (denorm yby st'.n nf)
    | e => (normC (yc0 e) (yc1 e) st').bind fun nf => K e (denorm (yc0 e) st'.n nf)) = S_FitsIn_g0 k p v (fun v' => K1 .normal (yc2 (p, v'))) (fun x => K (.exit 0) (yc5 p x)) (fun x => K .ret (yc6 p x)) := by kernel_rfl
theorem yc9 {ρ : Type} (k : Nat) : Sound Try.prog (.loop ybx) (yc7 ρ k 0 fun st K => ev (ybu k) (yc7 ρ k) 0 ybx st K) :=
  loop_ok (ev_sound (ybv k) ybx 0 (lpgood_none (by kernel_rfl))) yc0 yc1 k (g := fun p v next K => S_FitsIn_g0 k p v next (fun x => K (.exit 0) (yc5 p x)) (fun x => K .ret (yc6 p x))) (dec_at yc4) (fun p v K K1 => yc8 k p v K K1)
def yca (a : Sched) : List Arg := [.agg [.int .i64 a.now, .int .i64 a.slack, .int .i64 a.age, .sl (.st .task) a.tasks, .int .i64 a.run, .int .i64 a.left, .int .i64 a.turns, .int .i64 a.next]]
def ycb (l : List Arg) : Option (Sched) := match l with
  | [.agg [.int .i64 b0_0, .int .i64 b0_1, .int .i64 b0_2, .sl (.st .task) b0_3, .int .i64 b0_4, .int .i64 b0_5, .int .i64 b0_6, .int .i64 b0_7]] => some (⟨b0_0, b0_1, b0_2, b0_3, b0_4, b0_5, b0_6, b0_7⟩ : Sched)
  | _ => none
def ycc (r : Bool) : Out := (.r [] (.bool r), [])
def ycd (o : Out) : Option (Bool) := match o with
  | (.r [] (.bool z1), []) => some z1
  | _ => none
def yce (k : Nat) : PG := fun _ l K => (ycb l).bind fun a => (S_FitsIn k a).bind fun r => K (ycc r)
theorem ycf (k : Nat) (a : Sched) : ev (ybu k) (yc7 (Bool) k) 0 ybw (st0 Try.f44 (yca a)) (fin Try.prog Try.f44 (.sc) ycd) = S_FitsIn k a := by kernel_rfl
theorem ycg (k : Nat) : PureOk Try.prog 44 (yce k) :=
  pureOk_of_ev (ybv k) Try.func44 (by kernel_rfl) (by kernel_rfl) yca ycb
    (fun l a h => by unfold ycb at h; split at h <;> first | (cases h; rfl) | cases h) (fun a => rfl) (lpgood_of (l := [(0, ybx)]) (by kernel_rfl) ⟨yc9 k, trivial⟩)
    (fun o r h => by unfold ycd at h; split at h <;> first | (cases h; rfl) | cases h) (ycf k)
def ych (k : Nat) : Orc := pureOrc [.agg [(.int .i64), (.int .i64), (.int .i64), (.sl (.st .task)), (.int .i64), (.int .i64), (.int .i64), (.int .i64)]] (yce k)
theorem yci (k : Nat) : OrcOk Try.prog 44 (ych k) := pureOrc_ok (ycg k)
noncomputable def ycj (k : Nat) : Env := { P := Try.prog, tt := tt, orc := fun g => cond (Nat.beq g 41) (y7m k) (cond (Nat.beq g 44) (ych k) (cond (Nat.beq g 112) (y9f k) (cond (Nat.beq g 113) (y8p k) (cond (Nat.beq g 114) (y65 k) (noOrc))))) }
theorem yck (k : Nat) : EnvOk (ycj k) := fun g => (orc_cond (y7n k) (orc_cond (yci k) (orc_cond (y9g k) (orc_cond (y8q k) (orc_cond (y67 k) (noOrc_ok _ _))))))
noncomputable def ycl : Code := (Try.f31.body).getD .skip
def ycm (ρ : Type) (k : Nat) : Nat → Ev ρ → Ev ρ := fun _ _ _ _ => none
def ycn (a : Sched × List Int × Int) : List Arg := [.agg [.int .i64 a.1.now, .int .i64 a.1.slack, .int .i64 a.1.age, .sl (.st .task) a.1.tasks, .int .i64 a.1.run, .int .i64 a.1.left, .int .i64 a.1.turns, .int .i64 a.1.next], .one (.sl (.int .i64) a.2.1), .one (.int .i64 a.2.2)]
def yco (l : List Arg) : Option (Sched × List Int × Int) := match l with
  | [.agg [.int .i64 b0_0, .int .i64 b0_1, .int .i64 b0_2, .sl (.st .task) b0_3, .int .i64 b0_4, .int .i64 b0_5, .int .i64 b0_6, .int .i64 b0_7], .one (.sl (.int .i64) b1), .one (.int .i64 b2)] => some ((⟨b0_0, b0_1, b0_2, b0_3, b0_4, b0_5, b0_6, b0_7⟩ : Sched), b1, b2)
  | _ => none
def ycp (r : Sched × Int × Int) : Out := (.tup [.agg [.r [] (.int .i64 r.1.now), .r [] (.int .i64 r.1.slack), .r [] (.int .i64 r.1.age), .own 0, .r [] (.int .i64 r.1.run), .r [] (.int .i64 r.1.left), .r [] (.int .i64 r.1.turns), .r [] (.int .i64 r.1.next)], .r [] (.int .i64 r.2.1), .r [] (.int .i64 r.2.2)], [.arr none (.st .task) r.1.tasks])
def ycq (o : Out) : Option (Sched × Int × Int) := match o with
  | (.tup [.agg [.r [] (.int .i64 z1), .r [] (.int .i64 z2), .r [] (.int .i64 z3), .own 0, .r [] (.int .i64 z5), .r [] (.int .i64 z6), .r [] (.int .i64 z7), .r [] (.int .i64 z8)], .r [] (.int .i64 z9), .r [] (.int .i64 z10)], [.arr none (.st .task) z4]) => some ((⟨z1, z2, z3, z4, z5, z6, z7, z8⟩ : Sched), z9, z10)
  | _ => none
def ycr (k : Nat) : PG := fun _ l K => (yco l).bind fun a => (S_Admit k a.1 a.2.1 a.2.2).bind fun r => K (ycp r)
theorem ycs (k : Nat) (a : Sched × List Int × Int) : ev (ycj k) (ycm (Sched × Int × Int) k) 0 ycl (st0 Try.f31 (ycn a)) (fin Try.prog Try.f31 (.tup [.agg [.sc, .sc, .sc, .own (.st .task), .sc, .sc, .sc, .sc], .sc, .sc]) ycq) = S_Admit k a.1 a.2.1 a.2.2 := by kernel_rfl
theorem yct (k : Nat) : PureOk Try.prog 31 (ycr k) :=
  pureOk_of_ev (yck k) Try.func31 (by kernel_rfl) (by kernel_rfl) ycn yco
    (fun l a h => by unfold yco at h; split at h <;> first | (cases h; rfl) | cases h) (fun a => rfl) (lpgood_none (by kernel_rfl))
    (fun o r h => by unfold ycq at h; split at h <;> first | (cases h; rfl) | cases h) (ycs k)
def ycu (k : Nat) : Orc := pureOrc [.agg [(.int .i64), (.int .i64), (.int .i64), (.sl (.st .task)), (.int .i64), (.int .i64), (.int .i64), (.int .i64)], .one (.sl (.int .i64)), .one (.int .i64)] (ycr k)
theorem ycv (k : Nat) : OrcOk Try.prog 31 (ycu k) := pureOrc_ok (yct k)
noncomputable def ycw (k : Nat) : Env := { P := Try.prog, tt := ttTask, orc := fun g => noOrc }
theorem ycx (k : Nat) : EnvOk (ycw k) := fun g => (noOrc_ok _ _)
noncomputable def ycy : Code := (Try.f194.body).getD .skip
noncomputable def ycz : Code := ((loopsIn 0 ycy).getD 0 (0, .skip)).2
def yd0 : List Nat := [0, 1, 4, 5]
def yd1 : List (Where × Co) := []
def yd2 : Ex → List Nat
  | .exit j => cond (Nat.beq j 0) [0, 4] []
  | .ret => []
  | .normal => []
def yd3 : Ex → List (Where × Co)
  | .exit j => cond (Nat.beq j 0) [] []
  | .ret => []
  | .normal => []
def yd4 (pv : (Int × Int × Int × Int × Int × Int × Int × Int × List TaskK) × (Int × List TaskK)) : St := { slots := [(0, .ptr 0 0 0), (1, .r [] (.int .i64 pv.1.1)), (4, .own 1), (5, .r [] (.int .i64 pv.2.1))], heap := [(0, .box [.r [] (.int .i64 pv.1.2.1), .r [] (.int .i64 pv.1.2.2.1), .r [] (.int .i64 pv.1.2.2.2.1), .own 2, .r [] (.int .i64 pv.1.2.2.2.2.1), .r [] (.int .i64 pv.1.2.2.2.2.2.1), .r [] (.int .i64 pv.1.2.2.2.2.2.2.1), .r [] (.int .i64 pv.1.2.2.2.2.2.2.2.1)]), (1, .arr none (.st .taskK) pv.2.2), (2, .arr none (.st .taskK) pv.1.2.2.2.2.2.2.2.2)], nid := 3, n := 40, gh := [some 0, some 2] }
def yd5 (nf : NF) : Option ((Int × Int × Int × Int × Int × Int × Int × Int × List TaskK) × (Int × List TaskK)) := match nf with
  | ([.ptr 0 0 0, .r [] (.int .i64 w0), .own 1, .r [] (.int .i64 w1)], [.box [.r [] (.int .i64 w2), .r [] (.int .i64 w3), .r [] (.int .i64 w4), .own 2, .r [] (.int .i64 w5), .r [] (.int .i64 w6), .r [] (.int .i64 w7), .r [] (.int .i64 w8)], .arr none (.st .taskK) w9, .arr none (.st .taskK) w10], [some 0, some 2]) => some ((w0, w2, w3, w4, w5, w6, w7, w8, w10), (w1, w9))
  | _ => none
theorem yd6 (nf : NF) (v : (Int × Int × Int × Int × Int × Int × Int × Int × List TaskK) × (Int × List TaskK)) (h : yd5 nf = some v) : denorm yd0 40 nf = yd4 v := by
  unfold yd5 at h
  split at h
  · cases h; rfl
  · cases h
def yd7 (p : Int × Int × Int × Int × Int × Int × Int × Int × List TaskK) (x : List TaskK) : St := { slots := [(0, .ptr 0 0 0), (4, .own 1)], heap := [(0, .box [.r [] (.int .i64 p.2.1), .r [] (.int .i64 p.2.2.1), .r [] (.int .i64 p.2.2.2.1), .own 2, .r [] (.int .i64 p.2.2.2.2.1), .r [] (.int .i64 p.2.2.2.2.2.1), .r [] (.int .i64 p.2.2.2.2.2.2.1), .r [] (.int .i64 p.2.2.2.2.2.2.2.1)]), (1, .arr none (.st .taskK) x), (2, .arr none (.st .taskK) p.2.2.2.2.2.2.2.2)], nid := 3, n := 40, gh := [some 0, some 2] }
def yd8 (ρ : Type) (k : Nat) : Nat → Ev ρ → Ev ρ := fun id f => cond (Nat.beq id 0) (loopOrc yd0 yd1 (fun n nf => cond (Nat.beq n 40) (yd5 nf) none) fun pv K => iter (fun v next => S_l07Off_m3_g0 k pv.1 v next (fun x => K (.exit 0) (yd7 pv.1 x))) k pv.2) ((fun _ _ _ _ => none) id f)
theorem yd9 {ρ : Type} (k : Nat) (p : Int × Int × Int × Int × Int × Int × Int × Int × List TaskK) (v : Int × List TaskK) (K K1 : Ex → St → Option ρ) : ev (ycw k) (yd8 ρ k) 0 ycz (yd4 (p, v)) (fun e st' => match e with
    | .normal => (normC yd0 yd1 st').bind fun nf => K1 .normal (denorm yd0 st'.n nf)
    | e => (normC (yd2 e) (yd3 e) st').bind fun nf => K e (denorm (yd2 e) st'.n nf)) = S_l07Off_m3_g0 k p v (fun v' => K1 .normal (yd4 (p, v'))) (fun x => K (.exit 0) (yd7 p x)) := by kernel_rfl
theorem yda {ρ : Type} (k : Nat) : Sound Try.prog (.loop ycz) (yd8 ρ k 0 fun st K => ev (ycw k) (yd8 ρ k) 0 ycz st K) :=
  loop_ok (ev_sound (ycx k) ycz 0 (lpgood_none (by kernel_rfl))) yd2 yd3 k (g := fun p v next K => S_l07Off_m3_g0 k p v next (fun x => K (.exit 0) (yd7 p x))) (dec_at yd6) (fun p v K K1 => yd9 k p v K K1)
def ydb (a : Int × Int × Int × List TaskK × Int × Int × Int × Int × Int) : List SV := [.ptr 0 0 0, .r [] (.int .i64 a.2.2.2.2.2.2.2.2)]
def ydc (a : Int × Int × Int × List TaskK × Int × Int × Int × Int × Int) : List Blk := [.box [.r [] (.int .i64 a.1), .r [] (.int .i64 a.2.1), .r [] (.int .i64 a.2.2.1), .own 1, .r [] (.int .i64 a.2.2.2.2.1), .r [] (.int .i64 a.2.2.2.2.2.1), .r [] (.int .i64 a.2.2.2.2.2.2.1), .r [] (.int .i64 a.2.2.2.2.2.2.2.1)], .arr none (.st .taskK) a.2.2.2.1]
def ydd (l : List SV) (b : List Blk) : Option (Int × Int × Int × List TaskK × Int × Int × Int × Int × Int) := match l, b with
  | [.ptr 0 0 0, .r [] (.int .i64 w0)], [.box [.r [] (.int .i64 w1), .r [] (.int .i64 w2), .r [] (.int .i64 w3), .own 1, .r [] (.int .i64 w4), .r [] (.int .i64 w5), .r [] (.int .i64 w6), .r [] (.int .i64 w7)], .arr none (.st .taskK) w8] => some (w1, w2, w3, w8, w4, w5, w6, w7, w0)
  | _, _ => none
def yde (a : Int × Int × Int × List TaskK × Int × Int × Int × Int × Int) (r : List TaskK) : MOut := ⟨.tup [], [some (.box [.r [] (.int .i64 a.1), .r [] (.int .i64 a.2.1), .r [] (.int .i64 a.2.2.1), .own 2, .r [] (.int .i64 a.2.2.2.2.1), .r [] (.int .i64 a.2.2.2.2.2.1), .r [] (.int .i64 a.2.2.2.2.2.2.1), .r [] (.int .i64 a.2.2.2.2.2.2.2.1)]), none], [.arr none (.st .taskK) r]⟩
def ydf (a : Int × Int × Int × List TaskK × Int × Int × Int × Int × Int) (o : MOut) : Option (List TaskK) := match o with
  | ⟨.tup [], [some (.box [.r [] (.int .i64 z1), .r [] (.int .i64 z2), .r [] (.int .i64 z3), .own 2, .r [] (.int .i64 z4), .r [] (.int .i64 z5), .r [] (.int .i64 z6), .r [] (.int .i64 z7)]), none], [.arr none (.st .taskK) z8]⟩ => cond (@sameL Int _ z1 a.1) (cond (@sameL Int _ z2 a.2.1) (cond (@sameL Int _ z3 a.2.2.1) (cond (@sameL Int _ z4 a.2.2.2.2.1) (cond (@sameL Int _ z5 a.2.2.2.2.2.1) (cond (@sameL Int _ z6 a.2.2.2.2.2.2.1) (cond (@sameL Int _ z7 a.2.2.2.2.2.2.2.1) (some z8) none) none) none) none) none) none) none
  | _ => none
def ydg (k : Nat) : MG := fun _ l b K => (ydd l b).bind fun a => (S_l07Off_m3 k a.1 a.2.1 a.2.2.1 a.2.2.2.1 a.2.2.2.2.1 a.2.2.2.2.2.1 a.2.2.2.2.2.2.1 a.2.2.2.2.2.2.2.1 a.2.2.2.2.2.2.2.2).bind fun r => K (yde a r)
theorem ydh (k : Nat) (a : Int × Int × Int × List TaskK × Int × Int × Int × Int × Int) : ev (ycw k) (yd8 (List TaskK) k) 0 ycy (st0M Try.f194 (ydb a) (ydc a)) (finM Try.prog Try.f194 (.tup []) [.box [.sc, .sc, .sc, .own (.st .taskK), .sc, .sc, .sc, .sc], .gone] (ydf a)) = S_l07Off_m3 k a.1 a.2.1 a.2.2.1 a.2.2.2.1 a.2.2.2.2.1 a.2.2.2.2.2.1 a.2.2.2.2.2.2.1 a.2.2.2.2.2.2.2.1 a.2.2.2.2.2.2.2.2 := by kernel_rfl
theorem ydi (k : Nat) : MutOk Try.prog 194 (ydg k) :=
  mutOk_of_ev (ycx k) Try.func194 (by kernel_rfl) (by kernel_rfl) ydb ydc ydd
    (fun l b a h => by unfold ydd at h; split at h <;> first | (cases h; exact ⟨rfl, rfl⟩) | cases h) (fun a => rfl) (lpgood_of (l := [(0, ycz)]) (by kernel_rfl) ⟨yda k, trivial⟩) (fun a r => rfl)
    (fun a o r h => by unfold ydf at h; split at h <;> first | (obtain ⟨e0, e1, e2, e3, e4, e5, e6, hq⟩ := dec_chk7 h; clear h; subst e0; subst e1; subst e2; subst e3; subst e4; subst e5; subst e6; have h := hq; clear hq; cases h; rfl) | cases h) (ydh k)
noncomputable def ydj (k : Nat) : Env := { P := Try.prog, tt := tt, orc := fun g => cond (Nat.beq g 41) (y7m k) (cond (Nat.beq g 112) (y9f k) (cond (Nat.beq g 137) (y6v k) (cond (Nat.beq g 194) (mutOrc [.keep, .one (.int .i64)] (numG .task .taskK 1 (ydg k))) (noOrc)))), wr := fun g => mem g [194], wt := true }
theorem ydk (k : Nat) : EnvOk (ydj k) := fun g => (orc_cond (y7n k) (orc_cond (y9g k) (orc_cond (y6w k) (orc_cond (mutOrc_ok (numOk (s := .task) (s' := .taskK) rfl rfl rfl 1 (fun _ _ _ _ => by simp only [ydg, Option.bind_assoc, Option.bind_some]) (fun T => @ydi T k))) (noOrc_ok _ _)))))
noncomputable def ydl : Code := (Try.f128.body).getD .skip
def ydm (ρ : Type) (k : Nat) : Nat → Ev ρ → Ev ρ := fun _ _ _ _ => none
def ydn (a : Sched × Int) : List Arg := [.agg [.int .i64 a.1.now, .int .i64 a.1.slack, .int .i64 a.1.age, .sl (.st .task) a.1.tasks, .int .i64 a.1.run, .int .i64 a.1.left, .int .i64 a.1.turns, .int .i64 a.1.next], .one (.int .i64 a.2)]
def ydo (l : List Arg) : Option (Sched × Int) := match l with
  | [.agg [.int .i64 b0_0, .int .i64 b0_1, .int .i64 b0_2, .sl (.st .task) b0_3, .int .i64 b0_4, .int .i64 b0_5, .int .i64 b0_6, .int .i64 b0_7], .one (.int .i64 b1)] => some ((⟨b0_0, b0_1, b0_2, b0_3, b0_4, b0_5, b0_6, b0_7⟩ : Sched), b1)
  | _ => none
def ydp (r : Sched × Bool) : Out := (.tup [.agg [.r [] (.int .i64 r.1.now), .r [] (.int .i64 r.1.slack), .r [] (.int .i64 r.1.age), .own 0, .r [] (.int .i64 r.1.run), .r [] (.int .i64 r.1.left), .r [] (.int .i64 r.1.turns), .r [] (.int .i64 r.1.next)], .r [] (.bool r.2)], [.arr none (.st .task) r.1.tasks])
def ydq (o : Out) : Option (Sched × Bool) := match o with
  | (.tup [.agg [.r [] (.int .i64 z1), .r [] (.int .i64 z2), .r [] (.int .i64 z3), .own 0, .r [] (.int .i64 z5), .r [] (.int .i64 z6), .r [] (.int .i64 z7), .r [] (.int .i64 z8)], .r [] (.bool z9)], [.arr none (.st .task) z4]) => some ((⟨z1, z2, z3, z4, z5, z6, z7, z8⟩ : Sched), z9)
  | _ => none
def ydr (k : Nat) : PG := fun _ l K => (ydo l).bind fun a => (S_CancelTask k a.1 a.2).bind fun r => K (ydp r)
theorem yds (k : Nat) (a : Sched × Int) : ev (ydj k) (ydm (Sched × Bool) k) 0 ydl (st0 Try.f128 (ydn a)) (fin Try.prog Try.f128 (.tup [.agg [.sc, .sc, .sc, .own (.st .task), .sc, .sc, .sc, .sc], .sc]) ydq) = S_CancelTask k a.1 a.2 := by kernel_rfl
theorem ydt (k : Nat) : PureOk Try.prog 128 (ydr k) :=
  pureOk_of_ev (ydk k) Try.func128 (by kernel_rfl) (by kernel_rfl) ydn ydo
    (fun l a h => by unfold ydo at h; split at h <;> first | (cases h; rfl) | cases h) (fun a => rfl) (lpgood_none (by kernel_rfl))
    (fun o r h => by unfold ydq at h; split at h <;> first | (cases h; rfl) | cases h) (yds k)
def ydu (k : Nat) : Orc := pureOrc [.agg [(.int .i64), (.int .i64), (.int .i64), (.sl (.st .task)), (.int .i64), (.int .i64), (.int .i64), (.int .i64)], .one (.int .i64)] (ydr k)
theorem ydv (k : Nat) : OrcOk Try.prog 128 (ydu k) := pureOrc_ok (ydt k)
noncomputable def ydw (k : Nat) : Env := { P := Try.prog, tt := tt, orc := fun g => cond (Nat.beq g 41) (y7m k) (noOrc) }
theorem ydx (k : Nat) : EnvOk (ydw k) := fun g => (orc_cond (y7n k) (noOrc_ok _ _))
noncomputable def ydy : Code := (Try.f195.body).getD .skip
noncomputable def ydz : Code := ((loopsIn 0 ydy).getD 0 (0, .skip)).2
def ye0 : List Nat := [1, 3, 4, 5]
def ye1 : List (Where × Co) := []
def ye2 : Ex → List Nat
  | .exit j => cond (Nat.beq j 0) [1, 3, 4] []
  | .ret => []
  | .normal => []
def ye3 : Ex → List (Where × Co)
  | .exit j => cond (Nat.beq j 0) [] []
  | .ret => []
  | .normal => []
def ye4 (pv : (Int × Int × Int × List Task × Int × Int × Int × Int) × (Int × Int × Int)) : St := { slots := [(1, .ptr 0 0 0), (3, .r [] (.int .i64 pv.2.1)), (4, .r [] (.int .i64 pv.2.2.1)), (5, .r [] (.int .i64 pv.2.2.2))], heap := [(0, .box [.r [] (.int .i64 pv.1.1), .r [] (.int .i64 pv.1.2.1), .r [] (.int .i64 pv.1.2.2.1), .r [] (.sl (.st .task) pv.1.2.2.2.1), .r [] (.int .i64 pv.1.2.2.2.2.1), .r [] (.int .i64 pv.1.2.2.2.2.2.1), .r [] (.int .i64 pv.1.2.2.2.2.2.2.1), .r [] (.int .i64 pv.1.2.2.2.2.2.2.2)])], nid := 1, n := 88, gh := [] }
def ye5 (nf : NF) : Option ((Int × Int × Int × List Task × Int × Int × Int × Int) × (Int × Int × Int)) := match nf with
  | ([.ptr 0 0 0, .r [] (.int .i64 w0), .r [] (.int .i64 w1), .r [] (.int .i64 w2)], [.box [.r [] (.int .i64 w3), .r [] (.int .i64 w4), .r [] (.int .i64 w5), .r [] (.sl (.st .task) w6), .r [] (.int .i64 w7), .r [] (.int .i64 w8), .r [] (.int .i64 w9), .r [] (.int .i64 w10)]], []) => some ((w3, w4, w5, w6, w7, w8, w9, w10), (w0, w1, w2))
  | _ => none
theorem ye6 (nf : NF) (v : (Int × Int × Int × List Task × Int × Int × Int × Int) × (Int × Int × Int)) (h : ye5 nf = some v) : denorm ye0 88 nf = ye4 v := by
  unfold ye5 at h
  split at h
  · cases h; rfl
  · cases h
def ye7 (p : Int × Int × Int × List Task × Int × Int × Int × Int) (x : Int × Int) : St := { slots := [(1, .ptr 0 0 0), (3, .r [] (.int .i64 x.1)), (4, .r [] (.int .i64 x.2))], heap := [(0, .box [.r [] (.int .i64 p.1), .r [] (.int .i64 p.2.1), .r [] (.int .i64 p.2.2.1), .r [] (.sl (.st .task) p.2.2.2.1), .r [] (.int .i64 p.2.2.2.2.1), .r [] (.int .i64 p.2.2.2.2.2.1), .r [] (.int .i64 p.2.2.2.2.2.2.1), .r [] (.int .i64 p.2.2.2.2.2.2.2)])], nid := 1, n := 88, gh := [] }
def ye8 (ρ : Type) (k : Nat) : Nat → Ev ρ → Ev ρ := fun id f => cond (Nat.beq id 0) (loopOrc ye0 ye1 (fun n nf => cond (Nat.beq n 88) (ye5 nf) none) fun pv K => iter (fun v next => S_PickNext_g0 k pv.1 v next (fun x => K (.exit 0) (ye7 pv.1 x))) k pv.2) ((fun _ _ _ _ => none) id f)
theorem ye9 {ρ : Type} (k : Nat) (p : Int × Int × Int × List Task × Int × Int × Int × Int) (v : Int × Int × Int) (K K1 : Ex → St → Option ρ) : ev (ydw k) (ye8 ρ k) 0 ydz (ye4 (p, v)) (fun e st' => match e with
    | .normal => (normC ye0 ye1 st').bind fun nf => K1 .normal (denorm ye0 st'.n nf)
    | e => (normC (ye2 e) (ye3 e) st').bind fun nf => K e (denorm (ye2 e) st'.n nf)) = S_PickNext_g0 k p v (fun v' => K1 .normal (ye4 (p, v'))) (fun x => K (.exit 0) (ye7 p x)) := by kernel_rfl
theorem yea {ρ : Type} (k : Nat) : Sound Try.prog (.loop ydz) (ye8 ρ k 0 fun st K => ev (ydw k) (ye8 ρ k) 0 ydz st K) :=
  loop_ok (ev_sound (ydx k) ydz 0 (lpgood_none (by kernel_rfl))) ye2 ye3 k (g := fun p v next K => S_PickNext_g0 k p v next (fun x => K (.exit 0) (ye7 p x))) (dec_at ye6) (fun p v K K1 => ye9 k p v K K1)
def yeb (a : Sched) : List Arg := [.agg [.int .i64 a.now, .int .i64 a.slack, .int .i64 a.age, .sl (.st .task) a.tasks, .int .i64 a.run, .int .i64 a.left, .int .i64 a.turns, .int .i64 a.next]]
def yec (l : List Arg) : Option (Sched) := match l with
  | [.agg [.int .i64 b0_0, .int .i64 b0_1, .int .i64 b0_2, .sl (.st .task) b0_3, .int .i64 b0_4, .int .i64 b0_5, .int .i64 b0_6, .int .i64 b0_7]] => some (⟨b0_0, b0_1, b0_2, b0_3, b0_4, b0_5, b0_6, b0_7⟩ : Sched)
  | _ => none
def yed (r : Int) : Out := (.r [] (.int .i64 r), [])
def yee (o : Out) : Option (Int) := match o with
  | (.r [] (.int .i64 z1), []) => some z1
  | _ => none
def yef (k : Nat) : PG := fun _ l K => (yec l).bind fun a => (S_PickNext k a).bind fun r => K (yed r)
theorem yeg (k : Nat) (a : Sched) : ev (ydw k) (ye8 (Int) k) 0 ydy (st0 Try.f195 (yeb a)) (fin Try.prog Try.f195 (.sc) yee) = S_PickNext k a := by kernel_rfl
theorem yeh (k : Nat) : PureOk Try.prog 195 (yef k) :=
  pureOk_of_ev (ydx k) Try.func195 (by kernel_rfl) (by kernel_rfl) yeb yec
    (fun l a h => by unfold yec at h; split at h <;> first | (cases h; rfl) | cases h) (fun a => rfl) (lpgood_of (l := [(0, ydz)]) (by kernel_rfl) ⟨yea k, trivial⟩)
    (fun o r h => by unfold yee at h; split at h <;> first | (cases h; rfl) | cases h) (yeg k)
def yei (k : Nat) : Orc := pureOrc [.agg [(.int .i64), (.int .i64), (.int .i64), (.sl (.st .task)), (.int .i64), (.int .i64), (.int .i64), (.int .i64)]] (yef k)
theorem yej (k : Nat) : OrcOk Try.prog 195 (yei k) := pureOrc_ok (yeh k)
noncomputable def yek (k : Nat) : Env := { P := Try.prog, tt := tt, orc := fun g => cond (Nat.beq g 41) (y7m k) (cond (Nat.beq g 112) (y9f k) (cond (Nat.beq g 137) (y6v k) (cond (Nat.beq g 194) (mutOrc [.keep, .one (.int .i64)] (numG .task .taskK 1 (ydg k))) (cond (Nat.beq g 195) (yei k) (noOrc))))), wr := fun g => mem g [194], wt := true }
theorem yel (k : Nat) : EnvOk (yek k) := fun g => (orc_cond (y7n k) (orc_cond (y9g k) (orc_cond (y6w k) (orc_cond (mutOrc_ok (numOk (s := .task) (s' := .taskK) rfl rfl rfl 1 (fun _ _ _ _ => by simp only [ydg, Option.bind_assoc, Option.bind_some]) (fun T => @ydi T k))) (orc_cond (yej k) (noOrc_ok _ _))))))
noncomputable def yem : Code := (Try.f129.body).getD .skip
def yen (ρ : Type) (k : Nat) : Nat → Ev ρ → Ev ρ := fun _ _ _ _ => none
def yeo (a : Sched × Bool) : List Arg := [.agg [.int .i64 a.1.now, .int .i64 a.1.slack, .int .i64 a.1.age, .sl (.st .task) a.1.tasks, .int .i64 a.1.run, .int .i64 a.1.left, .int .i64 a.1.turns, .int .i64 a.1.next], .one (.bool a.2)]
def yep (l : List Arg) : Option (Sched × Bool) := match l with
  | [.agg [.int .i64 b0_0, .int .i64 b0_1, .int .i64 b0_2, .sl (.st .task) b0_3, .int .i64 b0_4, .int .i64 b0_5, .int .i64 b0_6, .int .i64 b0_7], .one (.bool b1)] => some ((⟨b0_0, b0_1, b0_2, b0_3, b0_4, b0_5, b0_6, b0_7⟩ : Sched), b1)
  | _ => none
def yeq (r : Sched × Int × Bool) : Out := (.tup [.agg [.r [] (.int .i64 r.1.now), .r [] (.int .i64 r.1.slack), .r [] (.int .i64 r.1.age), .own 0, .r [] (.int .i64 r.1.run), .r [] (.int .i64 r.1.left), .r [] (.int .i64 r.1.turns), .r [] (.int .i64 r.1.next)], .r [] (.int .i64 r.2.1), .r [] (.bool r.2.2)], [.arr none (.st .task) r.1.tasks])
def yer (o : Out) : Option (Sched × Int × Bool) := match o with
  | (.tup [.agg [.r [] (.int .i64 z1), .r [] (.int .i64 z2), .r [] (.int .i64 z3), .own 0, .r [] (.int .i64 z5), .r [] (.int .i64 z6), .r [] (.int .i64 z7), .r [] (.int .i64 z8)], .r [] (.int .i64 z9), .r [] (.bool z10)], [.arr none (.st .task) z4]) => some ((⟨z1, z2, z3, z4, z5, z6, z7, z8⟩ : Sched), z9, z10)
  | _ => none
def yet (k : Nat) : PG := fun _ l K => (yep l).bind fun a => (S_TickSched k a.1 a.2).bind fun r => K (yeq r)
theorem yeu (k : Nat) (a : Sched × Bool) : ev (yek k) (yen (Sched × Int × Bool) k) 0 yem (st0 Try.f129 (yeo a)) (fin Try.prog Try.f129 (.tup [.agg [.sc, .sc, .sc, .own (.st .task), .sc, .sc, .sc, .sc], .sc, .sc]) yer) = S_TickSched k a.1 a.2 := by kernel_rfl
theorem yev (k : Nat) : PureOk Try.prog 129 (yet k) :=
  pureOk_of_ev (yel k) Try.func129 (by kernel_rfl) (by kernel_rfl) yeo yep
    (fun l a h => by unfold yep at h; split at h <;> first | (cases h; rfl) | cases h) (fun a => rfl) (lpgood_none (by kernel_rfl))
    (fun o r h => by unfold yer at h; split at h <;> first | (cases h; rfl) | cases h) (yeu k)
def yew (k : Nat) : Orc := pureOrc [.agg [(.int .i64), (.int .i64), (.int .i64), (.sl (.st .task)), (.int .i64), (.int .i64), (.int .i64), (.int .i64)], .one .bool] (yet k)
theorem yex (k : Nat) : OrcOk Try.prog 129 (yew k) := pureOrc_ok (yev k)
noncomputable def yey (k : Nat) : Env := { P := Try.prog, tt := tt, orc := fun g => cond (Nat.beq g 31) (ycu k) (cond (Nat.beq g 127) (y7z k) (cond (Nat.beq g 128) (ydu k) (cond (Nat.beq g 129) (yew k) (noOrc)))) }
theorem yez (k : Nat) : EnvOk (yey k) := fun g => (orc_cond (ycv k) (orc_cond (y80 k) (orc_cond (ydv k) (orc_cond (yex k) (noOrc_ok _ _)))))
noncomputable def yf0 : Code := (Try.f37.body).getD .skip
noncomputable def yf1 : Code := ((loopsIn 0 yf0).getD 0 (0, .skip)).2
def yf2 : List Nat := [2, 6, 8, 10, 11]
def yf3 : List (Where × Co) := []
def yf4 : Ex → List Nat
  | .exit j => cond (Nat.beq j 0) [6, 8, 10] []
  | .ret => []
  | .normal => []
def yf5 : Ex → List (Where × Co)
  | .exit j => cond (Nat.beq j 0) [] []
  | .ret => []
  | .normal => []
def yf6 (pv : (List (List Int) × Int × Int × Int × Int × Int × Int × Int) × (Int × Int × Int × Int × Int × Int × Int × Int × List Int × List Task)) : St := { slots := [(2, .r [] (.sl (.sl (.int .i64)) pv.1.1)), (6, .ptr 0 0 0), (8, .ptr 1 0 0), (10, .own 2), (11, .r [] (.int .i64 pv.2.1))], heap := [(0, .box [.r [] (.int .i64 pv.1.2.1), .r [] (.int .i64 pv.1.2.2.1), .r [] (.int .i64 pv.1.2.2.2.1), .nilS, .r [] (.int .i64 pv.1.2.2.2.2.1), .r [] (.int .i64 pv.1.2.2.2.2.2.1), .r [] (.int .i64 pv.1.2.2.2.2.2.2.1), .r [] (.int .i64 pv.1.2.2.2.2.2.2.2)]), (1, .box [.r [] (.int .i64 pv.2.2.1), .r [] (.int .i64 pv.2.2.2.1), .r [] (.int .i64 pv.2.2.2.2.1), .own 3, .r [] (.int .i64 pv.2.2.2.2.2.1), .r [] (.int .i64 pv.2.2.2.2.2.2.1), .r [] (.int .i64 pv.2.2.2.2.2.2.2.1), .r [] (.int .i64 pv.2.2.2.2.2.2.2.2.1)]), (2, .arr none (.int .i64) pv.2.2.2.2.2.2.2.2.2.1), (3, .arr none (.st .task) pv.2.2.2.2.2.2.2.2.2.2)], nid := 4, n := 107, gh := [] }
def yf7 (nf : NF) : Option ((List (List Int) × Int × Int × Int × Int × Int × Int × Int) × (Int × Int × Int × Int × Int × Int × Int × Int × List Int × List Task)) := match nf with
  | ([.r [] (.sl (.sl (.int .i64)) w0), .ptr 0 0 0, .ptr 1 0 0, .own 2, .r [] (.int .i64 w1)], [.box [.r [] (.int .i64 w2), .r [] (.int .i64 w3), .r [] (.int .i64 w4), .nilS, .r [] (.int .i64 w5), .r [] (.int .i64 w6), .r [] (.int .i64 w7), .r [] (.int .i64 w8)], .box [.r [] (.int .i64 w9), .r [] (.int .i64 w10), .r [] (.int .i64 w11), .own 3, .r [] (.int .i64 w12), .r [] (.int .i64 w13), .r [] (.int .i64 w14), .r [] (.int .i64 w15)], .arr none (.int .i64) w16, .arr none (.st .task) w17], []) => some ((w0, w2, w3, w4, w5, w6, w7, w8), (w1, w9, w10, w11, w12, w13, w14, w15, w16, w17))
  | _ => none
theorem yf8 (nf : NF) (v : (List (List Int) × Int × Int × Int × Int × Int × Int × Int) × (Int × Int × Int × Int × Int × Int × Int × Int × List Int × List Task)) (h : yf7 nf = some v) : denorm yf2 107 nf = yf6 v := by
  unfold yf7 at h
  split at h
  · cases h; rfl
  · cases h
def yf9 (p : List (List Int) × Int × Int × Int × Int × Int × Int × Int) (x : Int × Int × Int × Int × Int × Int × Int × List Int × List Task) : St := { slots := [(6, .ptr 0 0 0), (8, .ptr 1 0 0), (10, .own 2)], heap := [(0, .box [.r [] (.int .i64 p.2.1), .r [] (.int .i64 p.2.2.1), .r [] (.int .i64 p.2.2.2.1), .nilS, .r [] (.int .i64 p.2.2.2.2.1), .r [] (.int .i64 p.2.2.2.2.2.1), .r [] (.int .i64 p.2.2.2.2.2.2.1), .r [] (.int .i64 p.2.2.2.2.2.2.2)]), (1, .box [.r [] (.int .i64 x.1), .r [] (.int .i64 x.2.1), .r [] (.int .i64 x.2.2.1), .own 3, .r [] (.int .i64 x.2.2.2.1), .r [] (.int .i64 x.2.2.2.2.1), .r [] (.int .i64 x.2.2.2.2.2.1), .r [] (.int .i64 x.2.2.2.2.2.2.1)]), (2, .arr none (.int .i64) x.2.2.2.2.2.2.2.1), (3, .arr none (.st .task) x.2.2.2.2.2.2.2.2)], nid := 4, n := 107, gh := [] }
def yfa (ρ : Type) (k : Nat) : Nat → Ev ρ → Ev ρ := fun id f => cond (Nat.beq id 0) (loopOrc yf2 yf3 (fun n nf => cond (Nat.beq n 107) (yf7 nf) none) fun pv K => iter (fun v next => S_PlaySched_g0 k pv.1 v next (fun x => K (.exit 0) (yf9 pv.1 x))) k pv.2) ((fun _ _ _ _ => none) id f)
theorem yfb {ρ : Type} (k : Nat) (p : List (List Int) × Int × Int × Int × Int × Int × Int × Int) (v : Int × Int × Int × Int × Int × Int × Int × Int × List Int × List Task) (K K1 : Ex → St → Option ρ) : ev (yey k) (yfa ρ k) 0 yf1 (yf6 (p, v)) (fun e st' => match e with
    | .normal => (normC yf2 yf3 st').bind fun nf => K1 .normal (denorm yf2 st'.n nf)
    | e => (normC (yf4 e) (yf5 e) st').bind fun nf => K e (denorm (yf4 e) st'.n nf)) = S_PlaySched_g0 k p v (fun v' => K1 .normal (yf6 (p, v'))) (fun x => K (.exit 0) (yf9 p x)) := by kernel_rfl
theorem yfc {ρ : Type} (k : Nat) : Sound Try.prog (.loop yf1) (yfa ρ k 0 fun st K => ev (yey k) (yfa ρ k) 0 yf1 st K) :=
  loop_ok (ev_sound (yez k) yf1 0 (lpgood_none (by kernel_rfl))) yf4 yf5 k (g := fun p v next K => S_PlaySched_g0 k p v next (fun x => K (.exit 0) (yf9 p x))) (dec_at yf8) (fun p v K K1 => yfb k p v K K1)
def yfd (a : Int × Int × List (List Int)) : List Arg := [.one (.int .i64 a.1), .one (.int .i64 a.2.1), .one (.sl (.sl (.int .i64)) a.2.2)]
def yfe (l : List Arg) : Option (Int × Int × List (List Int)) := match l with
  | [.one (.int .i64 b0), .one (.int .i64 b1), .one (.sl (.sl (.int .i64)) b2)] => some (b0, b1, b2)
  | _ => none
def yff (r : Sched × List Int) : Out := (.tup [.agg [.r [] (.int .i64 r.1.now), .r [] (.int .i64 r.1.slack), .r [] (.int .i64 r.1.age), .own 0, .r [] (.int .i64 r.1.run), .r [] (.int .i64 r.1.left), .r [] (.int .i64 r.1.turns), .r [] (.int .i64 r.1.next)], .own 1], [.arr none (.st .task) r.1.tasks, .arr none (.int .i64) r.2])
def yfg (o : Out) : Option (Sched × List Int) := match o with
  | (.tup [.agg [.r [] (.int .i64 z1), .r [] (.int .i64 z2), .r [] (.int .i64 z3), .own 0, .r [] (.int .i64 z5), .r [] (.int .i64 z6), .r [] (.int .i64 z7), .r [] (.int .i64 z8)], .own 1], [.arr none (.st .task) z4, .arr none (.int .i64) z9]) => some ((⟨z1, z2, z3, z4, z5, z6, z7, z8⟩ : Sched), z9)
  | _ => none
def yfh (k : Nat) : PG := fun _ l K => (yfe l).bind fun a => (S_PlaySched k a.1 a.2.1 a.2.2).bind fun r => K (yff r)
theorem yfi (k : Nat) (a : Int × Int × List (List Int)) : ev (yey k) (yfa (Sched × List Int) k) 0 yf0 (st0 Try.f37 (yfd a)) (fin Try.prog Try.f37 (.tup [.agg [.sc, .sc, .sc, .own (.st .task), .sc, .sc, .sc, .sc], .own (.int .i64)]) yfg) = S_PlaySched k a.1 a.2.1 a.2.2 := by kernel_rfl
theorem yfj (k : Nat) : PureOk Try.prog 37 (yfh k) :=
  pureOk_of_ev (yez k) Try.func37 (by kernel_rfl) (by kernel_rfl) yfd yfe
    (fun l a h => by unfold yfe at h; split at h <;> first | (cases h; rfl) | cases h) (fun a => rfl) (lpgood_of (l := [(0, yf1)]) (by kernel_rfl) ⟨yfc k, trivial⟩)
    (fun o r h => by unfold yfg at h; split at h <;> first | (cases h; rfl) | cases h) (yfi k)
def yfk (k : Nat) : Orc := pureOrc [.one (.int .i64), .one (.int .i64), .one (.sl (.sl (.int .i64)))] (yfh k)
theorem yfl (k : Nat) : OrcOk Try.prog 37 (yfk k) := pureOrc_ok (yfj k)
noncomputable def yfm (k : Nat) : Env := { P := Try.prog, tt := tt, orc := fun g => cond (Nat.beq g 31) (ycu k) (cond (Nat.beq g 37) (yfk k) (cond (Nat.beq g 109) (y2o k) (cond (Nat.beq g 110) (y3k k) (cond (Nat.beq g 111) (y34 k) (cond (Nat.beq g 126) (y4o k) (cond (Nat.beq g 129) (yew k) (noOrc))))))), wr := fun g => mem g [109, 110, 111, 126], wt := true }
theorem yfn (k : Nat) : EnvOk (yfm k) := fun g => (orc_cond (ycv k) (orc_cond (yfl k) (orc_cond (y2p k) (orc_cond (y3l k) (orc_cond (y35 k) (orc_cond (y4p k) (orc_cond (yex k) (noOrc_ok _ _))))))))
noncomputable def yfo : Code := (Try.f189.body).getD .skip
noncomputable def yfp : Code := ((loopsIn 0 yfo).getD 0 (0, .skip)).2
noncomputable def yfq : Code := ((loopsIn 0 yfo).getD 1 (0, .skip)).2
def yfr : List Nat := [0, 4, 5, 7]
def yfs : List (Where × Co) := []
def yft : Ex → List Nat
  | .exit j => cond (Nat.beq j 0) [0, 4, 5] []
  | .ret => []
  | .normal => []
def yfu : Ex → List (Where × Co)
  | .exit j => cond (Nat.beq j 0) [] []
  | .ret => []
  | .normal => []
def yfv (pv : (List Int × Int × Int × Int × Int × Int × Int × Int × Int × Int) × (Int × Int × Int × Int × Int × Int × Int × Int × List Task)) : St := { slots := [(0, .ptr 0 0 0), (4, .ptr 1 0 0), (5, .ptr 2 0 0), (7, .r [] (.int .i64 pv.2.1))], heap := [(0, .box [.r [] (.sl (.int .u8) pv.1.1), .r [] (.int .i64 pv.1.2.1), .r [] (.int .i64 pv.1.2.2.1)]), (1, .box [.r [] (.int .i64 pv.1.2.2.2.1), .r [] (.int .i64 pv.1.2.2.2.2.1), .r [] (.int .i64 pv.1.2.2.2.2.2.1), .nilS, .r [] (.int .i64 pv.1.2.2.2.2.2.2.1), .r [] (.int .i64 pv.1.2.2.2.2.2.2.2.1), .r [] (.int .i64 pv.1.2.2.2.2.2.2.2.2.1), .r [] (.int .i64 pv.1.2.2.2.2.2.2.2.2.2)]), (2, .box [.r [] (.int .i64 pv.2.2.1), .r [] (.int .i64 pv.2.2.2.1), .r [] (.int .i64 pv.2.2.2.2.1), .own 3, .r [] (.int .i64 pv.2.2.2.2.2.1), .r [] (.int .i64 pv.2.2.2.2.2.2.1), .r [] (.int .i64 pv.2.2.2.2.2.2.2.1), .r [] (.int .i64 pv.2.2.2.2.2.2.2.2.1)]), (3, .arr none (.st .task) pv.2.2.2.2.2.2.2.2.2)], nid := 4, n := 103, gh := [some 0] }
def yfw (nf : NF) : Option ((List Int × Int × Int × Int × Int × Int × Int × Int × Int × Int) × (Int × Int × Int × Int × Int × Int × Int × Int × List Task)) := match nf with
  | ([.ptr 0 0 0, .ptr 1 0 0, .ptr 2 0 0, .r [] (.int .i64 w0)], [.box [.r [] (.sl (.int .u8) w1), .r [] (.int .i64 w2), .r [] (.int .i64 w3)], .box [.r [] (.int .i64 w4), .r [] (.int .i64 w5), .r [] (.int .i64 w6), .nilS, .r [] (.int .i64 w7), .r [] (.int .i64 w8), .r [] (.int .i64 w9), .r [] (.int .i64 w10)], .box [.r [] (.int .i64 w11), .r [] (.int .i64 w12), .r [] (.int .i64 w13), .own 3, .r [] (.int .i64 w14), .r [] (.int .i64 w15), .r [] (.int .i64 w16), .r [] (.int .i64 w17)], .arr none (.st .task) w18], [some 0]) => some ((w1, w2, w3, w4, w5, w6, w7, w8, w9, w10), (w0, w11, w12, w13, w14, w15, w16, w17, w18))
  | _ => none
theorem yfx (nf : NF) (v : (List Int × Int × Int × Int × Int × Int × Int × Int × Int × Int) × (Int × Int × Int × Int × Int × Int × Int × Int × List Task)) (h : yfw nf = some v) : denorm yfr 103 nf = yfv v := by
  unfold yfw at h
  split at h
  · cases h; rfl
  · cases h
def yfy (p : List Int × Int × Int × Int × Int × Int × Int × Int × Int × Int) (x : Int × Int × Int × Int × Int × Int × Int × List Task) : St := { slots := [(0, .ptr 0 0 0), (4, .ptr 1 0 0), (5, .ptr 2 0 0)], heap := [(0, .box [.r [] (.sl (.int .u8) p.1), .r [] (.int .i64 p.2.1), .r [] (.int .i64 p.2.2.1)]), (1, .box [.r [] (.int .i64 p.2.2.2.1), .r [] (.int .i64 p.2.2.2.2.1), .r [] (.int .i64 p.2.2.2.2.2.1), .nilS, .r [] (.int .i64 p.2.2.2.2.2.2.1), .r [] (.int .i64 p.2.2.2.2.2.2.2.1), .r [] (.int .i64 p.2.2.2.2.2.2.2.2.1), .r [] (.int .i64 p.2.2.2.2.2.2.2.2.2)]), (2, .box [.r [] (.int .i64 x.1), .r [] (.int .i64 x.2.1), .r [] (.int .i64 x.2.2.1), .own 3, .r [] (.int .i64 x.2.2.2.1), .r [] (.int .i64 x.2.2.2.2.1), .r [] (.int .i64 x.2.2.2.2.2.1), .r [] (.int .i64 x.2.2.2.2.2.2.1)]), (3, .arr none (.st .task) x.2.2.2.2.2.2.2)], nid := 4, n := 103, gh := [some 0] }
def yfz : List Nat := [4, 5, 8]
def yg0 : List (Where × Co) := []
def yg1 : Ex → List Nat
  | .exit j => cond (Nat.beq j 3) [4, 5] []
  | .ret => []
  | .normal => []
def yg2 : Ex → List (Where × Co)
  | .exit j => cond (Nat.beq j 3) [] []
  | .ret => []
  | .normal => []
def yg3 (pv : (Int × Int × Int × Int × Int × Int × Int × List Int × Int × Int) × (Int × Int × Int × Int × Int × Int × Int × Int × List Task)) : St := { slots := [(4, .ptr 0 0 0), (5, .ptr 1 0 0), (8, .r [] (.int .i64 pv.2.1))], heap := [(0, .box [.r [] (.int .i64 pv.1.1), .r [] (.int .i64 pv.1.2.1), .r [] (.int .i64 pv.1.2.2.1), .nilS, .r [] (.int .i64 pv.1.2.2.2.1), .r [] (.int .i64 pv.1.2.2.2.2.1), .r [] (.int .i64 pv.1.2.2.2.2.2.1), .r [] (.int .i64 pv.1.2.2.2.2.2.2.1)]), (1, .box [.r [] (.int .i64 pv.2.2.1), .r [] (.int .i64 pv.2.2.2.1), .r [] (.int .i64 pv.2.2.2.2.1), .own 3, .r [] (.int .i64 pv.2.2.2.2.2.1), .r [] (.int .i64 pv.2.2.2.2.2.2.1), .r [] (.int .i64 pv.2.2.2.2.2.2.2.1), .r [] (.int .i64 pv.2.2.2.2.2.2.2.2.1)]), (2, .box [.r [] (.sl (.int .u8) pv.1.2.2.2.2.2.2.2.1), .r [] (.int .i64 pv.1.2.2.2.2.2.2.2.2.1), .r [] (.int .i64 pv.1.2.2.2.2.2.2.2.2.2)]), (3, .arr none (.st .task) pv.2.2.2.2.2.2.2.2.2)], nid := 4, n := 103, gh := [some 2] }
def yg4 (nf : NF) : Option ((Int × Int × Int × Int × Int × Int × Int × List Int × Int × Int) × (Int × Int × Int × Int × Int × Int × Int × Int × List Task)) := match nf with
  | ([.ptr 0 0 0, .ptr 1 0 0, .r [] (.int .i64 w0)], [.box [.r [] (.int .i64 w1), .r [] (.int .i64 w2), .r [] (.int .i64 w3), .nilS, .r [] (.int .i64 w4), .r [] (.int .i64 w5), .r [] (.int .i64 w6), .r [] (.int .i64 w7)], .box [.r [] (.int .i64 w8), .r [] (.int .i64 w9), .r [] (.int .i64 w10), .own 3, .r [] (.int .i64 w11), .r [] (.int .i64 w12), .r [] (.int .i64 w13), .r [] (.int .i64 w14)], .box [.r [] (.sl (.int .u8) w15), .r [] (.int .i64 w16), .r [] (.int .i64 w17)], .arr none (.st .task) w18], [some 2]) => some ((w1, w2, w3, w4, w5, w6, w7, w15, w16, w17), (w0, w8, w9, w10, w11, w12, w13, w14, w18))
  | _ => none
theorem yg5 (nf : NF) (v : (Int × Int × Int × Int × Int × Int × Int × List Int × Int × Int) × (Int × Int × Int × Int × Int × Int × Int × Int × List Task)) (h : yg4 nf = some v) : denorm yfz 103 nf = yg3 v := by
  unfold yg4 at h
  split at h
  · cases h; rfl
  · cases h
def yg6 (p : Int × Int × Int × Int × Int × Int × Int × List Int × Int × Int) (x : Int × Int × Int × Int × Int × Int × Int × List Task) : St := { slots := [(4, .ptr 0 0 0), (5, .ptr 1 0 0)], heap := [(0, .box [.r [] (.int .i64 p.1), .r [] (.int .i64 p.2.1), .r [] (.int .i64 p.2.2.1), .nilS, .r [] (.int .i64 p.2.2.2.1), .r [] (.int .i64 p.2.2.2.2.1), .r [] (.int .i64 p.2.2.2.2.2.1), .r [] (.int .i64 p.2.2.2.2.2.2.1)]), (1, .box [.r [] (.int .i64 x.1), .r [] (.int .i64 x.2.1), .r [] (.int .i64 x.2.2.1), .own 3, .r [] (.int .i64 x.2.2.2.1), .r [] (.int .i64 x.2.2.2.2.1), .r [] (.int .i64 x.2.2.2.2.2.1), .r [] (.int .i64 x.2.2.2.2.2.2.1)]), (2, .box [.r [] (.sl (.int .u8) p.2.2.2.2.2.2.2.1), .r [] (.int .i64 p.2.2.2.2.2.2.2.2.1), .r [] (.int .i64 p.2.2.2.2.2.2.2.2.2)]), (3, .arr none (.st .task) x.2.2.2.2.2.2.2)], nid := 4, n := 103, gh := [some 2] }
def yg7 (ρ : Type) (k : Nat) : Nat → Ev ρ → Ev ρ := fun id f => cond (Nat.beq id 3) (loopOrc yfz yg0 (fun n nf => cond (Nat.beq n 103) (yg4 nf) none) fun pv K => iter (fun v next => S_l07DrawSched_m_g1 k pv.1 v next (fun x => K (.exit 3) (yg6 pv.1 x))) k pv.2) ((fun id f => cond (Nat.beq id 0) (loopOrc yfr yfs (fun n nf => cond (Nat.beq n 103) (yfw nf) none) fun pv K => iter (fun v next => S_l07DrawSched_m_g0 k pv.1 v next (fun x => K (.exit 0) (yfy pv.1 x))) k pv.2) ((fun _ _ _ _ => none) id f)) id f)
theorem yg8 {ρ : Type} (k : Nat) (p : List Int × Int × Int × Int × Int × Int × Int × Int × Int × Int) (v : Int × Int × Int × Int × Int × Int × Int × Int × List Task) (K K1 : Ex → St → Option ρ) : ev (yfm k) (yg7 ρ k) 0 yfp (yfv (p, v)) (fun e st' => match e with
    | .normal => (normC yfr yfs st').bind fun nf => K1 .normal (denorm yfr st'.n nf)
    | e => (normC (yft e) (yfu e) st').bind fun nf => K e (denorm (yft e) st'.n nf)) = S_l07DrawSched_m_g0 k p v (fun v' => K1 .normal (yfv (p, v'))) (fun x => K (.exit 0) (yfy p x)) := by kernel_rfl
theorem yg9 {ρ : Type} (k : Nat) : Sound Try.prog (.loop yfp) (yg7 ρ k 0 fun st K => ev (yfm k) (yg7 ρ k) 0 yfp st K) :=
  loop_ok (ev_sound (yfn k) yfp 0 (lpgood_none (by kernel_rfl))) yft yfu k (g := fun p v next K => S_l07DrawSched_m_g0 k p v next (fun x => K (.exit 0) (yfy p x))) (dec_at yfx) (fun p v K K1 => yg8 k p v K K1)
theorem yga {ρ : Type} (k : Nat) (p : Int × Int × Int × Int × Int × Int × Int × List Int × Int × Int) (v : Int × Int × Int × Int × Int × Int × Int × Int × List Task) (K K1 : Ex → St → Option ρ) : ev (yfm k) (yg7 ρ k) 3 yfq (yg3 (p, v)) (fun e st' => match e with
    | .normal => (normC yfz yg0 st').bind fun nf => K1 .normal (denorm yfz st'.n nf)
    | e => (normC (yg1 e) (yg2 e) st').bind fun nf => K e (denorm (yg1 e) st'.n nf)) = S_l07DrawSched_m_g1 k p v (fun v' => K1 .normal (yg3 (p, v'))) (fun x => K (.exit 3) (yg6 p x)) := by kernel_rfl
theorem ygb {ρ : Type} (k : Nat) : Sound Try.prog (.loop yfq) (yg7 ρ k 3 fun st K => ev (yfm k) (yg7 ρ k) 3 yfq st K) :=
  loop_ok (ev_sound (yfn k) yfq 3 (lpgood_none (by kernel_rfl))) yg1 yg2 k (g := fun p v next K => S_l07DrawSched_m_g1 k p v next (fun x => K (.exit 3) (yg6 p x))) (dec_at yg5) (fun p v K K1 => yga k p v K K1)
def ygc (a : List Int × Int × Int × Int) : List SV := [.ptr 0 0 0, .r [] (.int .i64 a.2.2.2)]
def ygd (a : List Int × Int × Int × Int) : List Blk := [.box [.r [] (.sl (.int .u8) a.1), .r [] (.int .i64 a.2.1), .r [] (.int .i64 a.2.2.1)]]
def yge (l : List SV) (b : List Blk) : Option (List Int × Int × Int × Int) := match l, b with
  | [.ptr 0 0 0, .r [] (.int .i64 w0)], [.box [.r [] (.sl (.int .u8) w1), .r [] (.int .i64 w2), .r [] (.int .i64 w3)]] => some (w1, w2, w3, w0)
  | _, _ => none
def ygf (a : List Int × Int × Int × Int) (r : Sched × Int × Int) : MOut := ⟨.agg [.r [] (.int .i64 r.1.now), .r [] (.int .i64 r.1.slack), .r [] (.int .i64 r.1.age), .own 1, .r [] (.int .i64 r.1.run), .r [] (.int .i64 r.1.left), .r [] (.int .i64 r.1.turns), .r [] (.int .i64 r.1.next)], [some (.box [.r [] (.sl (.int .u8) a.1), .r [] (.int .i64 r.2.1), .r [] (.int .i64 r.2.2)])], [.arr none (.st .task) r.1.tasks]⟩
def ygg (a : List Int × Int × Int × Int) (o : MOut) : Option (Sched × Int × Int) := match o with
  | ⟨.agg [.r [] (.int .i64 z1), .r [] (.int .i64 z2), .r [] (.int .i64 z3), .own 1, .r [] (.int .i64 z4), .r [] (.int .i64 z5), .r [] (.int .i64 z6), .r [] (.int .i64 z7)], [some (.box [.r [] (.sl (.int .u8) z8), .r [] (.int .i64 z9), .r [] (.int .i64 z10)])], [.arr none (.st .task) z11]⟩ => cond (@sameL (List Int) _ z8 a.1) (some ((⟨z1, z2, z3, z11, z4, z5, z6, z7⟩ : Sched), z9, z10)) none
  | _ => none
def ygh (k : Nat) : MG := fun _ l b K => (yge l b).bind fun a => (S_l07DrawSched_m k a.1 a.2.1 a.2.2.1 a.2.2.2).bind fun r => K (ygf a r)
theorem ygi (k : Nat) (a : List Int × Int × Int × Int) : ev (yfm k) (yg7 (Sched × Int × Int) k) 0 yfo (st0M Try.f189 (ygc a) (ygd a)) (finM Try.prog Try.f189 (.agg [.sc, .sc, .sc, .own (.st .task), .sc, .sc, .sc, .sc]) [.box [.ro (.int .u8), .sc, .sc]] (ygg a)) = S_l07DrawSched_m k a.1 a.2.1 a.2.2.1 a.2.2.2 := by kernel_rfl
theorem ygj (k : Nat) : MutOk Try.prog 189 (ygh k) :=
  mutOk_of_ev (yfn k) Try.func189 (by kernel_rfl) (by kernel_rfl) ygc ygd yge
    (fun l b a h => by unfold yge at h; split at h <;> first | (cases h; exact ⟨rfl, rfl⟩) | cases h) (fun a => rfl) (lpgood_of (l := [(0, yfp), (3, yfq)]) (by kernel_rfl) ⟨yg9 k, ⟨ygb k, trivial⟩⟩) (fun a r => rfl)
    (fun a o r h => by unfold ygg at h; split at h <;> first | (obtain ⟨e0, hq⟩ := dec_chk1 h; clear h; subst e0; have h := hq; clear hq; cases h; rfl) | cases h) (ygi k)
def ygk (k : Nat) : Orc := mutOrc [.keep, .one (.int .i64)] (ygh k)
theorem ygl (k : Nat) : OrcOk Try.prog 189 (ygk k) := mutOrc_ok (ygj k)
noncomputable def ygm (k : Nat) : Env := { P := Try.prog, tt := tt, orc := fun g => cond (Nat.beq g 109) (y2o k) (cond (Nat.beq g 124) (y1e k) (cond (Nat.beq g 125) (y1r k) (cond (Nat.beq g 189) (ygk k) (noOrc)))), wr := fun g => mem g [109, 124, 189], wt := true }
theorem ygn (k : Nat) : EnvOk (ygm k) := fun g => (orc_cond (y2p k) (orc_cond (y1f k) (orc_cond (y1s k) (orc_cond (ygl k) (noOrc_ok _ _)))))
noncomputable def ygo : Code := (Try.f108.body).getD .skip
def ygp (ρ : Type) (k : Nat) : Nat → Ev ρ → Ev ρ := fun _ _ _ _ => none
def ygq (a : List Int) : List SV := [.r [] (.sl (.int .u8) a)]
def ygr (a : List Int) : List Blk := []
def ygs (l : List SV) (b : List Blk) : Option (List Int) := match l, b with
  | [.r [] (.sl (.int .u8) w0)], [] => some w0
  | _, _ => none
def ygt (a : List Int) (r : (Unit × Sched) × Int × Int) : MOut := ⟨.tup [.ptr 0 0 0, .agg [.r [] (.int .i64 r.1.2.now), .r [] (.int .i64 r.1.2.slack), .r [] (.int .i64 r.1.2.age), .own 1, .r [] (.int .i64 r.1.2.run), .r [] (.int .i64 r.1.2.left), .r [] (.int .i64 r.1.2.turns), .r [] (.int .i64 r.1.2.next)]], [], [.box [.r [] (.sl (.int .u8) a), .r [] (.int .i64 r.2.1), .r [] (.int .i64 r.2.2)], .arr none (.st .task) r.1.2.tasks]⟩
def ygu (a : List Int) (o : MOut) : Option ((Unit × Sched) × Int × Int) := match o with
  | ⟨.tup [.ptr 0 0 0, .agg [.r [] (.int .i64 z1), .r [] (.int .i64 z2), .r [] (.int .i64 z3), .own 1, .r [] (.int .i64 z4), .r [] (.int .i64 z5), .r [] (.int .i64 z6), .r [] (.int .i64 z7)]], [], [.box [.r [] (.sl (.int .u8) z8), .r [] (.int .i64 z9), .r [] (.int .i64 z10)], .arr none (.st .task) z11]⟩ => cond (@sameL (List Int) _ z8 a) (some (((), (⟨z1, z2, z3, z11, z4, z5, z6, z7⟩ : Sched)), z9, z10)) none
  | _ => none
def ygv (k : Nat) : MG := fun _ l b K => (ygs l b).bind fun a => (S_l07Draw_m k a).bind fun r => K (ygt a r)
theorem ygw (k : Nat) (a : List Int) : ev (ygm k) (ygp ((Unit × Sched) × Int × Int) k) 0 ygo (st0M Try.f108 (ygq a) (ygr a)) (finM Try.prog Try.f108 (.tup [.ptr, .agg [.sc, .sc, .sc, .own (.st .task), .sc, .sc, .sc, .sc]]) [.box [.ro (.int .u8), .sc, .sc]] (ygu a)) = S_l07Draw_m k a := by kernel_rfl
theorem ygx (k : Nat) : MutOk Try.prog 108 (ygv k) :=
  mutOk_of_ev (ygn k) Try.func108 (by kernel_rfl) (by kernel_rfl) ygq ygr ygs
    (fun l b a h => by unfold ygs at h; split at h <;> first | (cases h; exact ⟨rfl, rfl⟩) | cases h) (fun a => rfl) (lpgood_none (by kernel_rfl)) (fun a r => rfl)
    (fun a o r h => by unfold ygu at h; split at h <;> first | (obtain ⟨e0, hq⟩ := dec_chk1 h; clear h; subst e0; have h := hq; clear hq; cases h; rfl) | cases h) (ygw k)
def ygy (k : Nat) : Orc := mutOrc [.one (.sl (.int .u8))] (ygv k)
theorem ygz (k : Nat) : OrcOk Try.prog 108 (ygy k) := mutOrc_ok (ygx k)
noncomputable def yh0 (k : Nat) : Env := { P := Try.prog, tt := tt, orc := fun g => cond (Nat.beq g 108) (ygy k) (cond (Nat.beq g 109) (y2o k) (cond (Nat.beq g 110) (y3k k) (cond (Nat.beq g 111) (y34 k) (noOrc)))), wr := fun g => mem g [108, 109, 110, 111], wt := true }
theorem yh1 (k : Nat) : EnvOk (yh0 k) := fun g => (orc_cond (ygz k) (orc_cond (y2p k) (orc_cond (y3l k) (orc_cond (y35 k) (noOrc_ok _ _)))))
noncomputable def yh2 : Code := (Try.f30.body).getD .skip
noncomputable def yh3 : Code := ((loopsIn 0 yh2).getD 0 (0, .skip)).2
def yh4 : List Nat := [2, 5, 6, 7, 8]
def yh5 : List (Where × Co) := []
def yh6 : Ex → List Nat
  | .exit j => cond (Nat.beq j 0) [2, 5, 6, 7] []
  | .ret => []
  | .normal => []
def yh7 : Ex → List (Where × Co)
  | .exit j => cond (Nat.beq j 0) [] []
  | .ret => []
  | .normal => []
def yh8 (pv : (Int × Int × Int × Int × Int × Int × Int × List Int × Int × Int × Int × Int × Int × Int × Int × List Task) × (Int × Int × Int × List Int)) : St := { slots := [(2, .ptr 0 0 0), (5, .ptr 1 0 0), (6, .ptr 2 0 0), (7, .own 3), (8, .r [] (.int .i64 pv.2.1))], heap := [(0, .box [.r [] (.int .i64 pv.1.1), .r [] (.int .i64 pv.1.2.1), .r [] (.int .i64 pv.1.2.2.1), .nilS, .r [] (.int .i64 pv.1.2.2.2.1), .r [] (.int .i64 pv.1.2.2.2.2.1), .r [] (.int .i64 pv.1.2.2.2.2.2.1), .r [] (.int .i64 pv.1.2.2.2.2.2.2.1)]), (1, .box [.r [] (.sl (.int .u8) pv.1.2.2.2.2.2.2.2.1), .r [] (.int .i64 pv.2.2.1), .r [] (.int .i64 pv.2.2.2.1)]), (2, .box [.r [] (.int .i64 pv.1.2.2.2.2.2.2.2.2.1), .r [] (.int .i64 pv.1.2.2.2.2.2.2.2.2.2.1), .r [] (.int .i64 pv.1.2.2.2.2.2.2.2.2.2.2.1), .own 4, .r [] (.int .i64 pv.1.2.2.2.2.2.2.2.2.2.2.2.1), .r [] (.int .i64 pv.1.2.2.2.2.2.2.2.2.2.2.2.2.1), .r [] (.int .i64 pv.1.2.2.2.2.2.2.2.2.2.2.2.2.2.1), .r [] (.int .i64 pv.1.2.2.2.2.2.2.2.2.2.2.2.2.2.2.1)]), (3, .arr none (.int .i64) pv.2.2.2.2), (4, .arr none (.st .task) pv.1.2.2.2.2.2.2.2.2.2.2.2.2.2.2.2)], nid := 5, n := 48, gh := [] }
def yh9 (nf : NF) : Option ((Int × Int × Int × Int × Int × Int × Int × List Int × Int × Int × Int × Int × Int × Int × Int × List Task) × (Int × Int × Int × List Int)) := match nf with
  | ([.ptr 0 0 0, .ptr 1 0 0, .ptr 2 0 0, .own 3, .r [] (.int .i64 w0)], [.box [.r [] (.int .i64 w1), .r [] (.int .i64 w2), .r [] (.int .i64 w3), .nilS, .r [] (.int .i64 w4), .r [] (.int .i64 w5), .r [] (.int .i64 w6), .r [] (.int .i64 w7)], .box [.r [] (.sl (.int .u8) w8), .r [] (.int .i64 w9), .r [] (.int .i64 w10)], .box [.r [] (.int .i64 w11), .r [] (.int .i64 w12), .r [] (.int .i64 w13), .own 4, .r [] (.int .i64 w14), .r [] (.int .i64 w15), .r [] (.int .i64 w16), .r [] (.int .i64 w17)], .arr none (.int .i64) w18, .arr none (.st .task) w19], []) => some ((w1, w2, w3, w4, w5, w6, w7, w8, w11, w12, w13, w14, w15, w16, w17, w19), (w0, w9, w10, w18))
  | _ => none
theorem yha (nf : NF) (v : (Int × Int × Int × Int × Int × Int × Int × List Int × Int × Int × Int × Int × Int × Int × Int × List Task) × (Int × Int × Int × List Int)) (h : yh9 nf = some v) : denorm yh4 48 nf = yh8 v := by
  unfold yh9 at h
  split at h
  · cases h; rfl
  · cases h
def yhb (p : Int × Int × Int × Int × Int × Int × Int × List Int × Int × Int × Int × Int × Int × Int × Int × List Task) (x : Int × Int × List Int) : St := { slots := [(2, .ptr 0 0 0), (5, .ptr 1 0 0), (6, .ptr 2 0 0), (7, .own 3)], heap := [(0, .box [.r [] (.int .i64 p.1), .r [] (.int .i64 p.2.1), .r [] (.int .i64 p.2.2.1), .nilS, .r [] (.int .i64 p.2.2.2.1), .r [] (.int .i64 p.2.2.2.2.1), .r [] (.int .i64 p.2.2.2.2.2.1), .r [] (.int .i64 p.2.2.2.2.2.2.1)]), (1, .box [.r [] (.sl (.int .u8) p.2.2.2.2.2.2.2.1), .r [] (.int .i64 x.1), .r [] (.int .i64 x.2.1)]), (2, .box [.r [] (.int .i64 p.2.2.2.2.2.2.2.2.1), .r [] (.int .i64 p.2.2.2.2.2.2.2.2.2.1), .r [] (.int .i64 p.2.2.2.2.2.2.2.2.2.2.1), .own 4, .r [] (.int .i64 p.2.2.2.2.2.2.2.2.2.2.2.1), .r [] (.int .i64 p.2.2.2.2.2.2.2.2.2.2.2.2.1), .r [] (.int .i64 p.2.2.2.2.2.2.2.2.2.2.2.2.2.1), .r [] (.int .i64 p.2.2.2.2.2.2.2.2.2.2.2.2.2.2.1)]), (3, .arr none (.int .i64) x.2.2), (4, .arr none (.st .task) p.2.2.2.2.2.2.2.2.2.2.2.2.2.2.2)], nid := 5, n := 48, gh := [] }
def yhc (ρ : Type) (k : Nat) : Nat → Ev ρ → Ev ρ := fun id f => cond (Nat.beq id 0) (loopOrc yh4 yh5 (fun n nf => cond (Nat.beq n 48) (yh9 nf) none) fun pv K => iter (fun v next => S_DrawAdmit_g0 k pv.1 v next (fun x => K (.exit 0) (yhb pv.1 x))) k pv.2) ((fun _ _ _ _ => none) id f)
theorem yhd {ρ : Type} (k : Nat) (p : Int × Int × Int × Int × Int × Int × Int × List Int × Int × Int × Int × Int × Int × Int × Int × List Task) (v : Int × Int × Int × List Int) (K K1 : Ex → St → Option ρ) : ev (yh0 k) (yhc ρ k) 0 yh3 (yh8 (p, v)) (fun e st' => match e with
    | .normal => (normC yh4 yh5 st').bind fun nf => K1 .normal (denorm yh4 st'.n nf)
    | e => (normC (yh6 e) (yh7 e) st').bind fun nf => K e (denorm (yh6 e) st'.n nf)) = S_DrawAdmit_g0 k p v (fun v' => K1 .normal (yh8 (p, v'))) (fun x => K (.exit 0) (yhb p x)) := by kernel_rfl
theorem yhe {ρ : Type} (k : Nat) : Sound Try.prog (.loop yh3) (yhc ρ k 0 fun st K => ev (yh0 k) (yhc ρ k) 0 yh3 st K) :=
  loop_ok (ev_sound (yh1 k) yh3 0 (lpgood_none (by kernel_rfl))) yh6 yh7 k (g := fun p v next K => S_DrawAdmit_g0 k p v next (fun x => K (.exit 0) (yhb p x))) (dec_at yha) (fun p v K K1 => yhd k p v K K1)
def yhf (a : List Int) : List Arg := [.one (.sl (.int .u8) a)]
def yhg (l : List Arg) : Option (List Int) := match l with
  | [.one (.sl (.int .u8) b0)] => some b0
  | _ => none
def yhh (r : Sched × List Int × Int) : Out := (.tup [.agg [.r [] (.int .i64 r.1.now), .r [] (.int .i64 r.1.slack), .r [] (.int .i64 r.1.age), .own 0, .r [] (.int .i64 r.1.run), .r [] (.int .i64 r.1.left), .r [] (.int .i64 r.1.turns), .r [] (.int .i64 r.1.next)], .own 1, .r [] (.int .i64 r.2.2)], [.arr none (.st .task) r.1.tasks, .arr none (.int .i64) r.2.1])
def yhi (o : Out) : Option (Sched × List Int × Int) := match o with
  | (.tup [.agg [.r [] (.int .i64 z1), .r [] (.int .i64 z2), .r [] (.int .i64 z3), .own 0, .r [] (.int .i64 z5), .r [] (.int .i64 z6), .r [] (.int .i64 z7), .r [] (.int .i64 z8)], .own 1, .r [] (.int .i64 z10)], [.arr none (.st .task) z4, .arr none (.int .i64) z9]) => some ((⟨z1, z2, z3, z4, z5, z6, z7, z8⟩ : Sched), z9, z10)
  | _ => none
def yhj (k : Nat) : PG := fun _ l K => (yhg l).bind fun a => (S_DrawAdmit k a).bind fun r => K (yhh r)
theorem yhk (k : Nat) (a : List Int) : ev (yh0 k) (yhc (Sched × List Int × Int) k) 0 yh2 (st0 Try.f30 (yhf a)) (fin Try.prog Try.f30 (.tup [.agg [.sc, .sc, .sc, .own (.st .task), .sc, .sc, .sc, .sc], .own (.int .i64), .sc]) yhi) = S_DrawAdmit k a := by kernel_rfl
theorem yhl (k : Nat) : PureOk Try.prog 30 (yhj k) :=
  pureOk_of_ev (yh1 k) Try.func30 (by kernel_rfl) (by kernel_rfl) yhf yhg
    (fun l a h => by unfold yhg at h; split at h <;> first | (cases h; rfl) | cases h) (fun a => rfl) (lpgood_of (l := [(0, yh3)]) (by kernel_rfl) ⟨yhe k, trivial⟩)
    (fun o r h => by unfold yhi at h; split at h <;> first | (cases h; rfl) | cases h) (yhk k)
def yhm (k : Nat) : Orc := pureOrc [.one (.sl (.int .u8))] (yhj k)
theorem yhn (k : Nat) : OrcOk Try.prog 30 (yhm k) := pureOrc_ok (yhl k)
noncomputable def yho (k : Nat) : Env := { P := Try.prog, tt := tt, orc := fun g => noOrc }
theorem yhp (k : Nat) : EnvOk (yho k) := fun g => (noOrc_ok _ _)
noncomputable def yhq : Code := (Try.f115.body).getD .skip
def yhr (ρ : Type) (k : Nat) : Nat → Ev ρ → Ev ρ := fun _ _ _ _ => none
def yhs (a : List Int) : List Arg := [.one (.sl (.int .i64) a)]
def yht (l : List Arg) : Option (List Int) := match l with
  | [.one (.sl (.int .i64) b0)] => some b0
  | _ => none
def yhu (r : List Int) : Out := (.own 0, [.arr none (.int .i64) r])
def yhv (o : Out) : Option (List Int) := match o with
  | (.own 0, [.arr none (.int .i64) z1]) => some z1
  | _ => none
def yhw (k : Nat) : PG := fun _ l K => (yht l).bind fun a => (slices_Clone_lint_int k a).bind fun r => K (yhu r)
theorem yhx (k : Nat) (a : List Int) : ev (yho k) (yhr (List Int) k) 0 yhq (st0 Try.f115 (yhs a)) (fin Try.prog Try.f115 (.own (.int .i64)) yhv) = slices_Clone_lint_int k a := by kernel_rfl
theorem yhy (k : Nat) : PureOk Try.prog 115 (yhw k) :=
  pureOk_of_ev (yhp k) Try.func115 (by kernel_rfl) (by kernel_rfl) yhs yht
    (fun l a h => by unfold yht at h; split at h <;> first | (cases h; rfl) | cases h) (fun a => rfl) (lpgood_none (by kernel_rfl))
    (fun o r h => by unfold yhv at h; split at h <;> first | (cases h; rfl) | cases h) (yhx k)
def yhz (k : Nat) : Orc := pureOrc [.one (.sl (.int .i64))] (yhw k)
theorem yi0 (k : Nat) : OrcOk Try.prog 115 (yhz k) := pureOrc_ok (yhy k)
noncomputable def yi1 (k : Nat) : Env := { P := Try.prog, tt := tt, orc := fun g => cond (Nat.beq g 115) (yhz k) (noOrc) }
theorem yi2 (k : Nat) : EnvOk (yi1 k) := fun g => (orc_cond (yi0 k) (noOrc_ok _ _))
noncomputable def yi3 : Code := (Try.f116.body).getD .skip
noncomputable def yi4 : Code := ((loopsIn 0 yi3).getD 0 (0, .skip)).2
def yi5 : List Nat := [1, 2, 9, 10, 11]
def yi6 : List (Where × Co) := [((.pbox 1 3), (.nilOwn false (.st .task)))]
def yi7 : Ex → List Nat
  | .exit j => cond (Nat.beq j 0) [1, 2] []
  | .ret => []
  | .normal => []
def yi8 : Ex → List (Where × Co)
  | .exit j => cond (Nat.beq j 0) [] []
  | .ret => []
  | .normal => []
def yi9 (pv : (List Task × Int × Int × Int × Int × Int × Int × Int × Int × Int × Int × Int × Int × Int × Int × Int) × (Int × List Task)) : St := { slots := [(1, .ptr 0 0 0), (2, .ptr 1 0 0), (9, .r [] (.sl (.st .task) pv.1.1)), (10, .r [] (.int .i64 pv.1.2.1)), (11, .r [] (.int .i64 pv.2.1))], heap := [(0, .box [.r [] (.int .i64 pv.1.2.2.1), .r [] (.int .i64 pv.1.2.2.2.1), .r [] (.int .i64 pv.1.2.2.2.2.1), .own 2, .r [] (.int .i64 pv.1.2.2.2.2.2.1), .r [] (.int .i64 pv.1.2.2.2.2.2.2.1), .r [] (.int .i64 pv.1.2.2.2.2.2.2.2.1), .r [] (.int .i64 pv.1.2.2.2.2.2.2.2.2.1)]), (1, .box [.r [] (.int .i64 pv.1.2.2.2.2.2.2.2.2.2.1), .r [] (.int .i64 pv.1.2.2.2.2.2.2.2.2.2.2.1), .r [] (.int .i64 pv.1.2.2.2.2.2.2.2.2.2.2.2.1), .nilS, .r [] (.int .i64 pv.1.2.2.2.2.2.2.2.2.2.2.2.2.1), .r [] (.int .i64 pv.1.2.2.2.2.2.2.2.2.2.2.2.2.2.1), .r [] (.int .i64 pv.1.2.2.2.2.2.2.2.2.2.2.2.2.2.2.1), .r [] (.int .i64 pv.1.2.2.2.2.2.2.2.2.2.2.2.2.2.2.2)]), (2, .arr none (.st .task) pv.2.2)], nid := 3, n := 27, gh := [] }
def yia (nf : NF) : Option ((List Task × Int × Int × Int × Int × Int × Int × Int × Int × Int × Int × Int × Int × Int × Int × Int) × (Int × List Task)) := match nf with
  | ([.ptr 0 0 0, .ptr 1 0 0, .r [] (.sl (.st .task) w0), .r [] (.int .i64 w1), .r [] (.int .i64 w2)], [.box [.r [] (.int .i64 w3), .r [] (.int .i64 w4), .r [] (.int .i64 w5), .own 2, .r [] (.int .i64 w6), .r [] (.int .i64 w7), .r [] (.int .i64 w8), .r [] (.int .i64 w9)], .box [.r [] (.int .i64 w10), .r [] (.int .i64 w11), .r [] (.int .i64 w12), .nilS, .r [] (.int .i64 w13), .r [] (.int .i64 w14), .r [] (.int .i64 w15), .r [] (.int .i64 w16)], .arr none (.st .task) w17], []) => some ((w0, w1, w3, w4, w5, w6, w7, w8, w9, w10, w11, w12, w13, w14, w15, w16), (w2, w17))
  | _ => none
theorem yib (nf : NF) (v : (List Task × Int × Int × Int × Int × Int × Int × Int × Int × Int × Int × Int × Int × Int × Int × Int) × (Int × List Task)) (h : yia nf = some v) : denorm yi5 27 nf = yi9 v := by
  unfold yia at h
  split at h
  · cases h; rfl
  · cases h
def yic (p : List Task × Int × Int × Int × Int × Int × Int × Int × Int × Int × Int × Int × Int × Int × Int × Int) (x : List Task) : St := { slots := [(1, .ptr 0 0 0), (2, .ptr 1 0 0)], heap := [(0, .box [.r [] (.int .i64 p.2.2.1), .r [] (.int .i64 p.2.2.2.1), .r [] (.int .i64 p.2.2.2.2.1), .own 2, .r [] (.int .i64 p.2.2.2.2.2.1), .r [] (.int .i64 p.2.2.2.2.2.2.1), .r [] (.int .i64 p.2.2.2.2.2.2.2.1), .r [] (.int .i64 p.2.2.2.2.2.2.2.2.1)]), (1, .box [.r [] (.int .i64 p.2.2.2.2.2.2.2.2.2.1), .r [] (.int .i64 p.2.2.2.2.2.2.2.2.2.2.1), .r [] (.int .i64 p.2.2.2.2.2.2.2.2.2.2.2.1), .nilS, .r [] (.int .i64 p.2.2.2.2.2.2.2.2.2.2.2.2.1), .r [] (.int .i64 p.2.2.2.2.2.2.2.2.2.2.2.2.2.1), .r [] (.int .i64 p.2.2.2.2.2.2.2.2.2.2.2.2.2.2.1), .r [] (.int .i64 p.2.2.2.2.2.2.2.2.2.2.2.2.2.2.2)]), (2, .arr none (.st .task) x)], nid := 3, n := 27, gh := [] }
def yid (ρ : Type) (k : Nat) : Nat → Ev ρ → Ev ρ := fun id f => cond (Nat.beq id 0) (loopOrc yi5 yi6 (fun n nf => cond (Nat.beq n 27) (yia nf) none) fun pv K => iter (fun v next => I_Sched_copied_g0 k pv.1 v next (fun x => K (.exit 0) (yic pv.1 x))) k pv.2) ((fun _ _ _ _ => none) id f)
theorem yie {ρ : Type} (k : Nat) (p : List Task × Int × Int × Int × Int × Int × Int × Int × Int × Int × Int × Int × Int × Int × Int × Int) (v : Int × List Task) (K K1 : Ex → St → Option ρ) : ev (yi1 k) (yid ρ k) 0 yi4 (yi9 (p, v)) (fun e st' => match e with
    | .normal => (normC yi5 yi6 st').bind fun nf => K1 .normal (denorm yi5 st'.n nf)
    | e => (normC (yi7 e) (yi8 e) st').bind fun nf => K e (denorm (yi7 e) st'.n nf)) = I_Sched_copied_g0 k p v (fun v' => K1 .normal (yi9 (p, v'))) (fun x => K (.exit 0) (yic p x)) := by kernel_rfl
theorem yif {ρ : Type} (k : Nat) : Sound Try.prog (.loop yi4) (yid ρ k 0 fun st K => ev (yi1 k) (yid ρ k) 0 yi4 st K) :=
  loop_ok (ev_sound (yi2 k) yi4 0 (lpgood_none (by kernel_rfl))) yi7 yi8 k (g := fun p v next K => I_Sched_copied_g0 k p v next (fun x => K (.exit 0) (yic p x))) (dec_at yib) (fun p v K K1 => yie k p v K K1)
def yig (a : Sched) : List Arg := [.agg [.int .i64 a.now, .int .i64 a.slack, .int .i64 a.age, .sl (.st .task) a.tasks, .int .i64 a.run, .int .i64 a.left, .int .i64 a.turns, .int .i64 a.next]]
def yih (l : List Arg) : Option (Sched) := match l with
  | [.agg [.int .i64 b0_0, .int .i64 b0_1, .int .i64 b0_2, .sl (.st .task) b0_3, .int .i64 b0_4, .int .i64 b0_5, .int .i64 b0_6, .int .i64 b0_7]] => some (⟨b0_0, b0_1, b0_2, b0_3, b0_4, b0_5, b0_6, b0_7⟩ : Sched)
  | _ => none
def yii (r : Sched) : Out := (.agg [.r [] (.int .i64 r.now), .r [] (.int .i64 r.slack), .r [] (.int .i64 r.age), .own 0, .r [] (.int .i64 r.run), .r [] (.int .i64 r.left), .r [] (.int .i64 r.turns), .r [] (.int .i64 r.next)], [.arr none (.st .task) r.tasks])
def yij (o : Out) : Option (Sched) := match o with
  | (.agg [.r [] (.int .i64 z1), .r [] (.int .i64 z2), .r [] (.int .i64 z3), .own 0, .r [] (.int .i64 z5), .r [] (.int .i64 z6), .r [] (.int .i64 z7), .r [] (.int .i64 z8)], [.arr none (.st .task) z4]) => some (⟨z1, z2, z3, z4, z5, z6, z7, z8⟩ : Sched)
  | _ => none
def yik (k : Nat) : PG := fun _ l K => (yih l).bind fun a => (I_Sched_copied k a).bind fun r => K (yii r)
theorem yil (k : Nat) (a : Sched) : ev (yi1 k) (yid (Sched) k) 0 yi3 (st0 Try.f116 (yig a)) (fin Try.prog Try.f116 (.agg [.sc, .sc, .sc, .own (.st .task), .sc, .sc, .sc, .sc]) yij) = I_Sched_copied k a := by kernel_rfl
theorem yim (k : Nat) : PureOk Try.prog 116 (yik k) :=
  pureOk_of_ev (yi2 k) Try.func116 (by kernel_rfl) (by kernel_rfl) yig yih
    (fun l a h => by unfold yih at h; split at h <;> first | (cases h; rfl) | cases h) (fun a => rfl) (lpgood_of (l := [(0, yi4)]) (by kernel_rfl) ⟨yif k, trivial⟩)
    (fun o r h => by unfold yij at h; split at h <;> first | (cases h; rfl) | cases h) (yil k)
def yin (k : Nat) : Orc := pureOrc [.agg [(.int .i64), (.int .i64), (.int .i64), (.sl (.st .task)), (.int .i64), (.int .i64), (.int .i64), (.int .i64)]] (yik k)
theorem yio (k : Nat) : OrcOk Try.prog 116 (yin k) := pureOrc_ok (yim k)
noncomputable def E_I_in (k : Nat) : Env := { P := Try.prog, tt := tt, orc := fun g => noOrc }
theorem yip (k : Nat) : EnvOk (E_I_in k) := fun g => (noOrc_ok _ _)
noncomputable def c_I_in : Code := (Try.f132.body).getD .skip
def yiq (ρ : Type) (k : Nat) : Nat → Ev ρ → Ev ρ := fun _ _ _ _ => none
def yir (a : Int × Int × Int) : List Arg := [.one (.int .i64 a.1), .one (.int .i64 a.2.1), .one (.int .i64 a.2.2)]
def yis (l : List Arg) : Option (Int × Int × Int) := match l with
  | [.one (.int .i64 b0), .one (.int .i64 b1), .one (.int .i64 b2)] => some (b0, b1, b2)
  | _ => none
def yit (r : Bool) : Out := (.r [] (.bool r), [])
def yiu (o : Out) : Option (Bool) := match o with
  | (.r [] (.bool z1), []) => some z1
  | _ => none
def I_in_G (k : Nat) : PG := fun _ l K => (yis l).bind fun a => (I_in k a.1 a.2.1 a.2.2).bind fun r => K (yit r)
theorem yiv (k : Nat) (a : Int × Int × Int) : ev (E_I_in k) (yiq (Bool) k) 0 c_I_in (st0 Try.f132 (yir a)) (fin Try.prog Try.f132 (.sc) yiu) = I_in k a.1 a.2.1 a.2.2 := by kernel_rfl
theorem yiw (k : Nat) : PureOk Try.prog 132 (I_in_G k) :=
  pureOk_of_ev (yip k) Try.func132 (by kernel_rfl) (by kernel_rfl) yir yis
    (fun l a h => by unfold yis at h; split at h <;> first | (cases h; rfl) | cases h) (fun a => rfl) (lpgood_none (by kernel_rfl))
    (fun o r h => by unfold yiu at h; split at h <;> first | (cases h; rfl) | cases h) (yiv k)
def o_I_in (k : Nat) : Orc := pureOrc [.one (.int .i64), .one (.int .i64), .one (.int .i64)] (I_in_G k)
theorem yix (k : Nat) : OrcOk Try.prog 132 (o_I_in k) := pureOrc_ok (yiw k)
noncomputable def yiy (k : Nat) : Env := { P := Try.prog, tt := tt, orc := fun g => cond (Nat.beq g 132) (o_I_in k) (noOrc) }
theorem yiz (k : Nat) : EnvOk (yiy k) := fun g => (orc_cond (yix k) (noOrc_ok _ _))
noncomputable def yj0 : Code := (Try.f131.body).getD .skip
def yj1 (ρ : Type) (k : Nat) : Nat → Ev ρ → Ev ρ := fun _ _ _ _ => none
def yj2 (a : Int) : List Arg := [.one (.int .i64 a)]
def yj3 (l : List Arg) : Option (Int) := match l with
  | [.one (.int .i64 b0)] => some b0
  | _ => none
def yj4 (r : Bool) : Out := (.r [] (.bool r), [])
def yj5 (o : Out) : Option (Bool) := match o with
  | (.r [] (.bool z1), []) => some z1
  | _ => none
def yj6 (k : Nat) : PG := fun _ l K => (yj3 l).bind fun a => (I_isTick k a).bind fun r => K (yj4 r)
theorem yj7 (k : Nat) (a : Int) : ev (yiy k) (yj1 (Bool) k) 0 yj0 (st0 Try.f131 (yj2 a)) (fin Try.prog Try.f131 (.sc) yj5) = I_isTick k a := by kernel_rfl
theorem yj8 (k : Nat) : PureOk Try.prog 131 (yj6 k) :=
  pureOk_of_ev (yiz k) Try.func131 (by kernel_rfl) (by kernel_rfl) yj2 yj3
    (fun l a h => by unfold yj3 at h; split at h <;> first | (cases h; rfl) | cases h) (fun a => rfl) (lpgood_none (by kernel_rfl))
    (fun o r h => by unfold yj5 at h; split at h <;> first | (cases h; rfl) | cases h) (yj7 k)
def yj9 (k : Nat) : Orc := pureOrc [.one (.int .i64)] (yj6 k)
theorem yja (k : Nat) : OrcOk Try.prog 131 (yj9 k) := pureOrc_ok (yj8 k)
noncomputable def yjb (k : Nat) : Env := { P := Try.prog, tt := tt, orc := fun g => cond (Nat.beq g 132) (o_I_in k) (noOrc) }
theorem yjc (k : Nat) : EnvOk (yjb k) := fun g => (orc_cond (yix k) (noOrc_ok _ _))
noncomputable def yjd : Code := (Try.f191.body).getD .skip
def yje (ρ : Type) (k : Nat) : Nat → Ev ρ → Ev ρ := fun _ _ _ _ => none
def yjf (a : Int) : List Arg := [.one (.int .i64 a)]
def yjg (l : List Arg) : Option (Int) := match l with
  | [.one (.int .i64 b0)] => some b0
  | _ => none
def yjh (r : Bool) : Out := (.r [] (.bool r), [])
def yji (o : Out) : Option (Bool) := match o with
  | (.r [] (.bool z1), []) => some z1
  | _ => none
def yjj (k : Nat) : PG := fun _ l K => (yjg l).bind fun a => (I_TaskOk_c1 k a).bind fun r => K (yjh r)
theorem yjk (k : Nat) (a : Int) : ev (yjb k) (yje (Bool) k) 0 yjd (st0 Try.f191 (yjf a)) (fin Try.prog Try.f191 (.sc) yji) = I_TaskOk_c1 k a := by kernel_rfl
theorem yjl (k : Nat) : PureOk Try.prog 191 (yjj k) :=
  pureOk_of_ev (yjc k) Try.func191 (by kernel_rfl) (by kernel_rfl) yjf yjg
    (fun l a h => by unfold yjg at h; split at h <;> first | (cases h; rfl) | cases h) (fun a => rfl) (lpgood_none (by kernel_rfl))
    (fun o r h => by unfold yji at h; split at h <;> first | (cases h; rfl) | cases h) (yjk k)
def yjm (k : Nat) : Orc := pureOrc [.one (.int .i64)] (yjj k)
theorem yjn (k : Nat) : OrcOk Try.prog 191 (yjm k) := pureOrc_ok (yjl k)
noncomputable def yjo (k : Nat) : Env := { P := Try.prog, tt := tt, orc := fun g => cond (Nat.beq g 191) (yjm k) (noOrc) }
theorem yjp (k : Nat) : EnvOk (yjo k) := fun g => (orc_cond (yjn k) (noOrc_ok _ _))
noncomputable def yjq : Code := (Try.f188.body).getD .skip
noncomputable def yjr : Code := ((loopsIn 0 yjq).getD 0 (0, .skip)).2
def yjs : List Nat := [0, 1, 7, 8]
def yjt : List (Where × Co) := []
def yju : Ex → List Nat
  | .exit j => cond (Nat.beq j 0) [] []
  | .ret => [4]
  | .normal => []
def yjv : Ex → List (Where × Co)
  | .exit j => cond (Nat.beq j 0) [] []
  | .ret => []
  | .normal => []
def yjw (pv : (List Int × Int) × (Int)) : St := { slots := [(0, .r [] (.sl (.int .i64) pv.1.1)), (1, .fn (.func 191) [] []), (7, .r [] (.int .i64 pv.1.2)), (8, .r [] (.int .i64 pv.2))], heap := [], nid := 0, n := 19, gh := [] }
def yjx (nf : NF) : Option ((List Int × Int) × (Int)) := match nf with
  | ([.r [] (.sl (.int .i64) w0), .fn (.func 191) [] [], .r [] (.int .i64 w1), .r [] (.int .i64 w2)], [], []) => some ((w0, w1), w2)
  | _ => none
theorem yjy (nf : NF) (v : (List Int × Int) × (Int)) (h : yjx nf = some v) : denorm yjs 19 nf = yjw v := by
  unfold yjx at h
  split at h
  · cases h; rfl
  · cases h
def yjz (p : List Int × Int) (x : Unit) : St := { slots := [], heap := [], nid := 0, n := 19, gh := [] }
def yk0 (p : List Int × Int) (x : Int) : St := { slots := [(4, .r [] (.int .i64 x))], heap := [], nid := 0, n := 19, gh := [] }
def yk1 (ρ : Type) (k : Nat) : Nat → Ev ρ → Ev ρ := fun id f => cond (Nat.beq id 0) (loopOrc yjs yjt (fun n nf => cond (Nat.beq n 19) (yjx nf) none) fun pv K => iter (fun v next => slices_IndexFunc_lint_int__I_TaskOk_c1_g0 k pv.1 v next (fun x => K (.exit 0) (yjz pv.1 x)) (fun x => K .ret (yk0 pv.1 x))) k pv.2) ((fun _ _ _ _ => none) id f)
theorem yk2 {ρ : Type} (k : Nat) (p : List Int × Int) (v : Int) (K K1 : Ex → St → Option ρ) : ev (yjo k) (yk1 ρ k) 0 yjr (yjw (p, v)) (fun e st' => match e with
    | .normal => (normC yjs yjt st').bind fun nf => K1 .normal (denorm yjs st'.n nf)
    | e => (normC (yju e) (yjv e) st').bind fun nf => K e (denorm (yju e) st'.n nf)) = slices_IndexFunc_lint_int__I_TaskOk_c1_g0 k p v (fun v' => K1 .normal (yjw (p, v'))) (fun x => K (.exit 0) (yjz p x)) (fun x => K .ret (yk0 p x)) := by kernel_rfl
theorem yk3 {ρ : Type} (k : Nat) : Sound Try.prog (.loop yjr) (yk1 ρ k 0 fun st K => ev (yjo k) (yk1 ρ k) 0 yjr st K) :=
  loop_ok (ev_sound (yjp k) yjr 0 (lpgood_none (by kernel_rfl))) yju yjv k (g := fun p v next K => slices_IndexFunc_lint_int__I_TaskOk_c1_g0 k p v next (fun x => K (.exit 0) (yjz p x)) (fun x => K .ret (yk0 p x))) (dec_at yjy) (fun p v K K1 => yk2 k p v K K1)
def yk4 (a : List Int) : List Arg := [.one (.sl (.int .i64) a), .fn (.func 191) [] []]
def yk5 (l : List Arg) : Option (List Int) := match l with
  | [.one (.sl (.int .i64) b0), .fn (.func 191) [] []] => some b0
  | _ => none
def yk6 (r : Int) : Out := (.r [] (.int .i64 r), [])
def yk7 (o : Out) : Option (Int) := match o with
  | (.r [] (.int .i64 z1), []) => some z1
  | _ => none
def yk8 (k : Nat) : PG := fun _ l K => (yk5 l).bind fun a => (slices_IndexFunc_lint_int__I_TaskOk_c1 k a).bind fun r => K (yk6 r)
theorem yk9 (k : Nat) (a : List Int) : ev (yjo k) (yk1 (Int) k) 0 yjq (st0 Try.f188 (yk4 a)) (fin Try.prog Try.f188 (.sc) yk7) = slices_IndexFunc_lint_int__I_TaskOk_c1 k a := by kernel_rfl
theorem yka (k : Nat) : PureOk Try.prog 188 (yk8 k) :=
  pureOk_of_ev (yjp k) Try.func188 (by kernel_rfl) (by kernel_rfl) yk4 yk5
    (fun l a h => by unfold yk5 at h; split at h <;> first | (cases h; rfl) | cases h) (fun a => rfl) (lpgood_of (l := [(0, yjr)]) (by kernel_rfl) ⟨yk3 k, trivial⟩)
    (fun o r h => by unfold yk7 at h; split at h <;> first | (cases h; rfl) | cases h) (yk9 k)
def ykb (k : Nat) : Orc := pureOrc [.one (.sl (.int .i64)), .fn] (yk8 k)
theorem ykc (k : Nat) : OrcOk Try.prog 188 (ykb k) := pureOrc_ok (yka k)
noncomputable def ykd (k : Nat) : Env := { P := Try.prog, tt := tt, orc := fun g => cond (Nat.beq g 188) (ykb k) (noOrc) }
theorem yke (k : Nat) : EnvOk (ykd k) := fun g => (orc_cond (ykc k) (noOrc_ok _ _))
noncomputable def ykf : Code := (Try.f104.body).getD .skip
def ykg (ρ : Type) (k : Nat) : Nat → Ev ρ → Ev ρ := fun _ _ _ _ => none
def ykh (a : List Int) : List Arg := [.one (.sl (.int .i64) a), .fn (.func 191) [] []]
def yki (l : List Arg) : Option (List Int) := match l with
  | [.one (.sl (.int .i64) b0), .fn (.func 191) [] []] => some b0
  | _ => none
def ykj (r : Bool) : Out := (.r [] (.bool r), [])
def ykk (o : Out) : Option (Bool) := match o with
  | (.r [] (.bool z1), []) => some z1
  | _ => none
def ykl (k : Nat) : PG := fun _ l K => (yki l).bind fun a => (slices_ContainsFunc_lint_int__I_TaskOk_c1 k a).bind fun r => K (ykj r)
theorem ykm (k : Nat) (a : List Int) : ev (ykd k) (ykg (Bool) k) 0 ykf (st0 Try.f104 (ykh a)) (fin Try.prog Try.f104 (.sc) ykk) = slices_ContainsFunc_lint_int__I_TaskOk_c1 k a := by kernel_rfl
theorem ykn (k : Nat) : PureOk Try.prog 104 (ykl k) :=
  pureOk_of_ev (yke k) Try.func104 (by kernel_rfl) (by kernel_rfl) ykh yki
    (fun l a h => by unfold yki at h; split at h <;> first | (cases h; rfl) | cases h) (fun a => rfl) (lpgood_none (by kernel_rfl))
    (fun o r h => by unfold ykk at h; split at h <;> first | (cases h; rfl) | cases h) (ykm k)
def yko (k : Nat) : Orc := pureOrc [.one (.sl (.int .i64)), .fn] (ykl k)
theorem ykp (k : Nat) : OrcOk Try.prog 104 (yko k) := pureOrc_ok (ykn k)
noncomputable def ykq (k : Nat) : Env := { P := Try.prog, tt := tt, orc := fun g => cond (Nat.beq g 104) (yko k) (cond (Nat.beq g 131) (yj9 k) (cond (Nat.beq g 132) (o_I_in k) (noOrc))) }
theorem ykr (k : Nat) : EnvOk (ykq k) := fun g => (orc_cond (ykp k) (orc_cond (yja k) (orc_cond (yix k) (noOrc_ok _ _))))
noncomputable def yks : Code := (Try.f117.body).getD .skip
def ykt (ρ : Type) (k : Nat) : Nat → Ev ρ → Ev ρ := fun _ _ _ _ => none
def yku (a : Task) : List Arg := [.agg [.int .i64 a.id, .sl (.int .i64) a.costs, .int .i64 a.at_, .int .i64 a.due, .int .i64 a.born]]
def ykv (l : List Arg) : Option (Task) := match l with
  | [.agg [.int .i64 b0_0, .sl (.int .i64) b0_1, .int .i64 b0_2, .int .i64 b0_3, .int .i64 b0_4]] => some (⟨b0_0, b0_1, b0_2, b0_3, b0_4⟩ : Task)
  | _ => none
def ykw (r : Bool) : Out := (.r [] (.bool r), [])
def ykx (o : Out) : Option (Bool) := match o with
  | (.r [] (.bool z1), []) => some z1
  | _ => none
def yky (k : Nat) : PG := fun _ l K => (ykv l).bind fun a => (I_TaskOk k a).bind fun r => K (ykw r)
theorem ykz (k : Nat) (a : Task) : ev (ykq k) (ykt (Bool) k) 0 yks (st0 Try.f117 (yku a)) (fin Try.prog Try.f117 (.sc) ykx) = I_TaskOk k a := by kernel_rfl
theorem yl0 (k : Nat) : PureOk Try.prog 117 (yky k) :=
  pureOk_of_ev (ykr k) Try.func117 (by kernel_rfl) (by kernel_rfl) yku ykv
    (fun l a h => by unfold ykv at h; split at h <;> first | (cases h; rfl) | cases h) (fun a => rfl) (lpgood_none (by kernel_rfl))
    (fun o r h => by unfold ykx at h; split at h <;> first | (cases h; rfl) | cases h) (ykz k)
def yl1 (k : Nat) : Orc := pureOrc [.agg [(.int .i64), (.sl (.int .i64)), (.int .i64), (.int .i64), (.int .i64)]] (yky k)
theorem yl2 (k : Nat) : OrcOk Try.prog 117 (yl1 k) := pureOrc_ok (yl0 k)
noncomputable def yl3 (k : Nat) : Env := { P := Try.prog, tt := tt, orc := fun g => cond (Nat.beq g 117) (yl1 k) (noOrc) }
theorem yl4 (k : Nat) : EnvOk (yl3 k) := fun g => (orc_cond (yl2 k) (noOrc_ok _ _))
noncomputable def yl5 : Code := (Try.f133.body).getD .skip
noncomputable def yl6 : Code := ((loopsIn 0 yl5).getD 0 (0, .skip)).2
def yl7 : List Nat := [1, 6, 7, 8]
def yl8 : List (Where × Co) := []
def yl9 : Ex → List Nat
  | .exit j => cond (Nat.beq j 0) [1] []
  | .ret => [2]
  | .normal => []
def yla : Ex → List (Where × Co)
  | .exit j => cond (Nat.beq j 0) [] []
  | .ret => []
  | .normal => []
def ylb (pv : (List Task × Int × Int × Int × Int × List Task × Int × Int × Int × Int) × (Int)) : St := { slots := [(1, .ptr 0 0 0), (6, .r [] (.sl (.st .task) pv.1.1)), (7, .r [] (.int .i64 pv.1.2.1)), (8, .r [] (.int .i64 pv.2))], heap := [(0, .box [.r [] (.int .i64 pv.1.2.2.1), .r [] (.int .i64 pv.1.2.2.2.1), .r [] (.int .i64 pv.1.2.2.2.2.1), .r [] (.sl (.st .task) pv.1.2.2.2.2.2.1), .r [] (.int .i64 pv.1.2.2.2.2.2.2.1), .r [] (.int .i64 pv.1.2.2.2.2.2.2.2.1), .r [] (.int .i64 pv.1.2.2.2.2.2.2.2.2.1), .r [] (.int .i64 pv.1.2.2.2.2.2.2.2.2.2)])], nid := 1, n := 51, gh := [] }
def ylc (nf : NF) : Option ((List Task × Int × Int × Int × Int × List Task × Int × Int × Int × Int) × (Int)) := match nf with
  | ([.ptr 0 0 0, .r [] (.sl (.st .task) w0), .r [] (.int .i64 w1), .r [] (.int .i64 w2)], [.box [.r [] (.int .i64 w3), .r [] (.int .i64 w4), .r [] (.int .i64 w5), .r [] (.sl (.st .task) w6), .r [] (.int .i64 w7), .r [] (.int .i64 w8), .r [] (.int .i64 w9), .r [] (.int .i64 w10)]], []) => some ((w0, w1, w3, w4, w5, w6, w7, w8, w9, w10), w2)
  | _ => none
theorem yld (nf : NF) (v : (List Task × Int × Int × Int × Int × List Task × Int × Int × Int × Int) × (Int)) (h : ylc nf = some v) : denorm yl7 51 nf = ylb v := by
  unfold ylc at h
  split at h
  · cases h; rfl
  · cases h
def yle (p : List Task × Int × Int × Int × Int × List Task × Int × Int × Int × Int) (x : Unit) : St := { slots := [(1, .ptr 0 0 0)], heap := [(0, .box [.r [] (.int .i64 p.2.2.1), .r [] (.int .i64 p.2.2.2.1), .r [] (.int .i64 p.2.2.2.2.1), .r [] (.sl (.st .task) p.2.2.2.2.2.1), .r [] (.int .i64 p.2.2.2.2.2.2.1), .r [] (.int .i64 p.2.2.2.2.2.2.2.1), .r [] (.int .i64 p.2.2.2.2.2.2.2.2.1), .r [] (.int .i64 p.2.2.2.2.2.2.2.2.2)])], nid := 1, n := 51, gh := [] }
def ylf (p : List Task × Int × Int × Int × Int × List Task × Int × Int × Int × Int) (x : Bool) : St := { slots := [(2, .r [] (.bool x))], heap := [], nid := 0, n := 51, gh := [] }
def ylg (ρ : Type) (k : Nat) : Nat → Ev ρ → Ev ρ := fun id f => cond (Nat.beq id 0) (loopOrc yl7 yl8 (fun n nf => cond (Nat.beq n 51) (ylc nf) none) fun pv K => iter (fun v next => I_Sched_areTasks_g0 k pv.1 v next (fun x => K (.exit 0) (yle pv.1 x)) (fun x => K .ret (ylf pv.1 x))) k pv.2) ((fun _ _ _ _ => none) id f)
theorem ylh {ρ : Type} (k : Nat) (p : List Task × Int × Int × Int × Int × List Task × Int × Int × Int × Int) (v : Int) (K K1 : Ex → St → Option ρ) : ev (yl3 k) (ylg ρ k) 0 yl6 (ylb (p, v)) (fun e st' => match e with
    | .normal => (normC yl7 yl8 st').bind fun nf => K1 .normal (denorm yl7 st'.n nf)
    | e => (normC (yl9 e) (yla e) st').bind fun nf => K e (denorm (yl9 e) st'.n nf)) = I_Sched_areTasks_g0 k p v (fun v' => K1 .normal (ylb (p, v'))) (fun x => K (.exit 0) (yle p x)) (fun x => K .ret (ylf p x)) := by kernel_rfl
theorem yli {ρ : Type} (k : Nat) : Sound Try.prog (.loop yl6) (ylg ρ k 0 fun st K => ev (yl3 k) (ylg ρ k) 0 yl6 st K) :=
  loop_ok (ev_sound (yl4 k) yl6 0 (lpgood_none (by kernel_rfl))) yl9 yla k (g := fun p v next K => I_Sched_areTasks_g0 k p v next (fun x => K (.exit 0) (yle p x)) (fun x => K .ret (ylf p x))) (dec_at yld) (fun p v K K1 => ylh k p v K K1)
def ylj (a : Sched) : List Arg := [.agg [.int .i64 a.now, .int .i64 a.slack, .int .i64 a.age, .sl (.st .task) a.tasks, .int .i64 a.run, .int .i64 a.left, .int .i64 a.turns, .int .i64 a.next]]
def ylk (l : List Arg) : Option (Sched) := match l with
  | [.agg [.int .i64 b0_0, .int .i64 b0_1, .int .i64 b0_2, .sl (.st .task) b0_3, .int .i64 b0_4, .int .i64 b0_5, .int .i64 b0_6, .int .i64 b0_7]] => some (⟨b0_0, b0_1, b0_2, b0_3, b0_4, b0_5, b0_6, b0_7⟩ : Sched)
  | _ => none
def yll (r : Bool) : Out := (.r [] (.bool r), [])
def ylm (o : Out) : Option (Bool) := match o with
  | (.r [] (.bool z1), []) => some z1
  | _ => none
def yln (k : Nat) : PG := fun _ l K => (ylk l).bind fun a => (I_Sched_areTasks k a).bind fun r => K (yll r)
theorem ylo (k : Nat) (a : Sched) : ev (yl3 k) (ylg (Bool) k) 0 yl5 (st0 Try.f133 (ylj a)) (fin Try.prog Try.f133 (.sc) ylm) = I_Sched_areTasks k a := by kernel_rfl
theorem ylp (k : Nat) : PureOk Try.prog 133 (yln k) :=
  pureOk_of_ev (yl4 k) Try.func133 (by kernel_rfl) (by kernel_rfl) ylj ylk
    (fun l a h => by unfold ylk at h; split at h <;> first | (cases h; rfl) | cases h) (fun a => rfl) (lpgood_of (l := [(0, yl6)]) (by kernel_rfl) ⟨yli k, trivial⟩)
    (fun o r h => by unfold ylm at h; split at h <;> first | (cases h; rfl) | cases h) (ylo k)
def ylq (k : Nat) : Orc := pureOrc [.agg [(.int .i64), (.int .i64), (.int .i64), (.sl (.st .task)), (.int .i64), (.int .i64), (.int .i64), (.int .i64)]] (yln k)
theorem ylr (k : Nat) : OrcOk Try.prog 133 (ylq k) := pureOrc_ok (ylp k)
noncomputable def yls (k : Nat) : Env := { P := Try.prog, tt := tt, orc := fun g => noOrc }
theorem ylt (k : Nat) : EnvOk (yls k) := fun g => (noOrc_ok _ _)
noncomputable def ylu : Code := (Try.f197.body).getD .skip
def ylv (ρ : Type) (k : Nat) : Nat → Ev ρ → Ev ρ := fun _ _ _ _ => none
def ylw (a : Task × Int) : List SV := [.agg [.r [] (.int .i64 a.1.id), .r [] (.sl (.int .i64) a.1.costs), .r [] (.int .i64 a.1.at_), .r [] (.int .i64 a.1.due), .r [] (.int .i64 a.1.born)], .ptr 0 0 0]
def ylx (a : Task × Int) : List Blk := [.box [.r [] (.int .i64 a.2)]]
def yly (l : List SV) (b : List Blk) : Option (Task × Int) := match l, b with
  | [.agg [.r [] (.int .i64 w0), .r [] (.sl (.int .i64) w1), .r [] (.int .i64 w2), .r [] (.int .i64 w3), .r [] (.int .i64 w4)], .ptr 0 0 0], [.box [.r [] (.int .i64 w5)]] => some ((⟨w0, w1, w2, w3, w4⟩ : Task), w5)
  | _, _ => none
def ylz (a : Task × Int) (r : Bool) : MOut := ⟨.r [] (.bool r), [some (.box [.r [] (.int .i64 a.2)])], []⟩
def ym0 (a : Task × Int) (o : MOut) : Option (Bool) := match o with
  | ⟨.r [] (.bool z1), [some (.box [.r [] (.int .i64 z2)])], []⟩ => cond (@sameL Int _ z2 a.2) (some z1) none
  | _ => none
def ym1 (k : Nat) : MG := fun _ l b K => (yly l b).bind fun a => (I_Sched_find_c1_m k a.1 a.2).bind fun r => K (ylz a r)
theorem ym2 (k : Nat) (a : Task × Int) : ev (yls k) (ylv (Bool) k) 0 ylu (st0M Try.f197 (ylw a) (ylx a)) (finM Try.prog Try.f197 (.sc) [.box [.sc]] (ym0 a)) = I_Sched_find_c1_m k a.1 a.2 := by kernel_rfl
theorem ym3 (k : Nat) : MutOk Try.prog 197 (ym1 k) :=
  mutOk_of_ev (ylt k) Try.func197 (by kernel_rfl) (by kernel_rfl) ylw ylx yly
    (fun l b a h => by unfold yly at h; split at h <;> first | (cases h; exact ⟨rfl, rfl⟩) | cases h) (fun a => rfl) (lpgood_none (by kernel_rfl)) (fun a r => rfl)
    (fun a o r h => by unfold ym0 at h; split at h <;> first | (obtain ⟨e0, hq⟩ := dec_chk1 h; clear h; subst e0; have h := hq; clear hq; cases h; rfl) | cases h) (ym2 k)
def ym4 (k : Nat) : Orc := mutOrc [.agg [(.int .i64), (.sl (.int .i64)), (.int .i64), (.int .i64), (.int .i64)], .keep] (ym1 k)
theorem ym5 (k : Nat) : OrcOk Try.prog 197 (ym4 k) := mutOrc_ok (ym3 k)
noncomputable def ym6 (k : Nat) : Env := { P := Try.prog, tt := tt, orc := fun g => cond (Nat.beq g 197) (ym4 k) (noOrc), wr := fun g => mem g [197], wt := true }
theorem ym7 (k : Nat) : EnvOk (ym6 k) := fun g => (orc_cond (ym5 k) (noOrc_ok _ _))
noncomputable def ym8 : Code := (Try.f192.body).getD .skip
noncomputable def ym9 : Code := ((loopsIn 0 ym8).getD 0 (0, .skip)).2
def yma : List Nat := [0, 1, 7, 8]
def ymb : List (Where × Co) := []
def ymc : Ex → List Nat
  | .exit j => cond (Nat.beq j 0) [] []
  | .ret => [4]
  | .normal => []
def ymd : Ex → List (Where × Co)
  | .exit j => cond (Nat.beq j 0) [] []
  | .ret => []
  | .normal => []
def yme (pv : (List Task × Int × Int) × (Int)) : St := { slots := [(0, .r [] (.sl (.st .task) pv.1.1)), (1, .fn (.func 197) [] [.ptr 0 0 0]), (7, .r [] (.int .i64 pv.1.2.1)), (8, .r [] (.int .i64 pv.2))], heap := [(0, .box [.r [] (.int .i64 pv.1.2.2)])], nid := 1, n := 19, gh := [some 0] }
def ymf (nf : NF) : Option ((List Task × Int × Int) × (Int)) := match nf with
  | ([.r [] (.sl (.st .task) w0), .fn (.func 197) [] [.ptr 0 0 0], .r [] (.int .i64 w1), .r [] (.int .i64 w2)], [.box [.r [] (.int .i64 w3)]], [some 0]) => some ((w0, w1, w3), w2)
  | _ => none
theorem ymg (nf : NF) (v : (List Task × Int × Int) × (Int)) (h : ymf nf = some v) : denorm yma 19 nf = yme v := by
  unfold ymf at h
  split at h
  · cases h; rfl
  · cases h
def ymh (p : List Task × Int × Int) (x : Unit) : St := { slots := [], heap := [(0, .box [.r [] (.int .i64 p.2.2)])], nid := 1, n := 19, gh := [some 0] }
def ymi (p : List Task × Int × Int) (x : Int) : St := { slots := [(4, .r [] (.int .i64 x))], heap := [(0, .box [.r [] (.int .i64 p.2.2)])], nid := 1, n := 19, gh := [some 0] }
def ymj (ρ : Type) (k : Nat) : Nat → Ev ρ → Ev ρ := fun id f => cond (Nat.beq id 0) (loopOrc yma ymb (fun n nf => cond (Nat.beq n 19) (ymf nf) none) fun pv K => iter (fun v next => slices_IndexFunc_lI_Task_I_Task_m_g0 k pv.1 v next (fun x => K (.exit 0) (ymh pv.1 x)) (fun x => K .ret (ymi pv.1 x))) k pv.2) ((fun _ _ _ _ => none) id f)
theorem ymk {ρ : Type} (k : Nat) (p : List Task × Int × Int) (v : Int) (K K1 : Ex → St → Option ρ) : ev (ym6 k) (ymj ρ k) 0 ym9 (yme (p, v)) (fun e st' => match e with
    | .normal => (normC yma ymb st').bind fun nf => K1 .normal (denorm yma st'.n nf)
    | e => (normC (ymc e) (ymd e) st').bind fun nf => K e (denorm (ymc e) st'.n nf)) = slices_IndexFunc_lI_Task_I_Task_m_g0 k p v (fun v' => K1 .normal (yme (p, v'))) (fun x => K (.exit 0) (ymh p x)) (fun x => K .ret (ymi p x)) := by kernel_rfl
theorem yml {ρ : Type} (k : Nat) : Sound Try.prog (.loop ym9) (ymj ρ k 0 fun st K => ev (ym6 k) (ymj ρ k) 0 ym9 st K) :=
  loop_ok (ev_sound (ym7 k) ym9 0 (lpgood_none (by kernel_rfl))) ymc ymd k (g := fun p v next K => slices_IndexFunc_lI_Task_I_Task_m_g0 k p v next (fun x => K (.exit 0) (ymh p x)) (fun x => K .ret (ymi p x))) (dec_at ymg) (fun p v K K1 => ymk k p v K K1)
def ymm (a : List Task × Int) : List SV := [.r [] (.sl (.st .task) a.1), .fn (.func 197) [] [.ptr 0 0 0]]
def ymn (a : List Task × Int) : List Blk := [.box [.r [] (.int .i64 a.2)]]
def ymo (l : List SV) (b : List Blk) : Option (List Task × Int) := match l, b with
  | [.r [] (.sl (.st .task) w0), .fn (.func 197) [] [.ptr 0 0 0]], [.box [.r [] (.int .i64 w1)]] => some (w0, w1)
  | _, _ => none
def ymp (a : List Task × Int) (r : Int) : MOut := ⟨.r [] (.int .i64 r), [some (.box [.r [] (.int .i64 a.2)])], []⟩
def ymq (a : List Task × Int) (o : MOut) : Option (Int) := match o with
  | ⟨.r [] (.int .i64 z1), [some (.box [.r [] (.int .i64 z2)])], []⟩ => cond (@sameL Int _ z2 a.2) (some z1) none
  | _ => none
def ymr (k : Nat) : MG := fun _ l b K => (ymo l b).bind fun a => (slices_IndexFunc_lI_Task_I_Task_m k a.1 a.2).bind fun r => K (ymp a r)
theorem yms (k : Nat) (a : List Task × Int) : ev (ym6 k) (ymj (Int) k) 0 ym8 (st0M Try.f192 (ymm a) (ymn a)) (finM Try.prog Try.f192 (.sc) [.box [.sc]] (ymq a)) = slices_IndexFunc_lI_Task_I_Task_m k a.1 a.2 := by kernel_rfl
theorem ymt (k : Nat) : MutOk Try.prog 192 (ymr k) :=
  mutOk_of_ev (ym7 k) Try.func192 (by kernel_rfl) (by kernel_rfl) ymm ymn ymo
    (fun l b a h => by unfold ymo at h; split at h <;> first | (cases h; exact ⟨rfl, rfl⟩) | cases h) (fun a => rfl) (lpgood_of (l := [(0, ym9)]) (by kernel_rfl) ⟨yml k, trivial⟩) (fun a r => rfl)
    (fun a o r h => by unfold ymq at h; split at h <;> first | (obtain ⟨e0, hq⟩ := dec_chk1 h; clear h; subst e0; have h := hq; clear hq; cases h; rfl) | cases h) (yms k)
def ymu (k : Nat) : Orc := mutOrc [.one (.sl (.st .task)), .keep] (ymr k)
theorem ymv (k : Nat) : OrcOk Try.prog 192 (ymu k) := mutOrc_ok (ymt k)
noncomputable def ymw (k : Nat) : Env := { P := Try.prog, tt := tt, orc := fun g => cond (Nat.beq g 192) (ymu k) (noOrc), wr := fun g => mem g [192], wt := true }
theorem ymx (k : Nat) : EnvOk (ymw k) := fun g => (orc_cond (ymv k) (noOrc_ok _ _))
noncomputable def ymy : Code := (Try.f134.body).getD .skip
def ymz (ρ : Type) (k : Nat) : Nat → Ev ρ → Ev ρ := fun _ _ _ _ => none
def yn0 (a : Sched × Int) : List Arg := [.agg [.int .i64 a.1.now, .int .i64 a.1.slack, .int .i64 a.1.age, .sl (.st .task) a.1.tasks, .int .i64 a.1.run, .int .i64 a.1.left, .int .i64 a.1.turns, .int .i64 a.1.next], .one (.int .i64 a.2)]
def yn1 (l : List Arg) : Option (Sched × Int) := match l with
  | [.agg [.int .i64 b0_0, .int .i64 b0_1, .int .i64 b0_2, .sl (.st .task) b0_3, .int .i64 b0_4, .int .i64 b0_5, .int .i64 b0_6, .int .i64 b0_7], .one (.int .i64 b1)] => some ((⟨b0_0, b0_1, b0_2, b0_3, b0_4, b0_5, b0_6, b0_7⟩ : Sched), b1)
  | _ => none
def yn2 (r : Int) : Out := (.r [] (.int .i64 r), [])
def yn3 (o : Out) : Option (Int) := match o with
  | (.r [] (.int .i64 z1), []) => some z1
  | _ => none
def yn4 (k : Nat) : PG := fun _ l K => (yn1 l).bind fun a => (I_Sched_find k a.1 a.2).bind fun r => K (yn2 r)
theorem yn5 (k : Nat) (a : Sched × Int) : ev (ymw k) (ymz (Int) k) 0 ymy (st0 Try.f134 (yn0 a)) (fin Try.prog Try.f134 (.sc) yn3) = I_Sched_find k a.1 a.2 := by kernel_rfl
theorem yn6 (k : Nat) : PureOk Try.prog 134 (yn4 k) :=
  pureOk_of_ev (ymx k) Try.func134 (by kernel_rfl) (by kernel_rfl) yn0 yn1
    (fun l a h => by unfold yn1 at h; split at h <;> first | (cases h; rfl) | cases h) (fun a => rfl) (lpgood_none (by kernel_rfl))
    (fun o r h => by unfold yn3 at h; split at h <;> first | (cases h; rfl) | cases h) (yn5 k)
def yn7 (k : Nat) : Orc := pureOrc [.agg [(.int .i64), (.int .i64), (.int .i64), (.sl (.st .task)), (.int .i64), (.int .i64), (.int .i64), (.int .i64)], .one (.int .i64)] (yn4 k)
theorem yn8 (k : Nat) : OrcOk Try.prog 134 (yn7 k) := pureOrc_ok (yn6 k)
noncomputable def yn9 (k : Nat) : Env := { P := Try.prog, tt := tt, orc := fun g => cond (Nat.beq g 131) (yj9 k) (cond (Nat.beq g 132) (o_I_in k) (cond (Nat.beq g 133) (ylq k) (cond (Nat.beq g 134) (yn7 k) (noOrc)))) }
theorem yna (k : Nat) : EnvOk (yn9 k) := fun g => (orc_cond (yja k) (orc_cond (yix k) (orc_cond (ylr k) (orc_cond (yn8 k) (noOrc_ok _ _)))))
noncomputable def ynb : Code := (Try.f40.body).getD .skip
def ync (ρ : Type) (k : Nat) : Nat → Ev ρ → Ev ρ := fun _ _ _ _ => none
def ynd (a : Sched) : List Arg := [.agg [.int .i64 a.now, .int .i64 a.slack, .int .i64 a.age, .sl (.st .task) a.tasks, .int .i64 a.run, .int .i64 a.left, .int .i64 a.turns, .int .i64 a.next]]
def yne (l : List Arg) : Option (Sched) := match l with
  | [.agg [.int .i64 b0_0, .int .i64 b0_1, .int .i64 b0_2, .sl (.st .task) b0_3, .int .i64 b0_4, .int .i64 b0_5, .int .i64 b0_6, .int .i64 b0_7]] => some (⟨b0_0, b0_1, b0_2, b0_3, b0_4, b0_5, b0_6, b0_7⟩ : Sched)
  | _ => none
def ynf (r : Bool) : Out := (.r [] (.bool r), [])
def yng (o : Out) : Option (Bool) := match o with
  | (.r [] (.bool z1), []) => some z1
  | _ => none
def ynh (k : Nat) : PG := fun _ l K => (yne l).bind fun a => (I_SchedOk k a).bind fun r => K (ynf r)
theorem yni (k : Nat) (a : Sched) : ev (yn9 k) (ync (Bool) k) 0 ynb (st0 Try.f40 (ynd a)) (fin Try.prog Try.f40 (.sc) yng) = I_SchedOk k a := by kernel_rfl
theorem ynj (k : Nat) : PureOk Try.prog 40 (ynh k) :=
  pureOk_of_ev (yna k) Try.func40 (by kernel_rfl) (by kernel_rfl) ynd yne
    (fun l a h => by unfold yne at h; split at h <;> first | (cases h; rfl) | cases h) (fun a => rfl) (lpgood_none (by kernel_rfl))
    (fun o r h => by unfold yng at h; split at h <;> first | (cases h; rfl) | cases h) (yni k)
def ynk (k : Nat) : Orc := pureOrc [.agg [(.int .i64), (.int .i64), (.int .i64), (.sl (.st .task)), (.int .i64), (.int .i64), (.int .i64), (.int .i64)]] (ynh k)
theorem ynl (k : Nat) : OrcOk Try.prog 40 (ynk k) := pureOrc_ok (ynj k)
noncomputable def ynm (k : Nat) : Env := { P := Try.prog, tt := tt, orc := fun g => noOrc }
theorem ynn (k : Nat) : EnvOk (ynm k) := fun g => (noOrc_ok _ _)
noncomputable def yno : Code := (Try.f120.body).getD .skip
def ynp (ρ : Type) (k : Nat) : Nat → Ev ρ → Ev ρ := fun _ _ _ _ => none
def ynq (a : Sched × Task) : List Arg := [.agg [.int .i64 a.1.now, .int .i64 a.1.slack, .int .i64 a.1.age, .sl (.st .task) a.1.tasks, .int .i64 a.1.run, .int .i64 a.1.left, .int .i64 a.1.turns, .int .i64 a.1.next], .agg [.int .i64 a.2.id, .sl (.int .i64) a.2.costs, .int .i64 a.2.at_, .int .i64 a.2.due, .int .i64 a.2.born]]
def ynr (l : List Arg) : Option (Sched × Task) := match l with
  | [.agg [.int .i64 b0_0, .int .i64 b0_1, .int .i64 b0_2, .sl (.st .task) b0_3, .int .i64 b0_4, .int .i64 b0_5, .int .i64 b0_6, .int .i64 b0_7], .agg [.int .i64 b1_0, .sl (.int .i64) b1_1, .int .i64 b1_2, .int .i64 b1_3, .int .i64 b1_4]] => some ((⟨b0_0, b0_1, b0_2, b0_3, b0_4, b0_5, b0_6, b0_7⟩ : Sched), (⟨b1_0, b1_1, b1_2, b1_3, b1_4⟩ : Task))
  | _ => none
def yns (r : Bool) : Out := (.r [] (.bool r), [])
def ynt (o : Out) : Option (Bool) := match o with
  | (.r [] (.bool z1), []) => some z1
  | _ => none
def ynu (k : Nat) : PG := fun _ l K => (ynr l).bind fun a => (I_Sched_isLate k a.1 a.2).bind fun r => K (yns r)
theorem ynv (k : Nat) (a : Sched × Task) : ev (ynm k) (ynp (Bool) k) 0 yno (st0 Try.f120 (ynq a)) (fin Try.prog Try.f120 (.sc) ynt) = I_Sched_isLate k a.1 a.2 := by kernel_rfl
theorem ynw (k : Nat) : PureOk Try.prog 120 (ynu k) :=
  pureOk_of_ev (ynn k) Try.func120 (by kernel_rfl) (by kernel_rfl) ynq ynr
    (fun l a h => by unfold ynr at h; split at h <;> first | (cases h; rfl) | cases h) (fun a => rfl) (lpgood_none (by kernel_rfl))
    (fun o r h => by unfold ynt at h; split at h <;> first | (cases h; rfl) | cases h) (ynv k)
def ynx (k : Nat) : Orc := pureOrc [.agg [(.int .i64), (.int .i64), (.int .i64), (.sl (.st .task)), (.int .i64), (.int .i64), (.int .i64), (.int .i64)], .agg [(.int .i64), (.sl (.int .i64)), (.int .i64), (.int .i64), (.int .i64)]] (ynu k)
theorem yny (k : Nat) : OrcOk Try.prog 120 (ynx k) := pureOrc_ok (ynw k)
noncomputable def ynz (k : Nat) : Env := { P := Try.prog, tt := tt, orc := fun g => noOrc }
theorem yo0 (k : Nat) : EnvOk (ynz k) := fun g => (noOrc_ok _ _)
noncomputable def yo1 : Code := (Try.f180.body).getD .skip
noncomputable def yo2 : Code := ((loopsIn 0 yo1).getD 0 (0, .skip)).2
def yo3 : List Nat := [3, 6, 7, 8]
def yo4 : List (Where × Co) := []
def yo5 : Ex → List Nat
  | .exit j => cond (Nat.beq j 0) [3] []
  | .ret => []
  | .normal => []
def yo6 : Ex → List (Where × Co)
  | .exit j => cond (Nat.beq j 0) [] []
  | .ret => []
  | .normal => []
def yo7 (pv : (List Int × Int) × (Int × Int)) : St := { slots := [(3, .r [] (.int .i64 pv.2.1)), (6, .r [] (.sl (.int .i64) pv.1.1)), (7, .r [] (.int .i64 pv.1.2)), (8, .r [] (.int .i64 pv.2.2))], heap := [], nid := 0, n := 17, gh := [] }
def yo8 (nf : NF) : Option ((List Int × Int) × (Int × Int)) := match nf with
  | ([.r [] (.int .i64 w0), .r [] (.sl (.int .i64) w1), .r [] (.int .i64 w2), .r [] (.int .i64 w3)], [], []) => some ((w1, w2), (w0, w3))
  | _ => none
theorem yo9 (nf : NF) (v : (List Int × Int) × (Int × Int)) (h : yo8 nf = some v) : denorm yo3 17 nf = yo7 v := by
  unfold yo8 at h
  split at h
  · cases h; rfl
  · cases h
def yoa (p : List Int × Int) (x : Int) : St := { slots := [(3, .r [] (.int .i64 x))], heap := [], nid := 0, n := 17, gh := [] }
def yob (ρ : Type) (k : Nat) : Nat → Ev ρ → Ev ρ := fun id f => cond (Nat.beq id 0) (loopOrc yo3 yo4 (fun n nf => cond (Nat.beq n 17) (yo8 nf) none) fun pv K => iter (fun v next => I_sum_g0 k pv.1 v next (fun x => K (.exit 0) (yoa pv.1 x))) k pv.2) ((fun _ _ _ _ => none) id f)
theorem yoc {ρ : Type} (k : Nat) (p : List Int × Int) (v : Int × Int) (K K1 : Ex → St → Option ρ) : ev (ynz k) (yob ρ k) 0 yo2 (yo7 (p, v)) (fun e st' => match e with
    | .normal => (normC yo3 yo4 st').bind fun nf => K1 .normal (denorm yo3 st'.n nf)
    | e => (normC (yo5 e) (yo6 e) st').bind fun nf => K e (denorm (yo5 e) st'.n nf)) = I_sum_g0 k p v (fun v' => K1 .normal (yo7 (p, v'))) (fun x => K (.exit 0) (yoa p x)) := by kernel_rfl
theorem yod {ρ : Type} (k : Nat) : Sound Try.prog (.loop yo2) (yob ρ k 0 fun st K => ev (ynz k) (yob ρ k) 0 yo2 st K) :=
  loop_ok (ev_sound (yo0 k) yo2 0 (lpgood_none (by kernel_rfl))) yo5 yo6 k (g := fun p v next K => I_sum_g0 k p v next (fun x => K (.exit 0) (yoa p x))) (dec_at yo9) (fun p v K K1 => yoc k p v K K1)
def yoe (a : List Int) : List Arg := [.one (.sl (.int .i64) a)]
def yof (l : List Arg) : Option (List Int) := match l with
  | [.one (.sl (.int .i64) b0)] => some b0
  | _ => none
def yog (r : Int) : Out := (.r [] (.int .i64 r), [])
def yoh (o : Out) : Option (Int) := match o with
  | (.r [] (.int .i64 z1), []) => some z1
  | _ => none
def yoi (k : Nat) : PG := fun _ l K => (yof l).bind fun a => (I_sum k a).bind fun r => K (yog r)
theorem yoj (k : Nat) (a : List Int) : ev (ynz k) (yob (Int) k) 0 yo1 (st0 Try.f180 (yoe a)) (fin Try.prog Try.f180 (.sc) yoh) = I_sum k a := by kernel_rfl
theorem yok (k : Nat) : PureOk Try.prog 180 (yoi k) :=
  pureOk_of_ev (yo0 k) Try.func180 (by kernel_rfl) (by kernel_rfl) yoe yof
    (fun l a h => by unfold yof at h; split at h <;> first | (cases h; rfl) | cases h) (fun a => rfl) (lpgood_of (l := [(0, yo2)]) (by kernel_rfl) ⟨yod k, trivial⟩)
    (fun o r h => by unfold yoh at h; split at h <;> first | (cases h; rfl) | cases h) (yoj k)
def yol (k : Nat) : Orc := pureOrc [.one (.sl (.int .i64))] (yoi k)
theorem yom (k : Nat) : OrcOk Try.prog 180 (yol k) := pureOrc_ok (yok k)
noncomputable def yon (k : Nat) : Env := { P := Try.prog, tt := tt, orc := fun g => cond (Nat.beq g 180) (yol k) (noOrc) }
theorem yoo (k : Nat) : EnvOk (yon k) := fun g => (orc_cond (yom k) (noOrc_ok _ _))
noncomputable def yop : Code := (Try.f193.body).getD .skip
def yoq (ρ : Type) (k : Nat) : Nat → Ev ρ → Ev ρ := fun _ _ _ _ => none
def yor (a : Sched × Task) : List Arg := [.agg [.int .i64 a.1.now, .int .i64 a.1.slack, .int .i64 a.1.age, .sl (.st .task) a.1.tasks, .int .i64 a.1.run, .int .i64 a.1.left, .int .i64 a.1.turns, .int .i64 a.1.next], .agg [.int .i64 a.2.id, .sl (.int .i64) a.2.costs, .int .i64 a.2.at_, .int .i64 a.2.due, .int .i64 a.2.born]]
def yos (l : List Arg) : Option (Sched × Task) := match l with
  | [.agg [.int .i64 b0_0, .int .i64 b0_1, .int .i64 b0_2, .sl (.st .task) b0_3, .int .i64 b0_4, .int .i64 b0_5, .int .i64 b0_6, .int .i64 b0_7], .agg [.int .i64 b1_0, .sl (.int .i64) b1_1, .int .i64 b1_2, .int .i64 b1_3, .int .i64 b1_4]] => some ((⟨b0_0, b0_1, b0_2, b0_3, b0_4, b0_5, b0_6, b0_7⟩ : Sched), (⟨b1_0, b1_1, b1_2, b1_3, b1_4⟩ : Task))
  | _ => none
def yot (r : Int) : Out := (.r [] (.int .i64 r), [])
def you (o : Out) : Option (Int) := match o with
  | (.r [] (.int .i64 z1), []) => some z1
  | _ => none
def yov (k : Nat) : PG := fun _ l K => (yos l).bind fun a => (I_Sched_remain k a.1 a.2).bind fun r => K (yot r)
theorem yow (k : Nat) (a : Sched × Task) : ev (yon k) (yoq (Int) k) 0 yop (st0 Try.f193 (yor a)) (fin Try.prog Try.f193 (.sc) you) = I_Sched_remain k a.1 a.2 := by kernel_rfl
theorem yox (k : Nat) : PureOk Try.prog 193 (yov k) :=
  pureOk_of_ev (yoo k) Try.func193 (by kernel_rfl) (by kernel_rfl) yor yos
    (fun l a h => by unfold yos at h; split at h <;> first | (cases h; rfl) | cases h) (fun a => rfl) (lpgood_none (by kernel_rfl))
    (fun o r h => by unfold you at h; split at h <;> first | (cases h; rfl) | cases h) (yow k)
def yoy (k : Nat) : Orc := pureOrc [.agg [(.int .i64), (.int .i64), (.int .i64), (.sl (.st .task)), (.int .i64), (.int .i64), (.int .i64), (.int .i64)], .agg [(.int .i64), (.sl (.int .i64)), (.int .i64), (.int .i64), (.int .i64)]] (yov k)
theorem yoz (k : Nat) : OrcOk Try.prog 193 (yoy k) := pureOrc_ok (yox k)
noncomputable def yp0 (k : Nat) : Env := { P := Try.prog, tt := tt, orc := fun g => cond (Nat.beq g 193) (yoy k) (noOrc) }
theorem yp1 (k : Nat) : EnvOk (yp0 k) := fun g => (orc_cond (yoz k) (noOrc_ok _ _))
noncomputable def yp2 : Code := (Try.f121.body).getD .skip
noncomputable def yp3 : Code := ((loopsIn 0 yp2).getD 0 (0, .skip)).2
def yp4 : List Nat := [1, 2, 5, 9, 10, 11]
def yp5 : List (Where × Co) := []
def yp6 : Ex → List Nat
  | .exit j => cond (Nat.beq j 0) [5] []
  | .ret => []
  | .normal => []
def yp7 : Ex → List (Where × Co)
  | .exit j => cond (Nat.beq j 0) [] []
  | .ret => []
  | .normal => []
def yp8 (pv : (Int × List Task × Int × Int × Int × Int × List Task × Int × Int × Int × Int) × (Int × Int)) : St := { slots := [(1, .r [] (.int .i64 pv.1.1)), (2, .ptr 0 0 0), (5, .r [] (.int .i64 pv.2.1)), (9, .r [] (.sl (.st .task) pv.1.2.1)), (10, .r [] (.int .i64 pv.1.2.2.1)), (11, .r [] (.int .i64 pv.2.2))], heap := [(0, .box [.r [] (.int .i64 pv.1.2.2.2.1), .r [] (.int .i64 pv.1.2.2.2.2.1), .r [] (.int .i64 pv.1.2.2.2.2.2.1), .r [] (.sl (.st .task) pv.1.2.2.2.2.2.2.1), .r [] (.int .i64 pv.1.2.2.2.2.2.2.2.1), .r [] (.int .i64 pv.1.2.2.2.2.2.2.2.2.1), .r [] (.int .i64 pv.1.2.2.2.2.2.2.2.2.2.1), .r [] (.int .i64 pv.1.2.2.2.2.2.2.2.2.2.2)])], nid := 1, n := 26, gh := [] }
def yp9 (nf : NF) : Option ((Int × List Task × Int × Int × Int × Int × List Task × Int × Int × Int × Int) × (Int × Int)) := match nf with
  | ([.r [] (.int .i64 w0), .ptr 0 0 0, .r [] (.int .i64 w1), .r [] (.sl (.st .task) w2), .r [] (.int .i64 w3), .r [] (.int .i64 w4)], [.box [.r [] (.int .i64 w5), .r [] (.int .i64 w6), .r [] (.int .i64 w7), .r [] (.sl (.st .task) w8), .r [] (.int .i64 w9), .r [] (.int .i64 w10), .r [] (.int .i64 w11), .r [] (.int .i64 w12)]], []) => some ((w0, w2, w3, w5, w6, w7, w8, w9, w10, w11, w12), (w1, w4))
  | _ => none
theorem ypa (nf : NF) (v : (Int × List Task × Int × Int × Int × Int × List Task × Int × Int × Int × Int) × (Int × Int)) (h : yp9 nf = some v) : denorm yp4 26 nf = yp8 v := by
  unfold yp9 at h
  split at h
  · cases h; rfl
  · cases h
def ypb (p : Int × List Task × Int × Int × Int × Int × List Task × Int × Int × Int × Int) (x : Int) : St := { slots := [(5, .r [] (.int .i64 x))], heap := [], nid := 0, n := 26, gh := [] }
def ypc (ρ : Type) (k : Nat) : Nat → Ev ρ → Ev ρ := fun id f => cond (Nat.beq id 0) (loopOrc yp4 yp5 (fun n nf => cond (Nat.beq n 26) (yp9 nf) none) fun pv K => iter (fun v next => I_Sched_demand_g0 k pv.1 v next (fun x => K (.exit 0) (ypb pv.1 x))) k pv.2) ((fun _ _ _ _ => none) id f)
theorem ypd {ρ : Type} (k : Nat) (p : Int × List Task × Int × Int × Int × Int × List Task × Int × Int × Int × Int) (v : Int × Int) (K K1 : Ex → St → Option ρ) : ev (yp0 k) (ypc ρ k) 0 yp3 (yp8 (p, v)) (fun e st' => match e with
    | .normal => (normC yp4 yp5 st').bind fun nf => K1 .normal (denorm yp4 st'.n nf)
    | e => (normC (yp6 e) (yp7 e) st').bind fun nf => K e (denorm (yp6 e) st'.n nf)) = I_Sched_demand_g0 k p v (fun v' => K1 .normal (yp8 (p, v'))) (fun x => K (.exit 0) (ypb p x)) := by kernel_rfl
theorem ype {ρ : Type} (k : Nat) : Sound Try.prog (.loop yp3) (ypc ρ k 0 fun st K => ev (yp0 k) (ypc ρ k) 0 yp3 st K) :=
  loop_ok (ev_sound (yp1 k) yp3 0 (lpgood_none (by kernel_rfl))) yp6 yp7 k (g := fun p v next K => I_Sched_demand_g0 k p v next (fun x => K (.exit 0) (ypb p x))) (dec_at ypa) (fun p v K K1 => ypd k p v K K1)
def ypf (a : Sched × Int) : List Arg := [.agg [.int .i64 a.1.now, .int .i64 a.1.slack, .int .i64 a.1.age, .sl (.st .task) a.1.tasks, .int .i64 a.1.run, .int .i64 a.1.left, .int .i64 a.1.turns, .int .i64 a.1.next], .one (.int .i64 a.2)]
def ypg (l : List Arg) : Option (Sched × Int) := match l with
  | [.agg [.int .i64 b0_0, .int .i64 b0_1, .int .i64 b0_2, .sl (.st .task) b0_3, .int .i64 b0_4, .int .i64 b0_5, .int .i64 b0_6, .int .i64 b0_7], .one (.int .i64 b1)] => some ((⟨b0_0, b0_1, b0_2, b0_3, b0_4, b0_5, b0_6, b0_7⟩ : Sched), b1)
  | _ => none
def yph (r : Int) : Out := (.r [] (.int .i64 r), [])
def ypi (o : Out) : Option (Int) := match o with
  | (.r [] (.int .i64 z1), []) => some z1
  | _ => none
def ypj (k : Nat) : PG := fun _ l K => (ypg l).bind fun a => (I_Sched_demand k a.1 a.2).bind fun r => K (yph r)
theorem ypk (k : Nat) (a : Sched × Int) : ev (yp0 k) (ypc (Int) k) 0 yp2 (st0 Try.f121 (ypf a)) (fin Try.prog Try.f121 (.sc) ypi) = I_Sched_demand k a.1 a.2 := by kernel_rfl
theorem ypl (k : Nat) : PureOk Try.prog 121 (ypj k) :=
  pureOk_of_ev (yp1 k) Try.func121 (by kernel_rfl) (by kernel_rfl) ypf ypg
    (fun l a h => by unfold ypg at h; split at h <;> first | (cases h; rfl) | cases h) (fun a => rfl) (lpgood_of (l := [(0, yp3)]) (by kernel_rfl) ⟨ype k, trivial⟩)
    (fun o r h => by unfold ypi at h; split at h <;> first | (cases h; rfl) | cases h) (ypk k)
def ypm (k : Nat) : Orc := pureOrc [.agg [(.int .i64), (.int .i64), (.int .i64), (.sl (.st .task)), (.int .i64), (.int .i64), (.int .i64), (.int .i64)], .one (.int .i64)] (ypj k)
theorem ypn (k : Nat) : OrcOk Try.prog 121 (ypm k) := pureOrc_ok (ypl k)
noncomputable def ypo (k : Nat) : Env := { P := Try.prog, tt := tt, orc := fun g => cond (Nat.beq g 134) (yn7 k) (noOrc) }
theorem ypp (k : Nat) : EnvOk (ypo k) := fun g => (orc_cond (yn8 k) (noOrc_ok _ _))
noncomputable def ypq : Code := (Try.f122.body).getD .skip
def ypr (ρ : Type) (k : Nat) : Nat → Ev ρ → Ev ρ := fun _ _ _ _ => none
def yps (a : Sched × Int) : List Arg := [.agg [.int .i64 a.1.now, .int .i64 a.1.slack, .int .i64 a.1.age, .sl (.st .task) a.1.tasks, .int .i64 a.1.run, .int .i64 a.1.left, .int .i64 a.1.turns, .int .i64 a.1.next], .one (.int .i64 a.2)]
def ypt (l : List Arg) : Option (Sched × Int) := match l with
  | [.agg [.int .i64 b0_0, .int .i64 b0_1, .int .i64 b0_2, .sl (.st .task) b0_3, .int .i64 b0_4, .int .i64 b0_5, .int .i64 b0_6, .int .i64 b0_7], .one (.int .i64 b1)] => some ((⟨b0_0, b0_1, b0_2, b0_3, b0_4, b0_5, b0_6, b0_7⟩ : Sched), b1)
  | _ => none
def ypu (r : Int) : Out := (.r [] (.int .i64 r), [])
def ypv (o : Out) : Option (Int) := match o with
  | (.r [] (.int .i64 z1), []) => some z1
  | _ => none
def ypw (k : Nat) : PG := fun _ l K => (ypt l).bind fun a => (I_Sched_block k a.1 a.2).bind fun r => K (ypu r)
theorem ypx (k : Nat) (a : Sched × Int) : ev (ypo k) (ypr (Int) k) 0 ypq (st0 Try.f122 (yps a)) (fin Try.prog Try.f122 (.sc) ypv) = I_Sched_block k a.1 a.2 := by kernel_rfl
theorem ypy (k : Nat) : PureOk Try.prog 122 (ypw k) :=
  pureOk_of_ev (ypp k) Try.func122 (by kernel_rfl) (by kernel_rfl) yps ypt
    (fun l a h => by unfold ypt at h; split at h <;> first | (cases h; rfl) | cases h) (fun a => rfl) (lpgood_none (by kernel_rfl))
    (fun o r h => by unfold ypv at h; split at h <;> first | (cases h; rfl) | cases h) (ypx k)
def ypz (k : Nat) : Orc := pureOrc [.agg [(.int .i64), (.int .i64), (.int .i64), (.sl (.st .task)), (.int .i64), (.int .i64), (.int .i64), (.int .i64)], .one (.int .i64)] (ypw k)
theorem yq0 (k : Nat) : OrcOk Try.prog 122 (ypz k) := pureOrc_ok (ypy k)
noncomputable def yq1 (k : Nat) : Env := { P := Try.prog, tt := tt, orc := fun g => cond (Nat.beq g 120) (ynx k) (cond (Nat.beq g 121) (ypm k) (cond (Nat.beq g 122) (ypz k) (noOrc))) }
theorem yq2 (k : Nat) : EnvOk (yq1 k) := fun g => (orc_cond (yny k) (orc_cond (ypn k) (orc_cond (yq0 k) (noOrc_ok _ _))))
noncomputable def yq3 : Code := (Try.f119.body).getD .skip
def yq4 (ρ : Type) (k : Nat) : Nat → Ev ρ → Ev ρ := fun _ _ _ _ => none
def yq5 (a : Task × Sched) : List SV := [.agg [.r [] (.int .i64 a.1.id), .r [] (.sl (.int .i64) a.1.costs), .r [] (.int .i64 a.1.at_), .r [] (.int .i64 a.1.due), .r [] (.int .i64 a.1.born)], .ptr 0 0 0]
def yq6 (a : Task × Sched) : List Blk := [.box [.r [] (.int .i64 a.2.now), .r [] (.int .i64 a.2.slack), .r [] (.int .i64 a.2.age), .r [] (.sl (.st .task) a.2.tasks), .r [] (.int .i64 a.2.run), .r [] (.int .i64 a.2.left), .r [] (.int .i64 a.2.turns), .r [] (.int .i64 a.2.next)]]
def yq7 (l : List SV) (b : List Blk) : Option (Task × Sched) := match l, b with
  | [.agg [.r [] (.int .i64 w0), .r [] (.sl (.int .i64) w1), .r [] (.int .i64 w2), .r [] (.int .i64 w3), .r [] (.int .i64 w4)], .ptr 0 0 0], [.box [.r [] (.int .i64 w5), .r [] (.int .i64 w6), .r [] (.int .i64 w7), .r [] (.sl (.st .task) w8), .r [] (.int .i64 w9), .r [] (.int .i64 w10), .r [] (.int .i64 w11), .r [] (.int .i64 w12)]] => some ((⟨w0, w1, w2, w3, w4⟩ : Task), (⟨w5, w6, w7, w8, w9, w10, w11, w12⟩ : Sched))
  | _, _ => none
def yq8 (a : Task × Sched) (r : Bool) : MOut := ⟨.r [] (.bool r), [some (.box [.r [] (.int .i64 a.2.now), .r [] (.int .i64 a.2.slack), .r [] (.int .i64 a.2.age), .r [] (.sl (.st .task) a.2.tasks), .r [] (.int .i64 a.2.run), .r [] (.int .i64 a.2.left), .r [] (.int .i64 a.2.turns), .r [] (.int .i64 a.2.next)])], []⟩
def yq9 (a : Task × Sched) (o : MOut) : Option (Bool) := match o with
  | ⟨.r [] (.bool z1), [some (.box [.r [] (.int .i64 z2), .r [] (.int .i64 z3), .r [] (.int .i64 z4), .r [] (.sl (.st .task) z5), .r [] (.int .i64 z6), .r [] (.int .i64 z7), .r [] (.int .i64 z8), .r [] (.int .i64 z9)])], []⟩ => cond (@sameL Int _ z2 a.2.now) (cond (@sameL Int _ z3 a.2.slack) (cond (@sameL Int _ z4 a.2.age) (cond (@sameL (List Task) _ z5 a.2.tasks) (cond (@sameL Int _ z6 a.2.run) (cond (@sameL Int _ z7 a.2.left) (cond (@sameL Int _ z8 a.2.turns) (cond (@sameL Int _ z9 a.2.next) (some z1) none) none) none) none) none) none) none) none
  | _ => none
def yqa (k : Nat) : MG := fun _ l b K => (yq7 l b).bind fun a => (I_FitsIn_c1_m k a.1 a.2).bind fun r => K (yq8 a r)
theorem yqb (k : Nat) (a : Task × Sched) : ev (yq1 k) (yq4 (Bool) k) 0 yq3 (st0M Try.f119 (yq5 a) (yq6 a)) (finM Try.prog Try.f119 (.sc) [.box [.sc, .sc, .sc, .ro (.st .task), .sc, .sc, .sc, .sc]] (yq9 a)) = I_FitsIn_c1_m k a.1 a.2 := by kernel_rfl
theorem yqc (k : Nat) : MutOk Try.prog 119 (yqa k) :=
  mutOk_of_ev (yq2 k) Try.func119 (by kernel_rfl) (by kernel_rfl) yq5 yq6 yq7
    (fun l b a h => by unfold yq7 at h; split at h <;> first | (cases h; exact ⟨rfl, rfl⟩) | cases h) (fun a => rfl) (lpgood_none (by kernel_rfl)) (fun a r => rfl)
    (fun a o r h => by unfold yq9 at h; split at h <;> first | (obtain ⟨e0, e1, e2, e3, e4, e5, e6, e7, hq⟩ := dec_chk8 h; clear h; subst e0; subst e1; subst e2; subst e3; subst e4; subst e5; subst e6; subst e7; have h := hq; clear hq; cases h; rfl) | cases h) (yqb k)
def yqd (k : Nat) : Orc := mutOrc [.agg [(.int .i64), (.sl (.int .i64)), (.int .i64), (.int .i64), (.int .i64)], .keep] (yqa k)
theorem yqe (k : Nat) : OrcOk Try.prog 119 (yqd k) := mutOrc_ok (yqc k)
noncomputable def yqf (k : Nat) : Env := { P := Try.prog, tt := tt, orc := fun g => cond (Nat.beq g 119) (yqd k) (noOrc), wr := fun g => mem g [119], wt := true }
theorem yqg (k : Nat) : EnvOk (yqf k) := fun g => (orc_cond (yqe k) (noOrc_ok _ _))
noncomputable def yqh : Code := (Try.f192.body).getD .skip
noncomputable def yqi : Code := ((loopsIn 0 yqh).getD 0 (0, .skip)).2
def yqj : List Nat := [0, 1, 7, 8]
def yqk : List (Where × Co) := []
def yql : Ex → List Nat
  | .exit j => cond (Nat.beq j 0) [] []
  | .ret => [4]
  | .normal => []
def yqm : Ex → List (Where × Co)
  | .exit j => cond (Nat.beq j 0) [] []
  | .ret => []
  | .normal => []
def yqn (pv : (List Task × Int × Int × Int × Int × List Task × Int × Int × Int × Int) × (Int)) : St := { slots := [(0, .r [] (.sl (.st .task) pv.1.1)), (1, .fn (.func 119) [] [.ptr 0 0 0]), (7, .r [] (.int .i64 pv.1.2.1)), (8, .r [] (.int .i64 pv.2))], heap := [(0, .box [.r [] (.int .i64 pv.1.2.2.1), .r [] (.int .i64 pv.1.2.2.2.1), .r [] (.int .i64 pv.1.2.2.2.2.1), .r [] (.sl (.st .task) pv.1.2.2.2.2.2.1), .r [] (.int .i64 pv.1.2.2.2.2.2.2.1), .r [] (.int .i64 pv.1.2.2.2.2.2.2.2.1), .r [] (.int .i64 pv.1.2.2.2.2.2.2.2.2.1), .r [] (.int .i64 pv.1.2.2.2.2.2.2.2.2.2)])], nid := 1, n := 19, gh := [some 0] }
def yqo (nf : NF) : Option ((List Task × Int × Int × Int × Int × List Task × Int × Int × Int × Int) × (Int)) := match nf with
  | ([.r [] (.sl (.st .task) w0), .fn (.func 119) [] [.ptr 0 0 0], .r [] (.int .i64 w1), .r [] (.int .i64 w2)], [.box [.r [] (.int .i64 w3), .r [] (.int .i64 w4), .r [] (.int .i64 w5), .r [] (.sl (.st .task) w6), .r [] (.int .i64 w7), .r [] (.int .i64 w8), .r [] (.int .i64 w9), .r [] (.int .i64 w10)]], [some 0]) => some ((w0, w1, w3, w4, w5, w6, w7, w8, w9, w10), w2)
  | _ => none
theorem yqp (nf : NF) (v : (List Task × Int × Int × Int × Int × List Task × Int × Int × Int × Int) × (Int)) (h : yqo nf = some v) : denorm yqj 19 nf = yqn v := by
  unfold yqo at h
  split at h
  · cases h; rfl
  · cases h
def yqq (p : List Task × Int × Int × Int × Int × List Task × Int × Int × Int × Int) (x : Unit) : St := { slots := [], heap := [(0, .box [.r [] (.int .i64 p.2.2.1), .r [] (.int .i64 p.2.2.2.1), .r [] (.int .i64 p.2.2.2.2.1), .r [] (.sl (.st .task) p.2.2.2.2.2.1), .r [] (.int .i64 p.2.2.2.2.2.2.1), .r [] (.int .i64 p.2.2.2.2.2.2.2.1), .r [] (.int .i64 p.2.2.2.2.2.2.2.2.1), .r [] (.int .i64 p.2.2.2.2.2.2.2.2.2)])], nid := 1, n := 19, gh := [some 0] }
def yqr (p : List Task × Int × Int × Int × Int × List Task × Int × Int × Int × Int) (x : Int) : St := { slots := [(4, .r [] (.int .i64 x))], heap := [(0, .box [.r [] (.int .i64 p.2.2.1), .r [] (.int .i64 p.2.2.2.1), .r [] (.int .i64 p.2.2.2.2.1), .r [] (.sl (.st .task) p.2.2.2.2.2.1), .r [] (.int .i64 p.2.2.2.2.2.2.1), .r [] (.int .i64 p.2.2.2.2.2.2.2.1), .r [] (.int .i64 p.2.2.2.2.2.2.2.2.1), .r [] (.int .i64 p.2.2.2.2.2.2.2.2.2)])], nid := 1, n := 19, gh := [some 0] }
def yqs (ρ : Type) (k : Nat) : Nat → Ev ρ → Ev ρ := fun id f => cond (Nat.beq id 0) (loopOrc yqj yqk (fun n nf => cond (Nat.beq n 19) (yqo nf) none) fun pv K => iter (fun v next => slices_IndexFunc_lI_Task_I_Task_m2_g0 k pv.1 v next (fun x => K (.exit 0) (yqq pv.1 x)) (fun x => K .ret (yqr pv.1 x))) k pv.2) ((fun _ _ _ _ => none) id f)
theorem yqt {ρ : Type} (k : Nat) (p : List Task × Int × Int × Int × Int × List Task × Int × Int × Int × Int) (v : Int) (K K1 : Ex → St → Option ρ) : ev (yqf k) (yqs ρ k) 0 yqi (yqn (p, v)) (fun e st' => match e with
    | .normal => (normC yqj yqk st').bind fun nf => K1 .normal (denorm yqj st'.n nf)
    | e => (normC (yql e) (yqm e) st').bind fun nf => K e (denorm (yql e) st'.n nf)) = slices_IndexFunc_lI_Task_I_Task_m2_g0 k p v (fun v' => K1 .normal (yqn (p, v'))) (fun x => K (.exit 0) (yqq p x)) (fun x => K .ret (yqr p x)) := by kernel_rfl
theorem yqu {ρ : Type} (k : Nat) : Sound Try.prog (.loop yqi) (yqs ρ k 0 fun st K => ev (yqf k) (yqs ρ k) 0 yqi st K) :=
  loop_ok (ev_sound (yqg k) yqi 0 (lpgood_none (by kernel_rfl))) yql yqm k (g := fun p v next K => slices_IndexFunc_lI_Task_I_Task_m2_g0 k p v next (fun x => K (.exit 0) (yqq p x)) (fun x => K .ret (yqr p x))) (dec_at yqp) (fun p v K K1 => yqt k p v K K1)
def yqv (a : List Task × Sched) : List SV := [.r [] (.sl (.st .task) a.1), .fn (.func 119) [] [.ptr 0 0 0]]
def yqw (a : List Task × Sched) : List Blk := [.box [.r [] (.int .i64 a.2.now), .r [] (.int .i64 a.2.slack), .r [] (.int .i64 a.2.age), .r [] (.sl (.st .task) a.2.tasks), .r [] (.int .i64 a.2.run), .r [] (.int .i64 a.2.left), .r [] (.int .i64 a.2.turns), .r [] (.int .i64 a.2.next)]]
def yqx (l : List SV) (b : List Blk) : Option (List Task × Sched) := match l, b with
  | [.r [] (.sl (.st .task) w0), .fn (.func 119) [] [.ptr 0 0 0]], [.box [.r [] (.int .i64 w1), .r [] (.int .i64 w2), .r [] (.int .i64 w3), .r [] (.sl (.st .task) w4), .r [] (.int .i64 w5), .r [] (.int .i64 w6), .r [] (.int .i64 w7), .r [] (.int .i64 w8)]] => some (w0, (⟨w1, w2, w3, w4, w5, w6, w7, w8⟩ : Sched))
  | _, _ => none
def yqy (a : List Task × Sched) (r : Int) : MOut := ⟨.r [] (.int .i64 r), [some (.box [.r [] (.int .i64 a.2.now), .r [] (.int .i64 a.2.slack), .r [] (.int .i64 a.2.age), .r [] (.sl (.st .task) a.2.tasks), .r [] (.int .i64 a.2.run), .r [] (.int .i64 a.2.left), .r [] (.int .i64 a.2.turns), .r [] (.int .i64 a.2.next)])], []⟩
def yqz (a : List Task × Sched) (o : MOut) : Option (Int) := match o with
  | ⟨.r [] (.int .i64 z1), [some (.box [.r [] (.int .i64 z2), .r [] (.int .i64 z3), .r [] (.int .i64 z4), .r [] (.sl (.st .task) z5), .r [] (.int .i64 z6), .r [] (.int .i64 z7), .r [] (.int .i64 z8), .r [] (.int .i64 z9)])], []⟩ => cond (@sameL Int _ z2 a.2.now) (cond (@sameL Int _ z3 a.2.slack) (cond (@sameL Int _ z4 a.2.age) (cond (@sameL (List Task) _ z5 a.2.tasks) (cond (@sameL Int _ z6 a.2.run) (cond (@sameL Int _ z7 a.2.left) (cond (@sameL Int _ z8 a.2.turns) (cond (@sameL Int _ z9 a.2.next) (some z1) none) none) none) none) none) none) none) none
  | _ => none
def yr0 (k : Nat) : MG := fun _ l b K => (yqx l b).bind fun a => (slices_IndexFunc_lI_Task_I_Task_m2 k a.1 a.2).bind fun r => K (yqy a r)
theorem yr1 (k : Nat) (a : List Task × Sched) : ev (yqf k) (yqs (Int) k) 0 yqh (st0M Try.f192 (yqv a) (yqw a)) (finM Try.prog Try.f192 (.sc) [.box [.sc, .sc, .sc, .ro (.st .task), .sc, .sc, .sc, .sc]] (yqz a)) = slices_IndexFunc_lI_Task_I_Task_m2 k a.1 a.2 := by kernel_rfl
theorem yr2 (k : Nat) : MutOk Try.prog 192 (yr0 k) :=
  mutOk_of_ev (yqg k) Try.func192 (by kernel_rfl) (by kernel_rfl) yqv yqw yqx
    (fun l b a h => by unfold yqx at h; split at h <;> first | (cases h; exact ⟨rfl, rfl⟩) | cases h) (fun a => rfl) (lpgood_of (l := [(0, yqi)]) (by kernel_rfl) ⟨yqu k, trivial⟩) (fun a r => rfl)
    (fun a o r h => by unfold yqz at h; split at h <;> first | (obtain ⟨e0, e1, e2, e3, e4, e5, e6, e7, hq⟩ := dec_chk8 h; clear h; subst e0; subst e1; subst e2; subst e3; subst e4; subst e5; subst e6; subst e7; have h := hq; clear hq; cases h; rfl) | cases h) (yr1 k)
def yr3 (k : Nat) : Orc := mutOrc [.one (.sl (.st .task)), .keep] (yr0 k)
theorem yr4 (k : Nat) : OrcOk Try.prog 192 (yr3 k) := mutOrc_ok (yr2 k)
noncomputable def yr5 (k : Nat) : Env := { P := Try.prog, tt := tt, orc := fun g => cond (Nat.beq g 192) (yr3 k) (noOrc), wr := fun g => mem g [192], wt := true }
theorem yr6 (k : Nat) : EnvOk (yr5 k) := fun g => (orc_cond (yr4 k) (noOrc_ok _ _))
noncomputable def yr7 : Code := (Try.f118.body).getD .skip
def yr8 (ρ : Type) (k : Nat) : Nat → Ev ρ → Ev ρ := fun _ _ _ _ => none
def yr9 (a : List Task × Sched) : List SV := [.r [] (.sl (.st .task) a.1), .fn (.func 119) [] [.ptr 0 0 0]]
def yra (a : List Task × Sched) : List Blk := [.box [.r [] (.int .i64 a.2.now), .r [] (.int .i64 a.2.slack), .r [] (.int .i64 a.2.age), .r [] (.sl (.st .task) a.2.tasks), .r [] (.int .i64 a.2.run), .r [] (.int .i64 a.2.left), .r [] (.int .i64 a.2.turns), .r [] (.int .i64 a.2.next)]]
def yrb (l : List SV) (b : List Blk) : Option (List Task × Sched) := match l, b with
  | [.r [] (.sl (.st .task) w0), .fn (.func 119) [] [.ptr 0 0 0]], [.box [.r [] (.int .i64 w1), .r [] (.int .i64 w2), .r [] (.int .i64 w3), .r [] (.sl (.st .task) w4), .r [] (.int .i64 w5), .r [] (.int .i64 w6), .r [] (.int .i64 w7), .r [] (.int .i64 w8)]] => some (w0, (⟨w1, w2, w3, w4, w5, w6, w7, w8⟩ : Sched))
  | _, _ => none
def yrc (a : List Task × Sched) (r : Bool) : MOut := ⟨.r [] (.bool r), [some (.box [.r [] (.int .i64 a.2.now), .r [] (.int .i64 a.2.slack), .r [] (.int .i64 a.2.age), .r [] (.sl (.st .task) a.2.tasks), .r [] (.int .i64 a.2.run), .r [] (.int .i64 a.2.left), .r [] (.int .i64 a.2.turns), .r [] (.int .i64 a.2.next)])], []⟩
def yrd (a : List Task × Sched) (o : MOut) : Option (Bool) := match o with
  | ⟨.r [] (.bool z1), [some (.box [.r [] (.int .i64 z2), .r [] (.int .i64 z3), .r [] (.int .i64 z4), .r [] (.sl (.st .task) z5), .r [] (.int .i64 z6), .r [] (.int .i64 z7), .r [] (.int .i64 z8), .r [] (.int .i64 z9)])], []⟩ => cond (@sameL Int _ z2 a.2.now) (cond (@sameL Int _ z3 a.2.slack) (cond (@sameL Int _ z4 a.2.age) (cond (@sameL (List Task) _ z5 a.2.tasks) (cond (@sameL Int _ z6 a.2.run) (cond (@sameL Int _ z7 a.2.left) (cond (@sameL Int _ z8 a.2.turns) (cond (@sameL Int _ z9 a.2.next) (some z1) none) none) none) none) none) none) none) none
  | _ => none
def yre (k : Nat) : MG := fun _ l b K => (yrb l b).bind fun a => (slices_ContainsFunc_lI_Task_I_Task_m k a.1 a.2).bind fun r => K (yrc a r)
theorem yrf (k : Nat) (a : List Task × Sched) : ev (yr5 k) (yr8 (Bool) k) 0 yr7 (st0M Try.f118 (yr9 a) (yra a)) (finM Try.prog Try.f118 (.sc) [.box [.sc, .sc, .sc, .ro (.st .task), .sc, .sc, .sc, .sc]] (yrd a)) = slices_ContainsFunc_lI_Task_I_Task_m k a.1 a.2 := by kernel_rfl
theorem yrg (k : Nat) : MutOk Try.prog 118 (yre k) :=
  mutOk_of_ev (yr6 k) Try.func118 (by kernel_rfl) (by kernel_rfl) yr9 yra yrb
    (fun l b a h => by unfold yrb at h; split at h <;> first | (cases h; exact ⟨rfl, rfl⟩) | cases h) (fun a => rfl) (lpgood_none (by kernel_rfl)) (fun a r => rfl)
    (fun a o r h => by unfold yrd at h; split at h <;> first | (obtain ⟨e0, e1, e2, e3, e4, e5, e6, e7, hq⟩ := dec_chk8 h; clear h; subst e0; subst e1; subst e2; subst e3; subst e4; subst e5; subst e6; subst e7; have h := hq; clear hq; cases h; rfl) | cases h) (yrf k)
def yrh (k : Nat) : Orc := mutOrc [.one (.sl (.st .task)), .keep] (yre k)
theorem yri (k : Nat) : OrcOk Try.prog 118 (yrh k) := mutOrc_ok (yrg k)
noncomputable def yrj (k : Nat) : Env := { P := Try.prog, tt := tt, orc := fun g => cond (Nat.beq g 40) (ynk k) (cond (Nat.beq g 118) (yrh k) (noOrc)), wr := fun g => mem g [118], wt := true }
theorem yrk (k : Nat) : EnvOk (yrj k) := fun g => (orc_cond (ynl k) (orc_cond (yri k) (noOrc_ok _ _)))
noncomputable def yrl : Code := (Try.f33.body).getD .skip
def yrm (ρ : Type) (k : Nat) : Nat → Ev ρ → Ev ρ := fun _ _ _ _ => none
def yrn (a : Sched) : List Arg := [.agg [.int .i64 a.now, .int .i64 a.slack, .int .i64 a.age, .sl (.st .task) a.tasks, .int .i64 a.run, .int .i64 a.left, .int .i64 a.turns, .int .i64 a.next]]
def yro (l : List Arg) : Option (Sched) := match l with
  | [.agg [.int .i64 b0_0, .int .i64 b0_1, .int .i64 b0_2, .sl (.st .task) b0_3, .int .i64 b0_4, .int .i64 b0_5, .int .i64 b0_6, .int .i64 b0_7]] => some (⟨b0_0, b0_1, b0_2, b0_3, b0_4, b0_5, b0_6, b0_7⟩ : Sched)
  | _ => none
def yrp (r : Bool) : Out := (.r [] (.bool r), [])
def yrq (o : Out) : Option (Bool) := match o with
  | (.r [] (.bool z1), []) => some z1
  | _ => none
def yrr (k : Nat) : PG := fun _ l K => (yro l).bind fun a => (I_FitsIn k a).bind fun r => K (yrp r)
theorem yrs (k : Nat) (a : Sched) : ev (yrj k) (yrm (Bool) k) 0 yrl (st0 Try.f33 (yrn a)) (fin Try.prog Try.f33 (.sc) yrq) = I_FitsIn k a := by kernel_rfl
theorem yrt (k : Nat) : PureOk Try.prog 33 (yrr k) :=
  pureOk_of_ev (yrk k) Try.func33 (by kernel_rfl) (by kernel_rfl) yrn yro
    (fun l a h => by unfold yro at h; split at h <;> first | (cases h; rfl) | cases h) (fun a => rfl) (lpgood_none (by kernel_rfl))
    (fun o r h => by unfold yrq at h; split at h <;> first | (cases h; rfl) | cases h) (yrs k)
def yru (k : Nat) : Orc := pureOrc [.agg [(.int .i64), (.int .i64), (.int .i64), (.sl (.st .task)), (.int .i64), (.int .i64), (.int .i64), (.int .i64)]] (yrr k)
theorem yrv (k : Nat) : OrcOk Try.prog 33 (yru k) := pureOrc_ok (yrt k)
noncomputable def yrw (k : Nat) : Env := { P := Try.prog, tt := tt, orc := fun g => cond (Nat.beq g 33) (yru k) (cond (Nat.beq g 40) (ynk k) (cond (Nat.beq g 115) (yhz k) (cond (Nat.beq g 116) (yin k) (cond (Nat.beq g 117) (yl1 k) (noOrc))))) }
theorem yrx (k : Nat) : EnvOk (yrw k) := fun g => (orc_cond (yrv k) (orc_cond (ynl k) (orc_cond (yi0 k) (orc_cond (yio k) (orc_cond (yl2 k) (noOrc_ok _ _))))))
noncomputable def yry : Code := (Try.f32.body).getD .skip
def yrz (ρ : Type) (k : Nat) : Nat → Ev ρ → Ev ρ := fun _ _ _ _ => none
def ys0 (a : Sched × List Int × Int) : List Arg := [.agg [.int .i64 a.1.now, .int .i64 a.1.slack, .int .i64 a.1.age, .sl (.st .task) a.1.tasks, .int .i64 a.1.run, .int .i64 a.1.left, .int .i64 a.1.turns, .int .i64 a.1.next], .one (.sl (.int .i64) a.2.1), .one (.int .i64 a.2.2)]
def ys1 (l : List Arg) : Option (Sched × List Int × Int) := match l with
  | [.agg [.int .i64 b0_0, .int .i64 b0_1, .int .i64 b0_2, .sl (.st .task) b0_3, .int .i64 b0_4, .int .i64 b0_5, .int .i64 b0_6, .int .i64 b0_7], .one (.sl (.int .i64) b1), .one (.int .i64 b2)] => some ((⟨b0_0, b0_1, b0_2, b0_3, b0_4, b0_5, b0_6, b0_7⟩ : Sched), b1, b2)
  | _ => none
def ys2 (r : Sched × Int × Int) : Out := (.tup [.agg [.r [] (.int .i64 r.1.now), .r [] (.int .i64 r.1.slack), .r [] (.int .i64 r.1.age), .own 0, .r [] (.int .i64 r.1.run), .r [] (.int .i64 r.1.left), .r [] (.int .i64 r.1.turns), .r [] (.int .i64 r.1.next)], .r [] (.int .i64 r.2.1), .r [] (.int .i64 r.2.2)], [.arr none (.st .task) r.1.tasks])
def ys3 (o : Out) : Option (Sched × Int × Int) := match o with
  | (.tup [.agg [.r [] (.int .i64 z1), .r [] (.int .i64 z2), .r [] (.int .i64 z3), .own 0, .r [] (.int .i64 z5), .r [] (.int .i64 z6), .r [] (.int .i64 z7), .r [] (.int .i64 z8)], .r [] (.int .i64 z9), .r [] (.int .i64 z10)], [.arr none (.st .task) z4]) => some ((⟨z1, z2, z3, z4, z5, z6, z7, z8⟩ : Sched), z9, z10)
  | _ => none
def ys4 (k : Nat) : PG := fun _ l K => (ys1 l).bind fun a => (I_Admit k a.1 a.2.1 a.2.2).bind fun r => K (ys2 r)
theorem ys5 (k : Nat) (a : Sched × List Int × Int) : ev (yrw k) (yrz (Sched × Int × Int) k) 0 yry (st0 Try.f32 (ys0 a)) (fin Try.prog Try.f32 (.tup [.agg [.sc, .sc, .sc, .own (.st .task), .sc, .sc, .sc, .sc], .sc, .sc]) ys3) = I_Admit k a.1 a.2.1 a.2.2 := by kernel_rfl
theorem ys6 (k : Nat) : PureOk Try.prog 32 (ys4 k) :=
  pureOk_of_ev (yrx k) Try.func32 (by kernel_rfl) (by kernel_rfl) ys0 ys1
    (fun l a h => by unfold ys1 at h; split at h <;> first | (cases h; rfl) | cases h) (fun a => rfl) (lpgood_none (by kernel_rfl))
    (fun o r h => by unfold ys3 at h; split at h <;> first | (cases h; rfl) | cases h) (ys5 k)
def ys7 (k : Nat) : Orc := pureOrc [.agg [(.int .i64), (.int .i64), (.int .i64), (.sl (.st .task)), (.int .i64), (.int .i64), (.int .i64), (.int .i64)], .one (.sl (.int .i64)), .one (.int .i64)] (ys4 k)
theorem ys8 (k : Nat) : OrcOk Try.prog 32 (ys7 k) := pureOrc_ok (ys6 k)
noncomputable def ys9 (k : Nat) : Env := { P := Try.prog, tt := tt, orc := fun g => cond (Nat.beq g 193) (yoy k) (noOrc) }
theorem ysa (k : Nat) : EnvOk (ys9 k) := fun g => (orc_cond (yoz k) (noOrc_ok _ _))
noncomputable def ysb : Code := (Try.f123.body).getD .skip
noncomputable def ysc : Code := ((loopsIn 0 ysb).getD 0 (0, .skip)).2
def ysd : List Nat := [1, 3, 7, 8, 9]
def yse : List (Where × Co) := []
def ysf : Ex → List Nat
  | .exit j => cond (Nat.beq j 0) [3] []
  | .ret => []
  | .normal => []
def ysg : Ex → List (Where × Co)
  | .exit j => cond (Nat.beq j 0) [] []
  | .ret => []
  | .normal => []
def ysh (pv : (List Task × Int × Int × Int × Int × List Task × Int × Int × Int × Int) × (Int × Int)) : St := { slots := [(1, .ptr 0 0 0), (3, .r [] (.int .i64 pv.2.1)), (7, .r [] (.sl (.st .task) pv.1.1)), (8, .r [] (.int .i64 pv.1.2.1)), (9, .r [] (.int .i64 pv.2.2))], heap := [(0, .box [.r [] (.int .i64 pv.1.2.2.1), .r [] (.int .i64 pv.1.2.2.2.1), .r [] (.int .i64 pv.1.2.2.2.2.1), .r [] (.sl (.st .task) pv.1.2.2.2.2.2.1), .r [] (.int .i64 pv.1.2.2.2.2.2.2.1), .r [] (.int .i64 pv.1.2.2.2.2.2.2.2.1), .r [] (.int .i64 pv.1.2.2.2.2.2.2.2.2.1), .r [] (.int .i64 pv.1.2.2.2.2.2.2.2.2.2)])], nid := 1, n := 20, gh := [] }
def ysi (nf : NF) : Option ((List Task × Int × Int × Int × Int × List Task × Int × Int × Int × Int) × (Int × Int)) := match nf with
  | ([.ptr 0 0 0, .r [] (.int .i64 w0), .r [] (.sl (.st .task) w1), .r [] (.int .i64 w2), .r [] (.int .i64 w3)], [.box [.r [] (.int .i64 w4), .r [] (.int .i64 w5), .r [] (.int .i64 w6), .r [] (.sl (.st .task) w7), .r [] (.int .i64 w8), .r [] (.int .i64 w9), .r [] (.int .i64 w10), .r [] (.int .i64 w11)]], []) => some ((w1, w2, w4, w5, w6, w7, w8, w9, w10, w11), (w0, w3))
  | _ => none
theorem ysj (nf : NF) (v : (List Task × Int × Int × Int × Int × List Task × Int × Int × Int × Int) × (Int × Int)) (h : ysi nf = some v) : denorm ysd 20 nf = ysh v := by
  unfold ysi at h
  split at h
  · cases h; rfl
  · cases h
def ysk (p : List Task × Int × Int × Int × Int × List Task × Int × Int × Int × Int) (x : Int) : St := { slots := [(3, .r [] (.int .i64 x))], heap := [], nid := 0, n := 20, gh := [] }
def ysl (ρ : Type) (k : Nat) : Nat → Ev ρ → Ev ρ := fun id f => cond (Nat.beq id 0) (loopOrc ysd yse (fun n nf => cond (Nat.beq n 20) (ysi nf) none) fun pv K => iter (fun v next => I_Sched_workLeft_g0 k pv.1 v next (fun x => K (.exit 0) (ysk pv.1 x))) k pv.2) ((fun _ _ _ _ => none) id f)
theorem ysm {ρ : Type} (k : Nat) (p : List Task × Int × Int × Int × Int × List Task × Int × Int × Int × Int) (v : Int × Int) (K K1 : Ex → St → Option ρ) : ev (ys9 k) (ysl ρ k) 0 ysc (ysh (p, v)) (fun e st' => match e with
    | .normal => (normC ysd yse st').bind fun nf => K1 .normal (denorm ysd st'.n nf)
    | e => (normC (ysf e) (ysg e) st').bind fun nf => K e (denorm (ysf e) st'.n nf)) = I_Sched_workLeft_g0 k p v (fun v' => K1 .normal (ysh (p, v'))) (fun x => K (.exit 0) (ysk p x)) := by kernel_rfl
theorem ysn {ρ : Type} (k : Nat) : Sound Try.prog (.loop ysc) (ysl ρ k 0 fun st K => ev (ys9 k) (ysl ρ k) 0 ysc st K) :=
  loop_ok (ev_sound (ysa k) ysc 0 (lpgood_none (by kernel_rfl))) ysf ysg k (g := fun p v next K => I_Sched_workLeft_g0 k p v next (fun x => K (.exit 0) (ysk p x))) (dec_at ysj) (fun p v K K1 => ysm k p v K K1)
def yso (a : Sched) : List Arg := [.agg [.int .i64 a.now, .int .i64 a.slack, .int .i64 a.age, .sl (.st .task) a.tasks, .int .i64 a.run, .int .i64 a.left, .int .i64 a.turns, .int .i64 a.next]]
def ysp (l : List Arg) : Option (Sched) := match l with
  | [.agg [.int .i64 b0_0, .int .i64 b0_1, .int .i64 b0_2, .sl (.st .task) b0_3, .int .i64 b0_4, .int .i64 b0_5, .int .i64 b0_6, .int .i64 b0_7]] => some (⟨b0_0, b0_1, b0_2, b0_3, b0_4, b0_5, b0_6, b0_7⟩ : Sched)
  | _ => none
def ysq (r : Int) : Out := (.r [] (.int .i64 r), [])
def ysr (o : Out) : Option (Int) := match o with
  | (.r [] (.int .i64 z1), []) => some z1
  | _ => none
def yss (k : Nat) : PG := fun _ l K => (ysp l).bind fun a => (I_Sched_workLeft k a).bind fun r => K (ysq r)
theorem yst (k : Nat) (a : Sched) : ev (ys9 k) (ysl (Int) k) 0 ysb (st0 Try.f123 (yso a)) (fin Try.prog Try.f123 (.sc) ysr) = I_Sched_workLeft k a := by kernel_rfl
theorem ysu (k : Nat) : PureOk Try.prog 123 (yss k) :=
  pureOk_of_ev (ysa k) Try.func123 (by kernel_rfl) (by kernel_rfl) yso ysp
    (fun l a h => by unfold ysp at h; split at h <;> first | (cases h; rfl) | cases h) (fun a => rfl) (lpgood_of (l := [(0, ysc)]) (by kernel_rfl) ⟨ysn k, trivial⟩)
    (fun o r h => by unfold ysr at h; split at h <;> first | (cases h; rfl) | cases h) (yst k)
def ysv (k : Nat) : Orc := pureOrc [.agg [(.int .i64), (.int .i64), (.int .i64), (.sl (.st .task)), (.int .i64), (.int .i64), (.int .i64), (.int .i64)]] (yss k)
theorem ysw (k : Nat) : OrcOk Try.prog 123 (ysv k) := pureOrc_ok (ysu k)
noncomputable def ysx (k : Nat) : Env := { P := Try.prog, tt := tt, orc := fun g => cond (Nat.beq g 40) (ynk k) (cond (Nat.beq g 123) (ysv k) (noOrc)) }
theorem ysy (k : Nat) : EnvOk (ysx k) := fun g => (orc_cond (ynl k) (orc_cond (ysw k) (noOrc_ok _ _)))
noncomputable def ysz : Code := (Try.f34.body).getD .skip
def yt0 (ρ : Type) (k : Nat) : Nat → Ev ρ → Ev ρ := fun _ _ _ _ => none
def yt1 (a : Sched) : List Arg := [.agg [.int .i64 a.now, .int .i64 a.slack, .int .i64 a.age, .sl (.st .task) a.tasks, .int .i64 a.run, .int .i64 a.left, .int .i64 a.turns, .int .i64 a.next]]
def yt2 (l : List Arg) : Option (Sched) := match l with
  | [.agg [.int .i64 b0_0, .int .i64 b0_1, .int .i64 b0_2, .sl (.st .task) b0_3, .int .i64 b0_4, .int .i64 b0_5, .int .i64 b0_6, .int .i64 b0_7]] => some (⟨b0_0, b0_1, b0_2, b0_3, b0_4, b0_5, b0_6, b0_7⟩ : Sched)
  | _ => none
def yt3 (r : Int) : Out := (.r [] (.int .i64 r), [])
def yt4 (o : Out) : Option (Int) := match o with
  | (.r [] (.int .i64 z1), []) => some z1
  | _ => none
def yt5 (k : Nat) : PG := fun _ l K => (yt2 l).bind fun a => (I_WorkLeft k a).bind fun r => K (yt3 r)
theorem yt6 (k : Nat) (a : Sched) : ev (ysx k) (yt0 (Int) k) 0 ysz (st0 Try.f34 (yt1 a)) (fin Try.prog Try.f34 (.sc) yt4) = I_WorkLeft k a := by kernel_rfl
theorem yt7 (k : Nat) : PureOk Try.prog 34 (yt5 k) :=
  pureOk_of_ev (ysy k) Try.func34 (by kernel_rfl) (by kernel_rfl) yt1 yt2
    (fun l a h => by unfold yt2 at h; split at h <;> first | (cases h; rfl) | cases h) (fun a => rfl) (lpgood_none (by kernel_rfl))
    (fun o r h => by unfold yt4 at h; split at h <;> first | (cases h; rfl) | cases h) (yt6 k)
def yt8 (k : Nat) : Orc := pureOrc [.agg [(.int .i64), (.int .i64), (.int .i64), (.sl (.st .task)), (.int .i64), (.int .i64), (.int .i64), (.int .i64)]] (yt5 k)
theorem yt9 (k : Nat) : OrcOk Try.prog 34 (yt8 k) := pureOrc_ok (yt7 k)
noncomputable def yta (k : Nat) : Env := { P := Try.prog, tt := tt, orc := fun g => cond (Nat.beq g 40) (ynk k) (noOrc) }
theorem ytb (k : Nat) : EnvOk (yta k) := fun g => (orc_cond (ynl k) (noOrc_ok _ _))
noncomputable def ytc : Code := (Try.f35.body).getD .skip
def ytd (ρ : Type) (k : Nat) : Nat → Ev ρ → Ev ρ := fun _ _ _ _ => none
def yte (a : Int × Int) : List Arg := [.one (.int .i64 a.1), .one (.int .i64 a.2)]
def ytf (l : List Arg) : Option (Int × Int) := match l with
  | [.one (.int .i64 b0), .one (.int .i64 b1)] => some (b0, b1)
  | _ => none
def ytg (r : Sched × Bool) : Out := (.tup [.agg [.r [] (.int .i64 r.1.now), .r [] (.int .i64 r.1.slack), .r [] (.int .i64 r.1.age), .own 0, .r [] (.int .i64 r.1.run), .r [] (.int .i64 r.1.left), .r [] (.int .i64 r.1.turns), .r [] (.int .i64 r.1.next)], .r [] (.bool r.2)], [.arr none (.st .task) r.1.tasks])
def yth (o : Out) : Option (Sched × Bool) := match o with
  | (.tup [.agg [.r [] (.int .i64 z1), .r [] (.int .i64 z2), .r [] (.int .i64 z3), .own 0, .r [] (.int .i64 z5), .r [] (.int .i64 z6), .r [] (.int .i64 z7), .r [] (.int .i64 z8)], .r [] (.bool z9)], [.arr none (.st .task) z4]) => some ((⟨z1, z2, z3, z4, z5, z6, z7, z8⟩ : Sched), z9)
  | _ => none
def yti (k : Nat) : PG := fun _ l K => (ytf l).bind fun a => (I_NewSched k a.1 a.2).bind fun r => K (ytg r)
theorem ytj (k : Nat) (a : Int × Int) : ev (yta k) (ytd (Sched × Bool) k) 0 ytc (st0 Try.f35 (yte a)) (fin Try.prog Try.f35 (.tup [.agg [.sc, .sc, .sc, .own (.st .task), .sc, .sc, .sc, .sc], .sc]) yth) = I_NewSched k a.1 a.2 := by kernel_rfl
theorem ytk (k : Nat) : PureOk Try.prog 35 (yti k) :=
  pureOk_of_ev (ytb k) Try.func35 (by kernel_rfl) (by kernel_rfl) yte ytf
    (fun l a h => by unfold ytf at h; split at h <;> first | (cases h; rfl) | cases h) (fun a => rfl) (lpgood_none (by kernel_rfl))
    (fun o r h => by unfold yth at h; split at h <;> first | (cases h; rfl) | cases h) (ytj k)
def ytl (k : Nat) : Orc := pureOrc [.one (.int .i64), .one (.int .i64)] (yti k)
theorem ytm (k : Nat) : OrcOk Try.prog 35 (ytl k) := pureOrc_ok (ytk k)
noncomputable def ytn (k : Nat) : Env := { P := Try.prog, tt := tt, orc := fun g => cond (Nat.beq g 29) (yj k) (cond (Nat.beq g 30) (yhm k) (cond (Nat.beq g 31) (ycu k) (cond (Nat.beq g 32) (ys7 k) (cond (Nat.beq g 33) (yru k) (cond (Nat.beq g 34) (yt8 k) (cond (Nat.beq g 35) (ytl k) (noOrc))))))) }
theorem yto (k : Nat) : EnvOk (ytn k) := fun g => (orc_cond (yk k) (orc_cond (yhn k) (orc_cond (ycv k) (orc_cond (ys8 k) (orc_cond (yrv k) (orc_cond (yt9 k) (orc_cond (ytm k) (noOrc_ok _ _))))))))
noncomputable def ytp : Code := (Try.f5.body).getD .skip
noncomputable def ytq : Code := ((loopsIn 0 ytp).getD 0 (0, .skip)).2
def ytr : List Nat := [3, 4, 12, 14, 15]
def yts : List (Where × Co) := []
def ytt : Ex → List Nat
  | .exit j => cond (Nat.beq j 0) [3, 4, 12, 14] []
  | .ret => [2]
  | .normal => []
def ytu : Ex → List (Where × Co)
  | .exit j => cond (Nat.beq j 0) [] []
  | .ret => []
  | .normal => []
def ytv (pv : (Int × Int × Int × Int × Int × Int × Int × List Int × Int × Int × Int × Int × Int × Int × Int × List Task × List Task) × (Int × Int)) : St := { slots := [(3, .ptr 0 0 0), (4, .own 1), (12, .ptr 2 0 0), (14, .r [] (.int .i64 pv.2.1)), (15, .r [] (.int .i64 pv.2.2))], heap := [(0, .box [.r [] (.int .i64 pv.1.1), .r [] (.int .i64 pv.1.2.1), .r [] (.int .i64 pv.1.2.2.1), .own 3, .r [] (.int .i64 pv.1.2.2.2.1), .r [] (.int .i64 pv.1.2.2.2.2.1), .r [] (.int .i64 pv.1.2.2.2.2.2.1), .r [] (.int .i64 pv.1.2.2.2.2.2.2.1)]), (1, .arr none (.int .i64) pv.1.2.2.2.2.2.2.2.1), (2, .box [.r [] (.int .i64 pv.1.2.2.2.2.2.2.2.2.1), .r [] (.int .i64 pv.1.2.2.2.2.2.2.2.2.2.1), .r [] (.int .i64 pv.1.2.2.2.2.2.2.2.2.2.2.1), .own 4, .r [] (.int .i64 pv.1.2.2.2.2.2.2.2.2.2.2.2.1), .r [] (.int .i64 pv.1.2.2.2.2.2.2.2.2.2.2.2.2.1), .r [] (.int .i64 pv.1.2.2.2.2.2.2.2.2.2.2.2.2.2.1), .r [] (.int .i64 pv.1.2.2.2.2.2.2.2.2.2.2.2.2.2.2.1)]), (3, .arr none (.st .task) pv.1.2.2.2.2.2.2.2.2.2.2.2.2.2.2.2.1), (4, .arr none (.st .task) pv.1.2.2.2.2.2.2.2.2.2.2.2.2.2.2.2.2)], nid := 5, n := 164, gh := [] }
def ytw (nf : NF) : Option ((Int × Int × Int × Int × Int × Int × Int × List Int × Int × Int × Int × Int × Int × Int × Int × List Task × List Task) × (Int × Int)) := match nf with
  | ([.ptr 0 0 0, .own 1, .ptr 2 0 0, .r [] (.int .i64 w0), .r [] (.int .i64 w1)], [.box [.r [] (.int .i64 w2), .r [] (.int .i64 w3), .r [] (.int .i64 w4), .own 3, .r [] (.int .i64 w5), .r [] (.int .i64 w6), .r [] (.int .i64 w7), .r [] (.int .i64 w8)], .arr none (.int .i64) w9, .box [.r [] (.int .i64 w10), .r [] (.int .i64 w11), .r [] (.int .i64 w12), .own 4, .r [] (.int .i64 w13), .r [] (.int .i64 w14), .r [] (.int .i64 w15), .r [] (.int .i64 w16)], .arr none (.st .task) w17, .arr none (.st .task) w18], []) => some ((w2, w3, w4, w5, w6, w7, w8, w9, w10, w11, w12, w13, w14, w15, w16, w17, w18), (w0, w1))
  | _ => none
theorem ytx (nf : NF) (v : (Int × Int × Int × Int × Int × Int × Int × List Int × Int × Int × Int × Int × Int × Int × Int × List Task × List Task) × (Int × Int)) (h : ytw nf = some v) : denorm ytr 164 nf = ytv v := by
  unfold ytw at h
  split at h
  · cases h; rfl
  · cases h
def yty (p : Int × Int × Int × Int × Int × Int × Int × List Int × Int × Int × Int × Int × Int × Int × Int × List Task × List Task) (x : Int) : St := { slots := [(3, .ptr 0 0 0), (4, .own 1), (12, .ptr 2 0 0), (14, .r [] (.int .i64 x))], heap := [(0, .box [.r [] (.int .i64 p.1), .r [] (.int .i64 p.2.1), .r [] (.int .i64 p.2.2.1), .own 3, .r [] (.int .i64 p.2.2.2.1), .r [] (.int .i64 p.2.2.2.2.1), .r [] (.int .i64 p.2.2.2.2.2.1), .r [] (.int .i64 p.2.2.2.2.2.2.1)]), (1, .arr none (.int .i64) p.2.2.2.2.2.2.2.1), (2, .box [.r [] (.int .i64 p.2.2.2.2.2.2.2.2.1), .r [] (.int .i64 p.2.2.2.2.2.2.2.2.2.1), .r [] (.int .i64 p.2.2.2.2.2.2.2.2.2.2.1), .own 4, .r [] (.int .i64 p.2.2.2.2.2.2.2.2.2.2.2.1), .r [] (.int .i64 p.2.2.2.2.2.2.2.2.2.2.2.2.1), .r [] (.int .i64 p.2.2.2.2.2.2.2.2.2.2.2.2.2.1), .r [] (.int .i64 p.2.2.2.2.2.2.2.2.2.2.2.2.2.2.1)]), (3, .arr none (.st .task) p.2.2.2.2.2.2.2.2.2.2.2.2.2.2.2.1), (4, .arr none (.st .task) p.2.2.2.2.2.2.2.2.2.2.2.2.2.2.2.2)], nid := 5, n := 164, gh := [] }
def ytz (p : Int × Int × Int × Int × Int × Int × Int × List Int × Int × Int × Int × Int × Int × Int × Int × List Task × List Task) (x : Bool) : St := { slots := [(2, .r [] (.bool x))], heap := [], nid := 0, n := 164, gh := [] }
def yu0 (ρ : Type) (k : Nat) : Nat → Ev ρ → Ev ρ := fun id f => cond (Nat.beq id 0) (loopOrc ytr yts (fun n nf => cond (Nat.beq n 164) (ytw nf) none) fun pv K => iter (fun v next => L_FnAdmits_g0 k pv.1 v next (fun x => K (.exit 0) (yty pv.1 x)) (fun x => K .ret (ytz pv.1 x))) k pv.2) ((fun _ _ _ _ => none) id f)
theorem yu1 {ρ : Type} (k : Nat) (p : Int × Int × Int × Int × Int × Int × Int × List Int × Int × Int × Int × Int × Int × Int × Int × List Task × List Task) (v : Int × Int) (K K1 : Ex → St → Option ρ) : ev (ytn k) (yu0 ρ k) 0 ytq (ytv (p, v)) (fun e st' => match e with
    | .normal => (normC ytr yts st').bind fun nf => K1 .normal (denorm ytr st'.n nf)
    | e => (normC (ytt e) (ytu e) st').bind fun nf => K e (denorm (ytt e) st'.n nf)) = L_FnAdmits_g0 k p v (fun v' => K1 .normal (ytv (p, v'))) (fun x => K (.exit 0) (yty p x)) (fun x => K .ret (ytz p x)) := by kernel_rfl
theorem yu2 {ρ : Type} (k : Nat) : Sound Try.prog (.loop ytq) (yu0 ρ k 0 fun st K => ev (ytn k) (yu0 ρ k) 0 ytq st K) :=
  loop_ok (ev_sound (yto k) ytq 0 (lpgood_none (by kernel_rfl))) ytt ytu k (g := fun p v next K => L_FnAdmits_g0 k p v next (fun x => K (.exit 0) (yty p x)) (fun x => K .ret (ytz p x))) (dec_at ytx) (fun p v K K1 => yu1 k p v K K1)
def yu3 (a : List Int) : List Arg := [.one (.sl (.int .u8) a)]
def yu4 (l : List Arg) : Option (List Int) := match l with
  | [.one (.sl (.int .u8) b0)] => some b0
  | _ => none
def yu5 (r : Bool) : Out := (.r [] (.bool r), [])
def yu6 (o : Out) : Option (Bool) := match o with
  | (.r [] (.bool z1), []) => some z1
  | _ => none
def yu7 (k : Nat) : PG := fun _ l K => (yu4 l).bind fun a => (L_FnAdmits k a).bind fun r => K (yu5 r)
theorem yu8 (k : Nat) (a : List Int) : ev (ytn k) (yu0 (Bool) k) 0 ytp (st0 Try.f5 (yu3 a)) (fin Try.prog Try.f5 (.sc) yu6) = L_FnAdmits k a := by kernel_rfl
theorem yu9 (k : Nat) : PureOk Try.prog 5 (yu7 k) :=
  pureOk_of_ev (yto k) Try.func5 (by kernel_rfl) (by kernel_rfl) yu3 yu4
    (fun l a h => by unfold yu4 at h; split at h <;> first | (cases h; rfl) | cases h) (fun a => rfl) (lpgood_of (l := [(0, ytq)]) (by kernel_rfl) ⟨yu2 k, trivial⟩)
    (fun o r h => by unfold yu6 at h; split at h <;> first | (cases h; rfl) | cases h) (yu8 k)
end
end Go.Proofs.Ev
