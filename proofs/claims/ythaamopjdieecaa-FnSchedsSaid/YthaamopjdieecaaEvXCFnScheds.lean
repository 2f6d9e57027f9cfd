/- Text of this claim. -/
import Derived.Test.YthaamopjdieecaaEvK6
import Derived.Test.YthaamopjdieecaaProg
import Derived.Test.YthaamopjdieecaaEvD1
import Derived.Test.YthaamopjdieecaaEvD11
import Derived.Test.YthaamopjdieecaaEvD13
import Derived.Test.YthaamopjdieecaaEvD3
import Derived.Test.YthaamopjdieecaaEvD6
import Derived.Test.YthaamopjdieecaaEvD7
import Derived.Test.YthaamopjdieecaaEvD8
set_option linter.unusedVariables false
set_option linter.unusedSimpArgs false
set_option linter.unusedVariables false
set_option linter.unusedSimpArgs false
set_option maxRecDepth 100000
set_option maxHeartbeats 4000000
namespace Go.Proofs.Ev
noncomputable section
variable [Tok]
set_option linter.unusedSectionVars false
def tt : TT := look [(2, (.int .i64)), (3, (.int .i64)), (4, .bool), (5, (.int .u8)), (6, (.int .u8)), (9, .str), (10, .str), (11, .str), (12, (.int .u64)), (21, (.int .i32)), (22, (.sl (.int .u8))), (24, (.st .shape)), (25, (.sl (.int .i64))), (27, (.st .tensor)), (29, (.st .step)), (33, (.st .shape)), (35, (.st .tensor)), (37, (.st .step)), (44, (.sl (.st .step))), (47, (.sl (.st .step))), (53, (.sl (.st .task))), (64, (.sl (.sl (.int .i64)))), (74, (.st .task)), (76, (.sl (.st .layer))), (78, (.st .model)), (80, (.sl (.st .layer))), (82, (.st .model)), (90, (.sl (.st .tensor))), (102, (.sl (.st .wish))), (106, (.sl (.st .wish))), (126, (.sl (.st .shape))), (163, (.st .layer)), (179, (.st .wish)), (181, (.st .wish)), (202, (.int .u64)), (214, (.st .layer)), (219, (.sl (.sl (.st .layer)))), (258, (.int .u32)), (259, (.int .u8)), (260, (.int .u8)), (263, (.int .i32)), (264, (.int .i32))]
def ttTask : TT := look [(2, (.int .i64)), (3, (.int .i64)), (4, .bool), (5, (.int .u8)), (6, (.int .u8)), (9, .str), (10, .str), (11, .str), (12, (.int .u64)), (21, (.int .i32)), (22, (.sl (.int .u8))), (24, (.st .shape)), (25, (.sl (.int .i64))), (27, (.st .tensor)), (29, (.st .step)), (33, (.st .shape)), (35, (.st .tensor)), (37, (.st .step)), (44, (.sl (.st .step))), (47, (.sl (.st .step))), (53, (.sl (.st .taskK))), (64, (.sl (.sl (.int .i64)))), (74, (.st .taskK)), (76, (.sl (.st .layer))), (78, (.st .model)), (80, (.sl (.st .layer))), (82, (.st .model)), (90, (.sl (.st .tensor))), (102, (.sl (.st .wish))), (106, (.sl (.st .wish))), (126, (.sl (.st .shape))), (163, (.st .layer)), (179, (.st .wish)), (181, (.st .wish)), (202, (.int .u64)), (214, (.st .layer)), (219, (.sl (.sl (.st .layer)))), (258, (.int .u32)), (259, (.int .u8)), (260, (.int .u8)), (263, (.int .i32)), (264, (.int .i32))]
noncomputable def y0 (k : Nat) : Env := { P := Try.prog, tt := tt, orc := fun g => noOrc }
theorem y1 (k : Nat) : EnvOk (y0 k) := fun g => (noOrc_ok _ _)
noncomputable def ya : Code := (Try.f29.body).getD .skip
def yb (ρ : Type) (k : Nat) : Nat → Ev ρ → Ev ρ := fun _ _ _ _ => none
def yc (a : List Int) : List Arg := [.one (.sl (.int .u8) a)]
def yd (l : List Arg) : Option (List Int) := match l with
  | [.one (.sl (.int .u8) b0)] => some b0
  | _ => none
def ye (r : Bool) : Out := (.r [] (.bool r), [])
def yf (o : Out) : Option (Bool) := match o with
  | (.r [] (.bool z1), []) => some z1
  | _ => none
def yg (k : Nat) : PG := fun _ l K => (yd l).bind fun a => (L_big k a).bind fun r => K (ye r)
theorem yh (k : Nat) (a : List Int) : ev (y0 k) (yb (Bool) k) 0 ya (st0 Try.f29 (yc a)) (fin Try.prog Try.f29 (.sc) yf) = L_big k a := by kernel_rfl
theorem yi (k : Nat) : PureOk Try.prog 29 (yg k) :=
  pureOk_of_ev (y1 k) Try.func29 (by kernel_rfl) (by kernel_rfl) yc yd
    (fun l a h => by unfold yd at h; split at h <;> first | (cases h; rfl) | cases h) (fun a => rfl) (lpgood_none (by kernel_rfl))
    (fun o r h => by unfold yf at h; split at h <;> first | (cases h; rfl) | cases h) (yh k)
def yj (k : Nat) : Orc := pureOrc [.one (.sl (.int .u8))] (yg k)
theorem yk (k : Nat) : OrcOk Try.prog 29 (yj k) := pureOrc_ok (yi k)
noncomputable def yl (k : Nat) : Env := { P := Try.prog, tt := tt, orc := fun g => noOrc }
theorem ym (k : Nat) : EnvOk (yl k) := fun g => (noOrc_ok _ _)
noncomputable def yn : Code := (Try.f124.body).getD .skip
noncomputable def yo : Code := ((loopsIn 0 yn).getD 0 (0, .skip)).2
def yp : List Nat := [0, 3, 4]
def yq : List (Where × Co) := []
def yr : Ex → List Nat
  | .exit j => cond (Nat.beq j 0) [0, 3] []
  | .ret => []
  | .normal => []
def yt : Ex → List (Where × Co)
  | .exit j => cond (Nat.beq j 0) [] []
  | .ret => []
  | .normal => []
def yu (pv : (List Int) × (Int × Int)) : St := { slots := [(0, .r [] (.sl (.int .u8) pv.1)), (3, .r [] (.int .i64 pv.2.1)), (4, .r [] (.int .i64 pv.2.2))], heap := [], nid := 0, n := 32, gh := [] }
def yv (nf : NF) : Option ((List Int) × (Int × Int)) := match nf with
  | ([.r [] (.sl (.int .u8) w0), .r [] (.int .i64 w1), .r [] (.int .i64 w2)], [], []) => some (w0, (w1, w2))
  | _ => none
theorem yw (nf : NF) (v : (List Int) × (Int × Int)) (h : yv nf = some v) : denorm yp 32 nf = yu v := by
  unfold yv at h
  split at h
  · cases h; rfl
  · cases h
def yx (p : List Int) (x : Int) : St := { slots := [(0, .r [] (.sl (.int .u8) p)), (3, .r [] (.int .i64 x))], heap := [], nid := 0, n := 32, gh := [] }
def yy (ρ : Type) (k : Nat) : Nat → Ev ρ → Ev ρ := fun id f => cond (Nat.beq id 0) (loopOrc yp yq (fun n nf => cond (Nat.beq n 32) (yv nf) none) fun pv K => iter (fun v next => S_l01New_m_g0 k pv.1 v next (fun x => K (.exit 0) (yx pv.1 x))) k pv.2) ((fun _ _ _ _ => none) id f)
theorem yz {ρ : Type} (k : Nat) (p : List Int) (v : Int × Int) (K K1 : Ex → St → Option ρ) : ev (yl k) (yy ρ k) 0 yo (yu (p, v)) (fun e st' => match e with
    | .normal => (normC yp yq st').bind fun nf => K1 .normal (denorm yp st'.n nf)
    | e => (normC (yr e) (yt e) st').bind fun nf => K e (denorm (yr e) st'.n nf)) = S_l01New_m_g0 k p v (fun v' => K1 .normal (yu (p, v'))) (fun x => K (.exit 0) (yx p x)) := by kernel_rfl
theorem y11 {ρ : Type} (k : Nat) : Sound Try.prog (.loop yo) (yy ρ k 0 fun st K => ev (yl k) (yy ρ k) 0 yo st K) :=
  loop_ok (ev_sound (ym k) yo 0 (lpgood_none (by kernel_rfl))) yr yt k (g := fun p v next K => S_l01New_m_g0 k p v next (fun x => K (.exit 0) (yx p x))) (dec_at yw) (fun p v K K1 => yz k p v K K1)
def y13 (a : List Int) : List SV := [.r [] (.sl (.int .u8) a)]
def y14 (a : List Int) : List Blk := []
def y16 (l : List SV) (b : List Blk) : Option (List Int) := match l, b with
  | [.r [] (.sl (.int .u8) w0)], [] => some w0
  | _, _ => none
def y17 (a : List Int) (r : Int × Int) : MOut := ⟨.ptr 0 0 0, [], [.box [.r [] (.sl (.int .u8) a), .r [] (.int .i64 r.1), .r [] (.int .i64 r.2)]]⟩
def y18 (a : List Int) (o : MOut) : Option (Int × Int) := match o with
  | ⟨.ptr 0 0 0, [], [.box [.r [] (.sl (.int .u8) z1), .r [] (.int .i64 z2), .r [] (.int .i64 z3)]]⟩ => cond (@sameL (List Int) _ z1 a) (some (z2, z3)) none
  | _ => none
def y19 (k : Nat) : MG := fun _ l b K => (y16 l b).bind fun a => (S_l01New_m k a).bind fun r => K (y17 a r)
theorem y1a (k : Nat) (a : List Int) : ev (yl k) (yy (Int × Int) k) 0 yn (st0M Try.f124 (y13 a) (y14 a)) (finM Try.prog Try.f124 (.ptr) [.box [.ro (.int .u8), .sc, .sc]] (y18 a)) = S_l01New_m k a := by kernel_rfl
theorem y1b (k : Nat) : MutOk Try.prog 124 (y19 k) :=
  mutOk_of_ev (ym k) Try.func124 (by kernel_rfl) (by kernel_rfl) y13 y14 y16
    (fun l b a h => by unfold y16 at h; split at h <;> first | (cases h; exact ⟨rfl, rfl⟩) | cases h) (fun a => rfl) (lpgood_of (l := [(0, yo)]) (by kernel_rfl) ⟨y11 k, trivial⟩) (fun a r => rfl)
    (fun a o r h => by unfold y18 at h; split at h <;> first | (obtain ⟨e0, hq⟩ := dec_chk1 h; clear h; subst e0; have h := hq; clear hq; cases h; rfl) | cases h) (y1a k)
def y1c (k : Nat) : Orc := mutOrc [.one (.sl (.int .u8))] (y19 k)
theorem y1d (k : Nat) : OrcOk Try.prog 124 (y1c k) := mutOrc_ok (y1b k)
noncomputable def y1e (k : Nat) : Env := { P := Try.prog, tt := tt, orc := fun g => noOrc }
theorem y1f (k : Nat) : EnvOk (y1e k) := fun g => (noOrc_ok _ _)
noncomputable def y1g : Code := (Try.f125.body).getD .skip
def y1h (ρ : Type) (k : Nat) : Nat → Ev ρ → Ev ρ := fun _ _ _ _ => none
def y1i (a : List Int × Int) : List Arg := [.one (.sl (.int .u8) a.1), .one (.int .i64 a.2)]
def y1j (l : List Arg) : Option (List Int × Int) := match l with
  | [.one (.sl (.int .u8) b0), .one (.int .i64 b1)] => some (b0, b1)
  | _ => none
def y1k (r : Int) : Out := (.r [] (.int .i64 r), [])
def y1l (o : Out) : Option (Int) := match o with
  | (.r [] (.int .i64 z1), []) => some z1
  | _ => none
def y1m (k : Nat) : PG := fun _ l K => (y1j l).bind fun a => (S_l01Size k a.1 a.2).bind fun r => K (y1k r)
theorem y1n (k : Nat) (a : List Int × Int) : ev (y1e k) (y1h (Int) k) 0 y1g (st0 Try.f125 (y1i a)) (fin Try.prog Try.f125 (.sc) y1l) = S_l01Size k a.1 a.2 := by kernel_rfl
theorem y1o (k : Nat) : PureOk Try.prog 125 (y1m k) :=
  pureOk_of_ev (y1f k) Try.func125 (by kernel_rfl) (by kernel_rfl) y1i y1j
    (fun l a h => by unfold y1j at h; split at h <;> first | (cases h; rfl) | cases h) (fun a => rfl) (lpgood_none (by kernel_rfl))
    (fun o r h => by unfold y1l at h; split at h <;> first | (cases h; rfl) | cases h) (y1n k)
def y1p (k : Nat) : Orc := pureOrc [.one (.sl (.int .u8)), .one (.int .i64)] (y1m k)
theorem y1q (k : Nat) : OrcOk Try.prog 125 (y1p k) := pureOrc_ok (y1o k)
noncomputable def y1r (k : Nat) : Env := { P := Try.prog, tt := tt, orc := fun g => noOrc }
theorem y1s (k : Nat) : EnvOk (y1r k) := fun g => (noOrc_ok _ _)
noncomputable def y1t : Code := (Try.f190.body).getD .skip
def y1u (ρ : Type) (k : Nat) : Nat → Ev ρ → Ev ρ := fun _ _ _ _ => none
def y1v (a : List Int × Int × Int) : List SV := [.ptr 0 0 0]
def y1w (a : List Int × Int × Int) : List Blk := [.box [.r [] (.sl (.int .u8) a.1), .r [] (.int .i64 a.2.1), .r [] (.int .i64 a.2.2)]]
def y1x (l : List SV) (b : List Blk) : Option (List Int × Int × Int) := match l, b with
  | [.ptr 0 0 0], [.box [.r [] (.sl (.int .u8) w0), .r [] (.int .i64 w1), .r [] (.int .i64 w2)]] => some (w0, w1, w2)
  | _, _ => none
def y1y (a : List Int × Int × Int) (r : Int × Int × Int) : MOut := ⟨.r [] (.int .i64 r.1), [some (.box [.r [] (.sl (.int .u8) a.1), .r [] (.int .i64 r.2.1), .r [] (.int .i64 r.2.2)])], []⟩
def y1z (a : List Int × Int × Int) (o : MOut) : Option (Int × Int × Int) := match o with
  | ⟨.r [] (.int .i64 z1), [some (.box [.r [] (.sl (.int .u8) z2), .r [] (.int .i64 z3), .r [] (.int .i64 z4)])], []⟩ => cond (@sameL (List Int) _ z2 a.1) (some (z1, z3, z4)) none
  | _ => none
def y21 (k : Nat) : MG := fun _ l b K => (y1x l b).bind fun a => (S_l01Byte_m k a.1 a.2.1 a.2.2).bind fun r => K (y1y a r)
theorem y22 (k : Nat) (a : List Int × Int × Int) : ev (y1r k) (y1u (Int × Int × Int) k) 0 y1t (st0M Try.f190 (y1v a) (y1w a)) (finM Try.prog Try.f190 (.sc) [.box [.ro (.int .u8), .sc, .sc]] (y1z a)) = S_l01Byte_m k a.1 a.2.1 a.2.2 := by kernel_rfl
theorem y23 (k : Nat) : MutOk Try.prog 190 (y21 k) :=
  mutOk_of_ev (y1s k) Try.func190 (by kernel_rfl) (by kernel_rfl) y1v y1w y1x
    (fun l b a h => by unfold y1x at h; split at h <;> first | (cases h; exact ⟨rfl, rfl⟩) | cases h) (fun a => rfl) (lpgood_none (by kernel_rfl)) (fun a r => rfl)
    (fun a o r h => by unfold y1z at h; split at h <;> first | (obtain ⟨e0, hq⟩ := dec_chk1 h; clear h; subst e0; have h := hq; clear hq; cases h; rfl) | cases h) (y22 k)
def y24 (k : Nat) : Orc := mutOrc [.keep] (y21 k)
theorem y25 (k : Nat) : OrcOk Try.prog 190 (y24 k) := mutOrc_ok (y23 k)
noncomputable def y26 (k : Nat) : Env := { P := Try.prog, tt := tt, orc := fun g => cond (Nat.beq g 190) (y24 k) (noOrc), wr := fun g => mem g [190], wt := true }
theorem y27 (k : Nat) : EnvOk (y26 k) := fun g => (orc_cond (y25 k) (noOrc_ok _ _))
noncomputable def y29 : Code := (Try.f109.body).getD .skip
def y2a (ρ : Type) (k : Nat) : Nat → Ev ρ → Ev ρ := fun _ _ _ _ => none
def y2b (a : List Int × Int × Int × Int) : List SV := [.ptr 0 0 0, .r [] (.int .i64 a.2.2.2)]
def y2c (a : List Int × Int × Int × Int) : List Blk := [.box [.r [] (.sl (.int .u8) a.1), .r [] (.int .i64 a.2.1), .r [] (.int .i64 a.2.2.1)]]
def y2d (l : List SV) (b : List Blk) : Option (List Int × Int × Int × Int) := match l, b with
  | [.ptr 0 0 0, .r [] (.int .i64 w0)], [.box [.r [] (.sl (.int .u8) w1), .r [] (.int .i64 w2), .r [] (.int .i64 w3)]] => some (w1, w2, w3, w0)
  | _, _ => none
def y2e (a : List Int × Int × Int × Int) (r : Int × Int × Int) : MOut := ⟨.r [] (.int .i64 r.1), [some (.box [.r [] (.sl (.int .u8) a.1), .r [] (.int .i64 r.2.1), .r [] (.int .i64 r.2.2)])], []⟩
def y2f (a : List Int × Int × Int × Int) (o : MOut) : Option (Int × Int × Int) := match o with
  | ⟨.r [] (.int .i64 z1), [some (.box [.r [] (.sl (.int .u8) z2), .r [] (.int .i64 z3), .r [] (.int .i64 z4)])], []⟩ => cond (@sameL (List Int) _ z2 a.1) (some (z1, z3, z4)) none
  | _ => none
def y2g (k : Nat) : MG := fun _ l b K => (y2d l b).bind fun a => (S_l01Below_m k a.1 a.2.1 a.2.2.1 a.2.2.2).bind fun r => K (y2e a r)
theorem y2h (k : Nat) (a : List Int × Int × Int × Int) : ev (y26 k) (y2a (Int × Int × Int) k) 0 y29 (st0M Try.f109 (y2b a) (y2c a)) (finM Try.prog Try.f109 (.sc) [.box [.ro (.int .u8), .sc, .sc]] (y2f a)) = S_l01Below_m k a.1 a.2.1 a.2.2.1 a.2.2.2 := by kernel_rfl
theorem y2i (k : Nat) : MutOk Try.prog 109 (y2g k) :=
  mutOk_of_ev (y27 k) Try.func109 (by kernel_rfl) (by kernel_rfl) y2b y2c y2d
    (fun l b a h => by unfold y2d at h; split at h <;> first | (cases h; exact ⟨rfl, rfl⟩) | cases h) (fun a => rfl) (lpgood_none (by kernel_rfl)) (fun a r => rfl)
    (fun a o r h => by unfold y2f at h; split at h <;> first | (obtain ⟨e0, hq⟩ := dec_chk1 h; clear h; subst e0; have h := hq; clear hq; cases h; rfl) | cases h) (y2h k)
def y2j (k : Nat) : Orc := mutOrc [.keep, .one (.int .i64)] (y2g k)
theorem y2k (k : Nat) : OrcOk Try.prog 109 (y2j k) := mutOrc_ok (y2i k)
noncomputable def y2l (k : Nat) : Env := { P := Try.prog, tt := tt, orc := fun g => cond (Nat.beq g 109) (y2j k) (noOrc), wr := fun g => mem g [109], wt := true }
theorem y2m (k : Nat) : EnvOk (y2l k) := fun g => (orc_cond (y2k k) (noOrc_ok _ _))
noncomputable def y2n : Code := (Try.f110.body).getD .skip
def y2o (ρ : Type) (k : Nat) : Nat → Ev ρ → Ev ρ := fun _ _ _ _ => none
def y2p (a : List Int × Int × Int × Int) : List SV := [.ptr 0 0 0, .r [] (.int .i64 a.2.2.2)]
def y2q (a : List Int × Int × Int × Int) : List Blk := [.box [.r [] (.sl (.int .u8) a.1), .r [] (.int .i64 a.2.1), .r [] (.int .i64 a.2.2.1)]]
def y2r (l : List SV) (b : List Blk) : Option (List Int × Int × Int × Int) := match l, b with
  | [.ptr 0 0 0, .r [] (.int .i64 w0)], [.box [.r [] (.sl (.int .u8) w1), .r [] (.int .i64 w2), .r [] (.int .i64 w3)]] => some (w1, w2, w3, w0)
  | _, _ => none
def y2s (a : List Int × Int × Int × Int) (r : Bool × Int × Int) : MOut := ⟨.r [] (.bool r.1), [some (.box [.r [] (.sl (.int .u8) a.1), .r [] (.int .i64 r.2.1), .r [] (.int .i64 r.2.2)])], []⟩
def y2t (a : List Int × Int × Int × Int) (o : MOut) : Option (Bool × Int × Int) := match o with
  | ⟨.r [] (.bool z1), [some (.box [.r [] (.sl (.int .u8) z2), .r [] (.int .i64 z3), .r [] (.int .i64 z4)])], []⟩ => cond (@sameL (List Int) _ z2 a.1) (some (z1, z3, z4)) none
  | _ => none
def y2u (k : Nat) : MG := fun _ l b K => (y2r l b).bind fun a => (S_l01Once_m k a.1 a.2.1 a.2.2.1 a.2.2.2).bind fun r => K (y2s a r)
theorem y2v (k : Nat) (a : List Int × Int × Int × Int) : ev (y2l k) (y2o (Bool × Int × Int) k) 0 y2n (st0M Try.f110 (y2p a) (y2q a)) (finM Try.prog Try.f110 (.sc) [.box [.ro (.int .u8), .sc, .sc]] (y2t a)) = S_l01Once_m k a.1 a.2.1 a.2.2.1 a.2.2.2 := by kernel_rfl
theorem y2w (k : Nat) : MutOk Try.prog 110 (y2u k) :=
  mutOk_of_ev (y2m k) Try.func110 (by kernel_rfl) (by kernel_rfl) y2p y2q y2r
    (fun l b a h => by unfold y2r at h; split at h <;> first | (cases h; exact ⟨rfl, rfl⟩) | cases h) (fun a => rfl) (lpgood_none (by kernel_rfl)) (fun a r => rfl)
    (fun a o r h => by unfold y2t at h; split at h <;> first | (obtain ⟨e0, hq⟩ := dec_chk1 h; clear h; subst e0; have h := hq; clear hq; cases h; rfl) | cases h) (y2v k)
def y2x (k : Nat) : Orc := mutOrc [.keep, .one (.int .i64)] (y2u k)
theorem y2y (k : Nat) : OrcOk Try.prog 110 (y2x k) := mutOrc_ok (y2w k)
noncomputable def y2z (k : Nat) : Env := { P := Try.prog, tt := tt, orc := fun g => cond (Nat.beq g 109) (y2j k) (noOrc), wr := fun g => mem g [109], wt := true }
theorem y31 (k : Nat) : EnvOk (y2z k) := fun g => (orc_cond (y2k k) (noOrc_ok _ _))
noncomputable def y32 : Code := (Try.f111.body).getD .skip
def y33 (ρ : Type) (k : Nat) : Nat → Ev ρ → Ev ρ := fun _ _ _ _ => none
def y34 (a : List Int × Int × Int × List Int) : List SV := [.ptr 0 0 0, .r [] (.sl (.int .i64) a.2.2.2)]
def y35 (a : List Int × Int × Int × List Int) : List Blk := [.box [.r [] (.sl (.int .u8) a.1), .r [] (.int .i64 a.2.1), .r [] (.int .i64 a.2.2.1)]]
def y36 (l : List SV) (b : List Blk) : Option (List Int × Int × Int × List Int) := match l, b with
  | [.ptr 0 0 0, .r [] (.sl (.int .i64) w0)], [.box [.r [] (.sl (.int .u8) w1), .r [] (.int .i64 w2), .r [] (.int .i64 w3)]] => some (w1, w2, w3, w0)
  | _, _ => none
def y37 (a : List Int × Int × Int × List Int) (r : Int × Int × Int) : MOut := ⟨.r [] (.int .i64 r.1), [some (.box [.r [] (.sl (.int .u8) a.1), .r [] (.int .i64 r.2.1), .r [] (.int .i64 r.2.2)])], []⟩
def y38 (a : List Int × Int × Int × List Int) (o : MOut) : Option (Int × Int × Int) := match o with
  | ⟨.r [] (.int .i64 z1), [some (.box [.r [] (.sl (.int .u8) z2), .r [] (.int .i64 z3), .r [] (.int .i64 z4)])], []⟩ => cond (@sameL (List Int) _ z2 a.1) (some (z1, z3, z4)) none
  | _ => none
def y39 (k : Nat) : MG := fun _ l b K => (y36 l b).bind fun a => (S_l01PickInt_m k a.1 a.2.1 a.2.2.1 a.2.2.2).bind fun r => K (y37 a r)
theorem y3a (k : Nat) (a : List Int × Int × Int × List Int) : ev (y2z k) (y33 (Int × Int × Int) k) 0 y32 (st0M Try.f111 (y34 a) (y35 a)) (finM Try.prog Try.f111 (.sc) [.box [.ro (.int .u8), .sc, .sc]] (y38 a)) = S_l01PickInt_m k a.1 a.2.1 a.2.2.1 a.2.2.2 := by kernel_rfl
theorem y3b (k : Nat) : MutOk Try.prog 111 (y39 k) :=
  mutOk_of_ev (y31 k) Try.func111 (by kernel_rfl) (by kernel_rfl) y34 y35 y36
    (fun l b a h => by unfold y36 at h; split at h <;> first | (cases h; exact ⟨rfl, rfl⟩) | cases h) (fun a => rfl) (lpgood_none (by kernel_rfl)) (fun a r => rfl)
    (fun a o r h => by unfold y38 at h; split at h <;> first | (obtain ⟨e0, hq⟩ := dec_chk1 h; clear h; subst e0; have h := hq; clear hq; cases h; rfl) | cases h) (y3a k)
def y3c (k : Nat) : Orc := mutOrc [.keep, .one (.sl (.int .i64))] (y39 k)
theorem y3d (k : Nat) : OrcOk Try.prog 111 (y3c k) := mutOrc_ok (y3b k)
noncomputable def y3e (k : Nat) : Env := { P := Try.prog, tt := tt, orc := fun g => cond (Nat.beq g 109) (y2j k) (cond (Nat.beq g 110) (y2x k) (cond (Nat.beq g 111) (y3c k) (noOrc))), wr := fun g => mem g [109, 110, 111], wt := true, fz := fun r => cond (Nat.beq r 3) [(true, 5, [])] (cond (Nat.beq r 29) [(false, 8, [])] ([])) }
theorem y3f (k : Nat) : EnvOk (y3e k) := fun g => (orc_cond (y2k k) (orc_cond (y2y k) (orc_cond (y3d k) (noOrc_ok _ _))))
noncomputable def y3g : Code := (Try.f126.body).getD .skip
noncomputable def y3h : Code := ((loopsIn 0 y3g).getD 0 (0, .skip)).2
noncomputable def y3i : Code := ((loopsIn 0 y3h).getD 0 (0, .skip)).2
def y3j : List Nat := [0, 1, 5, 6, 7, 8, 9]
def y3k : List (Where × Co) := []
def y3l : Ex → List Nat
  | .exit j => cond (Nat.beq j 3) [0, 1, 5, 6, 7, 8] []
  | .ret => []
  | .normal => []
def y3m : Ex → List (Where × Co)
  | .exit j => cond (Nat.beq j 3) [] []
  | .ret => []
  | .normal => []
def y3n (pv : (Int × Int × Int × List Int × List (List Int)) × (Int × Int × Int × List Int)) : St := { slots := [(0, .ptr 0 0 0), (1, .r [] (.int .i64 pv.1.1)), (5, .own 1), (6, .r [] (.int .i64 pv.1.2.1)), (7, .r [] (.int .i64 pv.1.2.2.1)), (8, .own 2), (9, .r [] (.int .i64 pv.2.1))], heap := [(0, .box [.r [] (.sl (.int .u8) pv.1.2.2.2.1), .r [] (.int .i64 pv.2.2.1), .r [] (.int .i64 pv.2.2.2.1)]), (1, .arr (some []) (.sl (.int .i64)) pv.1.2.2.2.2), (2, .arr none (.int .i64) pv.2.2.2.2)], nid := 3, n := 95, gh := [some 0] }
def y3o (nf : NF) : Option ((Int × Int × Int × List Int × List (List Int)) × (Int × Int × Int × List Int)) := match nf with
  | ([.ptr 0 0 0, .r [] (.int .i64 w0), .own 1, .r [] (.int .i64 w1), .r [] (.int .i64 w2), .own 2, .r [] (.int .i64 w3)], [.box [.r [] (.sl (.int .u8) w4), .r [] (.int .i64 w5), .r [] (.int .i64 w6)], .arr (some []) (.sl (.int .i64)) w7, .arr none (.int .i64) w8], [some 0]) => some ((w0, w1, w2, w4, w7), (w3, w5, w6, w8))
  | _ => none
theorem y3p (nf : NF) (v : (Int × Int × Int × List Int × List (List Int)) × (Int × Int × Int × List Int)) (h : y3o nf = some v) : denorm y3j 95 nf = y3n v := by
  unfold y3o at h
  split at h
  · cases h; rfl
  · cases h
def y3q (p : Int × Int × Int × List Int × List (List Int)) (x : Int × Int × List Int) : St := { slots := [(0, .ptr 0 0 0), (1, .r [] (.int .i64 p.1)), (5, .own 1), (6, .r [] (.int .i64 p.2.1)), (7, .r [] (.int .i64 p.2.2.1)), (8, .own 2)], heap := [(0, .box [.r [] (.sl (.int .u8) p.2.2.2.1), .r [] (.int .i64 x.1), .r [] (.int .i64 x.2.1)]), (1, .arr (some []) (.sl (.int .i64)) p.2.2.2.2), (2, .arr none (.int .i64) x.2.2)], nid := 3, n := 95, gh := [some 0] }
def y3r : List Nat := [0, 1, 5, 6, 7]
def y3s : List (Where × Co) := []
def y3t : Ex → List Nat
  | .exit j => cond (Nat.beq j 0) [5] []
  | .ret => []
  | .normal => []
def y3u : Ex → List (Where × Co)
  | .exit j => cond (Nat.beq j 0) [] []
  | .ret => []
  | .normal => []
def y3v (pv : (Int × List Int) × (Int × Int × Int × Int × List (List Int))) : St := { slots := [(0, .ptr 0 0 0), (1, .r [] (.int .i64 pv.1.1)), (5, .own 1), (6, .r [] (.int .i64 pv.2.1)), (7, .r [] (.int .i64 pv.2.2.1))], heap := [(0, .box [.r [] (.sl (.int .u8) pv.1.2), .r [] (.int .i64 pv.2.2.2.1), .r [] (.int .i64 pv.2.2.2.2.1)]), (1, .arr (some []) (.sl (.int .i64)) pv.2.2.2.2.2)], nid := 2, n := 95, gh := [some 0] }
def y3w (nf : NF) : Option ((Int × List Int) × (Int × Int × Int × Int × List (List Int))) := match nf with
  | ([.ptr 0 0 0, .r [] (.int .i64 w0), .own 1, .r [] (.int .i64 w1), .r [] (.int .i64 w2)], [.box [.r [] (.sl (.int .u8) w3), .r [] (.int .i64 w4), .r [] (.int .i64 w5)], .arr (some []) (.sl (.int .i64)) w6], [some 0]) => some ((w0, w3), (w1, w2, w4, w5, w6))
  | _ => none
theorem y3x (nf : NF) (v : (Int × List Int) × (Int × Int × Int × Int × List (List Int))) (h : y3w nf = some v) : denorm y3r 95 nf = y3v v := by
  unfold y3w at h
  split at h
  · cases h; rfl
  · cases h
def y3y (p : Int × List Int) (x : List (List Int) × Int × Int) : St := { slots := [(5, .own 0)], heap := [(0, .arr (some []) (.sl (.int .i64)) x.1), (1, .box [.r [] (.sl (.int .u8) p.2), .r [] (.int .i64 x.2.1), .r [] (.int .i64 x.2.2)])], nid := 2, n := 95, gh := [some 1] }
def y3z (ρ : Type) (k : Nat) : Nat → Ev ρ → Ev ρ := fun id f => cond (Nat.beq id 0) (loopOrc y3r y3s (fun n nf => cond (Nat.beq n 95) (y3w nf) none) fun pv K => iter (fun v next => S_l07DrawOps_m_g0 k pv.1 v next (fun x => K (.exit 0) (y3y pv.1 x))) k pv.2) ((fun id f => cond (Nat.beq id 3) (loopOrc y3j y3k (fun n nf => cond (Nat.beq n 95) (y3o nf) none) fun pv K => iter (fun v next => S_l07DrawOps_m_g1 k pv.1 v next (fun x => K (.exit 3) (y3q pv.1 x))) k pv.2) ((fun _ _ _ _ => none) id f)) id f)
theorem y40 {ρ : Type} (k : Nat) (p : Int × Int × Int × List Int × List (List Int)) (v : Int × Int × Int × List Int) (K K1 : Ex → St → Option ρ) : ev (y3e k) (y3z ρ k) 3 y3i (y3n (p, v)) (fun e st' => match e with
    | .normal => (normC y3j y3k st').bind fun nf => K1 .normal (denorm y3j st'.n nf)
    | e => (normC (y3l e) (y3m e) st').bind fun nf => K e (denorm (y3l e) st'.n nf)) = S_l07DrawOps_m_g1 k p v (fun v' => K1 .normal (y3n (p, v'))) (fun x => K (.exit 3) (y3q p x)) := by kernel_rfl
theorem y41 {ρ : Type} (k : Nat) : Sound Try.prog (.loop y3i) (y3z ρ k 3 fun st K => ev (y3e k) (y3z ρ k) 3 y3i st K) :=
  loop_ok (ev_sound (y3f k) y3i 3 (lpgood_none (by kernel_rfl))) y3l y3m k (g := fun p v next K => S_l07DrawOps_m_g1 k p v next (fun x => K (.exit 3) (y3q p x))) (dec_at y3p) (fun p v K K1 => y40 k p v K K1)
theorem y42 {ρ : Type} (k : Nat) (p : Int × List Int) (v : Int × Int × Int × Int × List (List Int)) (K K1 : Ex → St → Option ρ) : ev (y3e k) (y3z ρ k) 0 y3h (y3v (p, v)) (fun e st' => match e with
    | .normal => (normC y3r y3s st').bind fun nf => K1 .normal (denorm y3r st'.n nf)
    | e => (normC (y3t e) (y3u e) st').bind fun nf => K e (denorm (y3t e) st'.n nf)) = S_l07DrawOps_m_g0 k p v (fun v' => K1 .normal (y3v (p, v'))) (fun x => K (.exit 0) (y3y p x)) := by kernel_rfl
theorem y43 {ρ : Type} (k : Nat) : Sound Try.prog (.loop y3h) (y3z ρ k 0 fun st K => ev (y3e k) (y3z ρ k) 0 y3h st K) :=
  loop_ok (ev_sound (y3f k) y3h 0 (lpgood_of (l := [(3, y3i)]) (by kernel_rfl) ⟨y41 k, trivial⟩)) y3t y3u k (g := fun p v next K => S_l07DrawOps_m_g0 k p v next (fun x => K (.exit 0) (y3y p x))) (dec_at y3x) (fun p v K K1 => y42 k p v K K1)
def y44 (a : List Int × Int × Int × Int) : List SV := [.ptr 0 0 0, .r [] (.int .i64 a.2.2.2)]
def y45 (a : List Int × Int × Int × Int) : List Blk := [.box [.r [] (.sl (.int .u8) a.1), .r [] (.int .i64 a.2.1), .r [] (.int .i64 a.2.2.1)]]
def y46 (l : List SV) (b : List Blk) : Option (List Int × Int × Int × Int) := match l, b with
  | [.ptr 0 0 0, .r [] (.int .i64 w0)], [.box [.r [] (.sl (.int .u8) w1), .r [] (.int .i64 w2), .r [] (.int .i64 w3)]] => some (w1, w2, w3, w0)
  | _, _ => none
def y47 (a : List Int × Int × Int × Int) (r : List (List Int) × Int × Int) : MOut := ⟨.own 1, [some (.box [.r [] (.sl (.int .u8) a.1), .r [] (.int .i64 r.2.1), .r [] (.int .i64 r.2.2)])], [.arr (some []) (.sl (.int .i64)) r.1]⟩
def y48 (a : List Int × Int × Int × Int) (o : MOut) : Option (List (List Int) × Int × Int) := match o with
  | ⟨.own 1, [some (.box [.r [] (.sl (.int .u8) z1), .r [] (.int .i64 z2), .r [] (.int .i64 z3)])], [.arr (some []) (.sl (.int .i64)) z4]⟩ => cond (@sameL (List Int) _ z1 a.1) (some (z4, z2, z3)) none
  | _ => none
def y49 (k : Nat) : MG := fun _ l b K => (y46 l b).bind fun a => (S_l07DrawOps_m k a.1 a.2.1 a.2.2.1 a.2.2.2).bind fun r => K (y47 a r)
theorem y4a (k : Nat) (a : List Int × Int × Int × Int) : ev (y3e k) (y3z (List (List Int) × Int × Int) k) 0 y3g (st0M Try.f126 (y44 a) (y45 a)) (finM Try.prog Try.f126 (.shl (.sl (.int .i64))) [.box [.ro (.int .u8), .sc, .sc]] (y48 a)) = S_l07DrawOps_m k a.1 a.2.1 a.2.2.1 a.2.2.2 := by kernel_rfl
theorem y4b (k : Nat) : MutOk Try.prog 126 (y49 k) :=
  mutOk_of_ev (y3f k) Try.func126 (by kernel_rfl) (by kernel_rfl) y44 y45 y46
    (fun l b a h => by unfold y46 at h; split at h <;> first | (cases h; exact ⟨rfl, rfl⟩) | cases h) (fun a => rfl) (lpgood_of (l := [(0, y3h)]) (by kernel_rfl) ⟨y43 k, trivial⟩) (fun a r => rfl)
    (fun a o r h => by unfold y48 at h; split at h <;> first | (obtain ⟨e0, hq⟩ := dec_chk1 h; clear h; subst e0; have h := hq; clear hq; cases h; rfl) | cases h) (y4a k)
def y4c (k : Nat) : Orc := mutOrc [.keep, .one (.int .i64)] (y49 k)
theorem y4d (k : Nat) : OrcOk Try.prog 126 (y4c k) := mutOrc_ok (y4b k)
noncomputable def y4e (k : Nat) : Env := { P := Try.prog, tt := tt, orc := fun g => cond (Nat.beq g 109) (y2j k) (cond (Nat.beq g 110) (y2x k) (cond (Nat.beq g 111) (y3c k) (cond (Nat.beq g 124) (y1c k) (cond (Nat.beq g 125) (y1p k) (cond (Nat.beq g 126) (y4c k) (noOrc)))))), wr := fun g => mem g [109, 110, 111, 124, 126], wt := true }
theorem y4f (k : Nat) : EnvOk (y4e k) := fun g => (orc_cond (y2k k) (orc_cond (y2y k) (orc_cond (y3d k) (orc_cond (y1d k) (orc_cond (y1q k) (orc_cond (y4d k) (noOrc_ok _ _)))))))
noncomputable def y4g : Code := (Try.f36.body).getD .skip
def y4h (ρ : Type) (k : Nat) : Nat → Ev ρ → Ev ρ := fun _ _ _ _ => none
def y4i (a : List Int) : List Arg := [.one (.sl (.int .u8) a)]
def y4j (l : List Arg) : Option (List Int) := match l with
  | [.one (.sl (.int .u8) b0)] => some b0
  | _ => none
def y4k (r : Int × Int × List (List Int)) : Out := (.tup [.r [] (.int .i64 r.1), .r [] (.int .i64 r.2.1), .own 0], [.arr (some []) (.sl (.int .i64)) r.2.2])
def y4l (o : Out) : Option (Int × Int × List (List Int)) := match o with
  | (.tup [.r [] (.int .i64 z1), .r [] (.int .i64 z2), .own 0], [.arr (some []) (.sl (.int .i64)) z3]) => some (z1, z2, z3)
  | _ => none
def y4m (k : Nat) : PG := fun _ l K => (y4j l).bind fun a => (S_DrawPlaySched k a).bind fun r => K (y4k r)
theorem y4n (k : Nat) (a : List Int) : ev (y4e k) (y4h (Int × Int × List (List Int)) k) 0 y4g (st0 Try.f36 (y4i a)) (fin Try.prog Try.f36 (.tup [.sc, .sc, .shl (.sl (.int .i64))]) y4l) = S_DrawPlaySched k a := by kernel_rfl
theorem y4o (k : Nat) : PureOk Try.prog 36 (y4m k) :=
  pureOk_of_ev (y4f k) Try.func36 (by kernel_rfl) (by kernel_rfl) y4i y4j
    (fun l a h => by unfold y4j at h; split at h <;> first | (cases h; rfl) | cases h) (fun a => rfl) (lpgood_none (by kernel_rfl))
    (fun o r h => by unfold y4l at h; split at h <;> first | (cases h; rfl) | cases h) (y4n k)
def y4p (k : Nat) : Orc := pureOrc [.one (.sl (.int .u8))] (y4m k)
theorem y4q (k : Nat) : OrcOk Try.prog 36 (y4p k) := pureOrc_ok (y4o k)
noncomputable def y4r (k : Nat) : Env := { P := Try.prog, tt := tt, orc := fun g => noOrc }
theorem y4s (k : Nat) : EnvOk (y4r k) := fun g => (noOrc_ok _ _)
noncomputable def y4t : Code := (Try.f136.body).getD .skip
def y4u (ρ : Type) (k : Nat) : Nat → Ev ρ → Ev ρ := fun _ _ _ _ => none
def y4v (a : Int × Int × Int) : List Arg := [.one (.int .i64 a.1), .one (.int .i64 a.2.1), .one (.int .i64 a.2.2)]
def y4w (l : List Arg) : Option (Int × Int × Int) := match l with
  | [.one (.int .i64 b0), .one (.int .i64 b1), .one (.int .i64 b2)] => some (b0, b1, b2)
  | _ => none
def y4x (r : Bool) : Out := (.r [] (.bool r), [])
def y4y (o : Out) : Option (Bool) := match o with
  | (.r [] (.bool z1), []) => some z1
  | _ => none
def y4z (k : Nat) : PG := fun _ l K => (y4w l).bind fun a => (S_l01In k a.1 a.2.1 a.2.2).bind fun r => K (y4x r)
theorem y50 (k : Nat) (a : Int × Int × Int) : ev (y4r k) (y4u (Bool) k) 0 y4t (st0 Try.f136 (y4v a)) (fin Try.prog Try.f136 (.sc) y4y) = S_l01In k a.1 a.2.1 a.2.2 := by kernel_rfl
theorem y51 (k : Nat) : PureOk Try.prog 136 (y4z k) :=
  pureOk_of_ev (y4s k) Try.func136 (by kernel_rfl) (by kernel_rfl) y4v y4w
    (fun l a h => by unfold y4w at h; split at h <;> first | (cases h; rfl) | cases h) (fun a => rfl) (lpgood_none (by kernel_rfl))
    (fun o r h => by unfold y4y at h; split at h <;> first | (cases h; rfl) | cases h) (y50 k)
def y52 (k : Nat) : Orc := pureOrc [.one (.int .i64), .one (.int .i64), .one (.int .i64)] (y4z k)
theorem y53 (k : Nat) : OrcOk Try.prog 136 (y52 k) := pureOrc_ok (y51 k)
noncomputable def y54 (k : Nat) : Env := { P := Try.prog, tt := tt, orc := fun g => cond (Nat.beq g 136) (y52 k) (noOrc) }
theorem y55 (k : Nat) : EnvOk (y54 k) := fun g => (orc_cond (y53 k) (noOrc_ok _ _))
noncomputable def y56 : Code := (Try.f135.body).getD .skip
def y57 (ρ : Type) (k : Nat) : Nat → Ev ρ → Ev ρ := fun _ _ _ _ => none
def y58 (a : Int) : List Arg := [.one (.int .i64 a)]
def y59 (l : List Arg) : Option (Int) := match l with
  | [.one (.int .i64 b0)] => some b0
  | _ => none
def y5a (r : Bool) : Out := (.r [] (.bool r), [])
def y5b (o : Out) : Option (Bool) := match o with
  | (.r [] (.bool z1), []) => some z1
  | _ => none
def y5c (k : Nat) : PG := fun _ l K => (y59 l).bind fun a => (S_l07Tick k a).bind fun r => K (y5a r)
theorem y5d (k : Nat) (a : Int) : ev (y54 k) (y57 (Bool) k) 0 y56 (st0 Try.f135 (y58 a)) (fin Try.prog Try.f135 (.sc) y5b) = S_l07Tick k a := by kernel_rfl
theorem y5e (k : Nat) : PureOk Try.prog 135 (y5c k) :=
  pureOk_of_ev (y55 k) Try.func135 (by kernel_rfl) (by kernel_rfl) y58 y59
    (fun l a h => by unfold y59 at h; split at h <;> first | (cases h; rfl) | cases h) (fun a => rfl) (lpgood_none (by kernel_rfl))
    (fun o r h => by unfold y5b at h; split at h <;> first | (cases h; rfl) | cases h) (y5d k)
def y5f (k : Nat) : Orc := pureOrc [.one (.int .i64)] (y5c k)
theorem y5g (k : Nat) : OrcOk Try.prog 135 (y5f k) := pureOrc_ok (y5e k)
noncomputable def y5h (k : Nat) : Env := { P := Try.prog, tt := tt, orc := fun g => cond (Nat.beq g 135) (y5f k) (cond (Nat.beq g 136) (y52 k) (noOrc)) }
theorem y5i (k : Nat) : EnvOk (y5h k) := fun g => (orc_cond (y5g k) (orc_cond (y53 k) (noOrc_ok _ _)))
noncomputable def y5j : Code := (Try.f114.body).getD .skip
noncomputable def y5k : Code := ((loopsIn 0 y5j).getD 0 (0, .skip)).2
def y5l : List Nat := [1, 3]
def y5m : List (Where × Co) := []
def y5n : Ex → List Nat
  | .exit j => cond (Nat.beq j 0) [] []
  | .ret => [2]
  | .normal => []
def y5o : Ex → List (Where × Co)
  | .exit j => cond (Nat.beq j 0) [] []
  | .ret => []
  | .normal => []
def y5p (pv : (Int × List Int × Int × Int × Int) × (Int)) : St := { slots := [(1, .ptr 0 0 0), (3, .r [] (.int .i64 pv.2))], heap := [(0, .box [.r [] (.int .i64 pv.1.1), .r [] (.sl (.int .i64) pv.1.2.1), .r [] (.int .i64 pv.1.2.2.1), .r [] (.int .i64 pv.1.2.2.2.1), .r [] (.int .i64 pv.1.2.2.2.2)])], nid := 1, n := 51, gh := [] }
def y5q (nf : NF) : Option ((Int × List Int × Int × Int × Int) × (Int)) := match nf with
  | ([.ptr 0 0 0, .r [] (.int .i64 w0)], [.box [.r [] (.int .i64 w1), .r [] (.sl (.int .i64) w2), .r [] (.int .i64 w3), .r [] (.int .i64 w4), .r [] (.int .i64 w5)]], []) => some ((w1, w2, w3, w4, w5), w0)
  | _ => none
theorem y5r (nf : NF) (v : (Int × List Int × Int × Int × Int) × (Int)) (h : y5q nf = some v) : denorm y5l 51 nf = y5p v := by
  unfold y5q at h
  split at h
  · cases h; rfl
  · cases h
def y5s (p : Int × List Int × Int × Int × Int) (x : Unit) : St := { slots := [], heap := [], nid := 0, n := 51, gh := [] }
def y5t (p : Int × List Int × Int × Int × Int) (x : Bool) : St := { slots := [(2, .r [] (.bool x))], heap := [], nid := 0, n := 51, gh := [] }
def y5u (ρ : Type) (k : Nat) : Nat → Ev ρ → Ev ρ := fun id f => cond (Nat.beq id 0) (loopOrc y5l y5m (fun n nf => cond (Nat.beq n 51) (y5q nf) none) fun pv K => iter (fun v next => S_TaskOk_g0 k pv.1 v next (fun x => K (.exit 0) (y5s pv.1 x)) (fun x => K .ret (y5t pv.1 x))) k pv.2) ((fun _ _ _ _ => none) id f)
theorem y5v {ρ : Type} (k : Nat) (p : Int × List Int × Int × Int × Int) (v : Int) (K K1 : Ex → St → Option ρ) : ev (y5h k) (y5u ρ k) 0 y5k (y5p (p, v)) (fun e st' => match e with
    | .normal => (normC y5l y5m st').bind fun nf => K1 .normal (denorm y5l st'.n nf)
    | e => (normC (y5n e) (y5o e) st').bind fun nf => K e (denorm (y5n e) st'.n nf)) = S_TaskOk_g0 k p v (fun v' => K1 .normal (y5p (p, v'))) (fun x => K (.exit 0) (y5s p x)) (fun x => K .ret (y5t p x)) := by kernel_rfl
theorem y5w {ρ : Type} (k : Nat) : Sound Try.prog (.loop y5k) (y5u ρ k 0 fun st K => ev (y5h k) (y5u ρ k) 0 y5k st K) :=
  loop_ok (ev_sound (y5i k) y5k 0 (lpgood_none (by kernel_rfl))) y5n y5o k (g := fun p v next K => S_TaskOk_g0 k p v next (fun x => K (.exit 0) (y5s p x)) (fun x => K .ret (y5t p x))) (dec_at y5r) (fun p v K K1 => y5v k p v K K1)
def y5x (a : Task) : List Arg := [.agg [.int .i64 a.id, .sl (.int .i64) a.costs, .int .i64 a.at_, .int .i64 a.due, .int .i64 a.born]]
def y5y (l : List Arg) : Option (Task) := match l with
  | [.agg [.int .i64 b0_0, .sl (.int .i64) b0_1, .int .i64 b0_2, .int .i64 b0_3, .int .i64 b0_4]] => some (⟨b0_0, b0_1, b0_2, b0_3, b0_4⟩ : Task)
  | _ => none
def y5z (r : Bool) : Out := (.r [] (.bool r), [])
def y60 (o : Out) : Option (Bool) := match o with
  | (.r [] (.bool z1), []) => some z1
  | _ => none
def y61 (k : Nat) : PG := fun _ l K => (y5y l).bind fun a => (S_TaskOk k a).bind fun r => K (y5z r)
theorem y62 (k : Nat) (a : Task) : ev (y5h k) (y5u (Bool) k) 0 y5j (st0 Try.f114 (y5x a)) (fin Try.prog Try.f114 (.sc) y60) = S_TaskOk k a := by kernel_rfl
theorem y63 (k : Nat) : PureOk Try.prog 114 (y61 k) :=
  pureOk_of_ev (y5i k) Try.func114 (by kernel_rfl) (by kernel_rfl) y5x y5y
    (fun l a h => by unfold y5y at h; split at h <;> first | (cases h; rfl) | cases h) (fun a => rfl) (lpgood_of (l := [(0, y5k)]) (by kernel_rfl) ⟨y5w k, trivial⟩)
    (fun o r h => by unfold y60 at h; split at h <;> first | (cases h; rfl) | cases h) (y62 k)
def y64 (k : Nat) : Orc := pureOrc [.agg [(.int .i64), (.sl (.int .i64)), (.int .i64), (.int .i64), (.int .i64)]] (y61 k)
theorem y65 (k : Nat) : OrcOk Try.prog 114 (y64 k) := pureOrc_ok (y63 k)
noncomputable def y66 (k : Nat) : Env := { P := Try.prog, tt := tt, orc := fun g => noOrc }
theorem y67 (k : Nat) : EnvOk (y66 k) := fun g => (noOrc_ok _ _)
noncomputable def y68 : Code := (Try.f137.body).getD .skip
noncomputable def y69 : Code := ((loopsIn 0 y68).getD 0 (0, .skip)).2
def y6a : List Nat := [1, 2, 5]
def y6b : List (Where × Co) := []
def y6c : Ex → List Nat
  | .exit j => cond (Nat.beq j 0) [] []
  | .ret => [4]
  | .normal => []
def y6d : Ex → List (Where × Co)
  | .exit j => cond (Nat.beq j 0) [] []
  | .ret => []
  | .normal => []
def y6e (pv : (Int × Int × Int × Int × List Task × Int × Int × Int × Int) × (Int)) : St := { slots := [(1, .r [] (.int .i64 pv.1.1)), (2, .ptr 0 0 0), (5, .r [] (.int .i64 pv.2))], heap := [(0, .box [.r [] (.int .i64 pv.1.2.1), .r [] (.int .i64 pv.1.2.2.1), .r [] (.int .i64 pv.1.2.2.2.1), .r [] (.sl (.st .task) pv.1.2.2.2.2.1), .r [] (.int .i64 pv.1.2.2.2.2.2.1), .r [] (.int .i64 pv.1.2.2.2.2.2.2.1), .r [] (.int .i64 pv.1.2.2.2.2.2.2.2.1), .r [] (.int .i64 pv.1.2.2.2.2.2.2.2.2)])], nid := 1, n := 22, gh := [] }
def y6f (nf : NF) : Option ((Int × Int × Int × Int × List Task × Int × Int × Int × Int) × (Int)) := match nf with
  | ([.r [] (.int .i64 w0), .ptr 0 0 0, .r [] (.int .i64 w1)], [.box [.r [] (.int .i64 w2), .r [] (.int .i64 w3), .r [] (.int .i64 w4), .r [] (.sl (.st .task) w5), .r [] (.int .i64 w6), .r [] (.int .i64 w7), .r [] (.int .i64 w8), .r [] (.int .i64 w9)]], []) => some ((w0, w2, w3, w4, w5, w6, w7, w8, w9), w1)
  | _ => none
theorem y6g (nf : NF) (v : (Int × Int × Int × Int × List Task × Int × Int × Int × Int) × (Int)) (h : y6f nf = some v) : denorm y6a 22 nf = y6e v := by
  unfold y6f at h
  split at h
  · cases h; rfl
  · cases h
def y6h (p : Int × Int × Int × Int × List Task × Int × Int × Int × Int) (x : Unit) : St := { slots := [], heap := [], nid := 0, n := 22, gh := [] }
def y6i (p : Int × Int × Int × Int × List Task × Int × Int × Int × Int) (x : Int) : St := { slots := [(4, .r [] (.int .i64 x))], heap := [], nid := 0, n := 22, gh := [] }
def y6j (ρ : Type) (k : Nat) : Nat → Ev ρ → Ev ρ := fun id f => cond (Nat.beq id 0) (loopOrc y6a y6b (fun n nf => cond (Nat.beq n 22) (y6f nf) none) fun pv K => iter (fun v next => S_l07At_g0 k pv.1 v next (fun x => K (.exit 0) (y6h pv.1 x)) (fun x => K .ret (y6i pv.1 x))) k pv.2) ((fun _ _ _ _ => none) id f)
theorem y6k {ρ : Type} (k : Nat) (p : Int × Int × Int × Int × List Task × Int × Int × Int × Int) (v : Int) (K K1 : Ex → St → Option ρ) : ev (y66 k) (y6j ρ k) 0 y69 (y6e (p, v)) (fun e st' => match e with
    | .normal => (normC y6a y6b st').bind fun nf => K1 .normal (denorm y6a st'.n nf)
    | e => (normC (y6c e) (y6d e) st').bind fun nf => K e (denorm (y6c e) st'.n nf)) = S_l07At_g0 k p v (fun v' => K1 .normal (y6e (p, v'))) (fun x => K (.exit 0) (y6h p x)) (fun x => K .ret (y6i p x)) := by kernel_rfl
theorem y6l {ρ : Type} (k : Nat) : Sound Try.prog (.loop y69) (y6j ρ k 0 fun st K => ev (y66 k) (y6j ρ k) 0 y69 st K) :=
  loop_ok (ev_sound (y67 k) y69 0 (lpgood_none (by kernel_rfl))) y6c y6d k (g := fun p v next K => S_l07At_g0 k p v next (fun x => K (.exit 0) (y6h p x)) (fun x => K .ret (y6i p x))) (dec_at y6g) (fun p v K K1 => y6k k p v K K1)
def y6m (a : Sched × Int) : List Arg := [.agg [.int .i64 a.1.now, .int .i64 a.1.slack, .int .i64 a.1.age, .sl (.st .task) a.1.tasks, .int .i64 a.1.run, .int .i64 a.1.left, .int .i64 a.1.turns, .int .i64 a.1.next], .one (.int .i64 a.2)]
def y6n (l : List Arg) : Option (Sched × Int) := match l with
  | [.agg [.int .i64 b0_0, .int .i64 b0_1, .int .i64 b0_2, .sl (.st .task) b0_3, .int .i64 b0_4, .int .i64 b0_5, .int .i64 b0_6, .int .i64 b0_7], .one (.int .i64 b1)] => some ((⟨b0_0, b0_1, b0_2, b0_3, b0_4, b0_5, b0_6, b0_7⟩ : Sched), b1)
  | _ => none
def y6o (r : Int) : Out := (.r [] (.int .i64 r), [])
def y6p (o : Out) : Option (Int) := match o with
  | (.r [] (.int .i64 z1), []) => some z1
  | _ => none
def y6q (k : Nat) : PG := fun _ l K => (y6n l).bind fun a => (S_l07At k a.1 a.2).bind fun r => K (y6o r)
theorem y6r (k : Nat) (a : Sched × Int) : ev (y66 k) (y6j (Int) k) 0 y68 (st0 Try.f137 (y6m a)) (fin Try.prog Try.f137 (.sc) y6p) = S_l07At k a.1 a.2 := by kernel_rfl
theorem y6s (k : Nat) : PureOk Try.prog 137 (y6q k) :=
  pureOk_of_ev (y67 k) Try.func137 (by kernel_rfl) (by kernel_rfl) y6m y6n
    (fun l a h => by unfold y6n at h; split at h <;> first | (cases h; rfl) | cases h) (fun a => rfl) (lpgood_of (l := [(0, y69)]) (by kernel_rfl) ⟨y6l k, trivial⟩)
    (fun o r h => by unfold y6p at h; split at h <;> first | (cases h; rfl) | cases h) (y6r k)
def y6t (k : Nat) : Orc := pureOrc [.agg [(.int .i64), (.int .i64), (.int .i64), (.sl (.st .task)), (.int .i64), (.int .i64), (.int .i64), (.int .i64)], .one (.int .i64)] (y6q k)
theorem y6u (k : Nat) : OrcOk Try.prog 137 (y6t k) := pureOrc_ok (y6s k)
noncomputable def y6v (k : Nat) : Env := { P := Try.prog, tt := tt, orc := fun g => cond (Nat.beq g 114) (y64 k) (cond (Nat.beq g 135) (y5f k) (cond (Nat.beq g 136) (y52 k) (cond (Nat.beq g 137) (y6t k) (noOrc)))) }
theorem y6w (k : Nat) : EnvOk (y6v k) := fun g => (orc_cond (y65 k) (orc_cond (y5g k) (orc_cond (y53 k) (orc_cond (y6u k) (noOrc_ok _ _)))))
noncomputable def y6x : Code := (Try.f41.body).getD .skip
noncomputable def y6y : Code := ((loopsIn 0 y6x).getD 0 (0, .skip)).2
def y6z : List Nat := [1, 3]
def y70 : List (Where × Co) := []
def y71 : Ex → List Nat
  | .exit j => cond (Nat.beq j 0) [1] []
  | .ret => [2]
  | .normal => []
def y72 : Ex → List (Where × Co)
  | .exit j => cond (Nat.beq j 0) [] []
  | .ret => []
  | .normal => []
def y73 (pv : (Int × Int × Int × List Task × Int × Int × Int × Int) × (Int)) : St := { slots := [(1, .ptr 0 0 0), (3, .r [] (.int .i64 pv.2))], heap := [(0, .box [.r [] (.int .i64 pv.1.1), .r [] (.int .i64 pv.1.2.1), .r [] (.int .i64 pv.1.2.2.1), .r [] (.sl (.st .task) pv.1.2.2.2.1), .r [] (.int .i64 pv.1.2.2.2.2.1), .r [] (.int .i64 pv.1.2.2.2.2.2.1), .r [] (.int .i64 pv.1.2.2.2.2.2.2.1), .r [] (.int .i64 pv.1.2.2.2.2.2.2.2)])], nid := 1, n := 116, gh := [] }
def y74 (nf : NF) : Option ((Int × Int × Int × List Task × Int × Int × Int × Int) × (Int)) := match nf with
  | ([.ptr 0 0 0, .r [] (.int .i64 w0)], [.box [.r [] (.int .i64 w1), .r [] (.int .i64 w2), .r [] (.int .i64 w3), .r [] (.sl (.st .task) w4), .r [] (.int .i64 w5), .r [] (.int .i64 w6), .r [] (.int .i64 w7), .r [] (.int .i64 w8)]], []) => some ((w1, w2, w3, w4, w5, w6, w7, w8), w0)
  | _ => none
theorem y75 (nf : NF) (v : (Int × Int × Int × List Task × Int × Int × Int × Int) × (Int)) (h : y74 nf = some v) : denorm y6z 116 nf = y73 v := by
  unfold y74 at h
  split at h
  · cases h; rfl
  · cases h
def y76 (p : Int × Int × Int × List Task × Int × Int × Int × Int) (x : Unit) : St := { slots := [(1, .ptr 0 0 0)], heap := [(0, .box [.r [] (.int .i64 p.1), .r [] (.int .i64 p.2.1), .r [] (.int .i64 p.2.2.1), .r [] (.sl (.st .task) p.2.2.2.1), .r [] (.int .i64 p.2.2.2.2.1), .r [] (.int .i64 p.2.2.2.2.2.1), .r [] (.int .i64 p.2.2.2.2.2.2.1), .r [] (.int .i64 p.2.2.2.2.2.2.2)])], nid := 1, n := 116, gh := [] }
def y77 (p : Int × Int × Int × List Task × Int × Int × Int × Int) (x : Bool) : St := { slots := [(2, .r [] (.bool x))], heap := [], nid := 0, n := 116, gh := [] }
def y78 (ρ : Type) (k : Nat) : Nat → Ev ρ → Ev ρ := fun id f => cond (Nat.beq id 0) (loopOrc y6z y70 (fun n nf => cond (Nat.beq n 116) (y74 nf) none) fun pv K => iter (fun v next => S_SchedOk_g0 k pv.1 v next (fun x => K (.exit 0) (y76 pv.1 x)) (fun x => K .ret (y77 pv.1 x))) k pv.2) ((fun _ _ _ _ => none) id f)
theorem y79 {ρ : Type} (k : Nat) (p : Int × Int × Int × List Task × Int × Int × Int × Int) (v : Int) (K K1 : Ex → St → Option ρ) : ev (y6v k) (y78 ρ k) 0 y6y (y73 (p, v)) (fun e st' => match e with
    | .normal => (normC y6z y70 st').bind fun nf => K1 .normal (denorm y6z st'.n nf)
    | e => (normC (y71 e) (y72 e) st').bind fun nf => K e (denorm (y71 e) st'.n nf)) = S_SchedOk_g0 k p v (fun v' => K1 .normal (y73 (p, v'))) (fun x => K (.exit 0) (y76 p x)) (fun x => K .ret (y77 p x)) := by kernel_rfl
theorem y7a {ρ : Type} (k : Nat) : Sound Try.prog (.loop y6y) (y78 ρ k 0 fun st K => ev (y6v k) (y78 ρ k) 0 y6y st K) :=
  loop_ok (ev_sound (y6w k) y6y 0 (lpgood_none (by kernel_rfl))) y71 y72 k (g := fun p v next K => S_SchedOk_g0 k p v next (fun x => K (.exit 0) (y76 p x)) (fun x => K .ret (y77 p x))) (dec_at y75) (fun p v K K1 => y79 k p v K K1)
def y7b (a : Sched) : List Arg := [.agg [.int .i64 a.now, .int .i64 a.slack, .int .i64 a.age, .sl (.st .task) a.tasks, .int .i64 a.run, .int .i64 a.left, .int .i64 a.turns, .int .i64 a.next]]
def y7c (l : List Arg) : Option (Sched) := match l with
  | [.agg [.int .i64 b0_0, .int .i64 b0_1, .int .i64 b0_2, .sl (.st .task) b0_3, .int .i64 b0_4, .int .i64 b0_5, .int .i64 b0_6, .int .i64 b0_7]] => some (⟨b0_0, b0_1, b0_2, b0_3, b0_4, b0_5, b0_6, b0_7⟩ : Sched)
  | _ => none
def y7d (r : Bool) : Out := (.r [] (.bool r), [])
def y7e (o : Out) : Option (Bool) := match o with
  | (.r [] (.bool z1), []) => some z1
  | _ => none
def y7f (k : Nat) : PG := fun _ l K => (y7c l).bind fun a => (S_SchedOk k a).bind fun r => K (y7d r)
theorem y7g (k : Nat) (a : Sched) : ev (y6v k) (y78 (Bool) k) 0 y6x (st0 Try.f41 (y7b a)) (fin Try.prog Try.f41 (.sc) y7e) = S_SchedOk k a := by kernel_rfl
theorem y7h (k : Nat) : PureOk Try.prog 41 (y7f k) :=
  pureOk_of_ev (y6w k) Try.func41 (by kernel_rfl) (by kernel_rfl) y7b y7c
    (fun l a h => by unfold y7c at h; split at h <;> first | (cases h; rfl) | cases h) (fun a => rfl) (lpgood_of (l := [(0, y6y)]) (by kernel_rfl) ⟨y7a k, trivial⟩)
    (fun o r h => by unfold y7e at h; split at h <;> first | (cases h; rfl) | cases h) (y7g k)
def y7i (k : Nat) : Orc := pureOrc [.agg [(.int .i64), (.int .i64), (.int .i64), (.sl (.st .task)), (.int .i64), (.int .i64), (.int .i64), (.int .i64)]] (y7f k)
theorem y7j (k : Nat) : OrcOk Try.prog 41 (y7i k) := pureOrc_ok (y7h k)
noncomputable def y7k (k : Nat) : Env := { P := Try.prog, tt := tt, orc := fun g => cond (Nat.beq g 41) (y7i k) (noOrc) }
theorem y7l (k : Nat) : EnvOk (y7k k) := fun g => (orc_cond (y7j k) (noOrc_ok _ _))
noncomputable def y7m : Code := (Try.f127.body).getD .skip
def y7n (ρ : Type) (k : Nat) : Nat → Ev ρ → Ev ρ := fun _ _ _ _ => none
def y7o (a : Int × Int) : List Arg := [.one (.int .i64 a.1), .one (.int .i64 a.2)]
def y7p (l : List Arg) : Option (Int × Int) := match l with
  | [.one (.int .i64 b0), .one (.int .i64 b1)] => some (b0, b1)
  | _ => none
def y7q (r : Sched × Bool) : Out := (.tup [.agg [.r [] (.int .i64 r.1.now), .r [] (.int .i64 r.1.slack), .r [] (.int .i64 r.1.age), .own 0, .r [] (.int .i64 r.1.run), .r [] (.int .i64 r.1.left), .r [] (.int .i64 r.1.turns), .r [] (.int .i64 r.1.next)], .r [] (.bool r.2)], [.arr none (.st .task) r.1.tasks])
def y7r (o : Out) : Option (Sched × Bool) := match o with
  | (.tup [.agg [.r [] (.int .i64 z1), .r [] (.int .i64 z2), .r [] (.int .i64 z3), .own 0, .r [] (.int .i64 z5), .r [] (.int .i64 z6), .r [] (.int .i64 z7), .r [] (.int .i64 z8)], .r [] (.bool z9)], [.arr none (.st .task) z4]) => some ((⟨z1, z2, z3, z4, z5, z6, z7, z8⟩ : Sched), z9)
  | _ => none
def y7s (k : Nat) : PG := fun _ l K => (y7p l).bind fun a => (S_NewSched k a.1 a.2).bind fun r => K (y7q r)
theorem y7t (k : Nat) (a : Int × Int) : ev (y7k k) (y7n (Sched × Bool) k) 0 y7m (st0 Try.f127 (y7o a)) (fin Try.prog Try.f127 (.tup [.agg [.sc, .sc, .sc, .own (.st .task), .sc, .sc, .sc, .sc], .sc]) y7r) = S_NewSched k a.1 a.2 := by kernel_rfl
theorem y7u (k : Nat) : PureOk Try.prog 127 (y7s k) :=
  pureOk_of_ev (y7l k) Try.func127 (by kernel_rfl) (by kernel_rfl) y7o y7p
    (fun l a h => by unfold y7p at h; split at h <;> first | (cases h; rfl) | cases h) (fun a => rfl) (lpgood_none (by kernel_rfl))
    (fun o r h => by unfold y7r at h; split at h <;> first | (cases h; rfl) | cases h) (y7t k)
def y7v (k : Nat) : Orc := pureOrc [.one (.int .i64), .one (.int .i64)] (y7s k)
theorem y7w (k : Nat) : OrcOk Try.prog 127 (y7v k) := pureOrc_ok (y7u k)
noncomputable def y7x (k : Nat) : Env := { P := Try.prog, tt := tt, orc := fun g => noOrc }
theorem y7y (k : Nat) : EnvOk (y7x k) := fun g => (noOrc_ok _ _)
noncomputable def y7z : Code := (Try.f113.body).getD .skip
noncomputable def y80 : Code := ((loopsIn 0 y7z).getD 0 (0, .skip)).2
def y81 : List Nat := [0, 3, 4]
def y82 : List (Where × Co) := []
def y83 : Ex → List Nat
  | .exit j => cond (Nat.beq j 0) [3] []
  | .ret => []
  | .normal => []
def y84 : Ex → List (Where × Co)
  | .exit j => cond (Nat.beq j 0) [] []
  | .ret => []
  | .normal => []
def y85 (pv : (List Int) × (Int × List Int)) : St := { slots := [(0, .r [] (.sl (.int .i64) pv.1)), (3, .own 0), (4, .r [] (.int .i64 pv.2.1))], heap := [(0, .arr none (.int .i64) pv.2.2)], nid := 1, n := 20, gh := [] }
def y86 (nf : NF) : Option ((List Int) × (Int × List Int)) := match nf with
  | ([.r [] (.sl (.int .i64) w0), .own 0, .r [] (.int .i64 w1)], [.arr none (.int .i64) w2], []) => some (w0, (w1, w2))
  | _ => none
theorem y87 (nf : NF) (v : (List Int) × (Int × List Int)) (h : y86 nf = some v) : denorm y81 20 nf = y85 v := by
  unfold y86 at h
  split at h
  · cases h; rfl
  · cases h
def y88 (p : List Int) (x : List Int) : St := { slots := [(3, .own 0)], heap := [(0, .arr none (.int .i64) x)], nid := 1, n := 20, gh := [] }
def y89 (ρ : Type) (k : Nat) : Nat → Ev ρ → Ev ρ := fun id f => cond (Nat.beq id 0) (loopOrc y81 y82 (fun n nf => cond (Nat.beq n 20) (y86 nf) none) fun pv K => iter (fun v next => S_l01Copy_g0 k pv.1 v next (fun x => K (.exit 0) (y88 pv.1 x))) k pv.2) ((fun _ _ _ _ => none) id f)
theorem y8a {ρ : Type} (k : Nat) (p : List Int) (v : Int × List Int) (K K1 : Ex → St → Option ρ) : ev (y7x k) (y89 ρ k) 0 y80 (y85 (p, v)) (fun e st' => match e with
    | .normal => (normC y81 y82 st').bind fun nf => K1 .normal (denorm y81 st'.n nf)
    | e => (normC (y83 e) (y84 e) st').bind fun nf => K e (denorm (y83 e) st'.n nf)) = S_l01Copy_g0 k p v (fun v' => K1 .normal (y85 (p, v'))) (fun x => K (.exit 0) (y88 p x)) := by kernel_rfl
theorem y8b {ρ : Type} (k : Nat) : Sound Try.prog (.loop y80) (y89 ρ k 0 fun st K => ev (y7x k) (y89 ρ k) 0 y80 st K) :=
  loop_ok (ev_sound (y7y k) y80 0 (lpgood_none (by kernel_rfl))) y83 y84 k (g := fun p v next K => S_l01Copy_g0 k p v next (fun x => K (.exit 0) (y88 p x))) (dec_at y87) (fun p v K K1 => y8a k p v K K1)
def y8c (a : List Int) : List Arg := [.one (.sl (.int .i64) a)]
def y8d (l : List Arg) : Option (List Int) := match l with
  | [.one (.sl (.int .i64) b0)] => some b0
  | _ => none
def y8e (r : List Int) : Out := (.own 0, [.arr none (.int .i64) r])
def y8f (o : Out) : Option (List Int) := match o with
  | (.own 0, [.arr none (.int .i64) z1]) => some z1
  | _ => none
def y8g (k : Nat) : PG := fun _ l K => (y8d l).bind fun a => (S_l01Copy k a).bind fun r => K (y8e r)
theorem y8h (k : Nat) (a : List Int) : ev (y7x k) (y89 (List Int) k) 0 y7z (st0 Try.f113 (y8c a)) (fin Try.prog Try.f113 (.own (.int .i64)) y8f) = S_l01Copy k a := by kernel_rfl
theorem y8i (k : Nat) : PureOk Try.prog 113 (y8g k) :=
  pureOk_of_ev (y7y k) Try.func113 (by kernel_rfl) (by kernel_rfl) y8c y8d
    (fun l a h => by unfold y8d at h; split at h <;> first | (cases h; rfl) | cases h) (fun a => rfl) (lpgood_of (l := [(0, y80)]) (by kernel_rfl) ⟨y8b k, trivial⟩)
    (fun o r h => by unfold y8f at h; split at h <;> first | (cases h; rfl) | cases h) (y8h k)
def y8j (k : Nat) : Orc := pureOrc [.one (.sl (.int .i64))] (y8g k)
theorem y8k (k : Nat) : OrcOk Try.prog 113 (y8j k) := pureOrc_ok (y8i k)
noncomputable def y8l (k : Nat) : Env := { P := Try.prog, tt := tt, orc := fun g => cond (Nat.beq g 113) (y8j k) (noOrc) }
theorem y8m (k : Nat) : EnvOk (y8l k) := fun g => (orc_cond (y8k k) (noOrc_ok _ _))
noncomputable def y8n : Code := (Try.f112.body).getD .skip
noncomputable def y8o : Code := ((loopsIn 0 y8n).getD 0 (0, .skip)).2
def y8p : List Nat := [1, 2, 3, 4]
def y8q : List (Where × Co) := [((.pbox 3 3), (.nilOwn false (.st .task)))]
def y8r : Ex → List Nat
  | .exit j => cond (Nat.beq j 0) [2, 3] []
  | .ret => []
  | .normal => []
def y8s : Ex → List (Where × Co)
  | .exit j => cond (Nat.beq j 0) [] []
  | .ret => []
  | .normal => []
def y8t (pv : (Int × Int × Int × List Task × Int × Int × Int × Int × Int × Int × Int × Int × Int × Int × Int × Int × Int × Int × Int × Int × Int × Int) × (Int × List Task)) : St := { slots := [(1, .ptr 0 0 0), (2, .ptr 1 0 0), (3, .ptr 2 0 0), (4, .r [] (.int .i64 pv.2.1))], heap := [(0, .box [.r [] (.int .i64 pv.1.1), .r [] (.int .i64 pv.1.2.1), .r [] (.int .i64 pv.1.2.2.1), .r [] (.sl (.st .task) pv.1.2.2.2.1), .r [] (.int .i64 pv.1.2.2.2.2.1), .r [] (.int .i64 pv.1.2.2.2.2.2.1), .r [] (.int .i64 pv.1.2.2.2.2.2.2.1), .r [] (.int .i64 pv.1.2.2.2.2.2.2.2.1)]), (1, .box [.r [] (.int .i64 pv.1.2.2.2.2.2.2.2.2.1), .r [] (.int .i64 pv.1.2.2.2.2.2.2.2.2.2.1), .r [] (.int .i64 pv.1.2.2.2.2.2.2.2.2.2.2.1), .nilS, .r [] (.int .i64 pv.1.2.2.2.2.2.2.2.2.2.2.2.1), .r [] (.int .i64 pv.1.2.2.2.2.2.2.2.2.2.2.2.2.1), .r [] (.int .i64 pv.1.2.2.2.2.2.2.2.2.2.2.2.2.2.1), .r [] (.int .i64 pv.1.2.2.2.2.2.2.2.2.2.2.2.2.2.2.1)]), (2, .box [.r [] (.int .i64 pv.1.2.2.2.2.2.2.2.2.2.2.2.2.2.2.2.1), .r [] (.int .i64 pv.1.2.2.2.2.2.2.2.2.2.2.2.2.2.2.2.2.1), .r [] (.int .i64 pv.1.2.2.2.2.2.2.2.2.2.2.2.2.2.2.2.2.2.1), .own 3, .r [] (.int .i64 pv.1.2.2.2.2.2.2.2.2.2.2.2.2.2.2.2.2.2.2.1), .r [] (.int .i64 pv.1.2.2.2.2.2.2.2.2.2.2.2.2.2.2.2.2.2.2.2.1), .r [] (.int .i64 pv.1.2.2.2.2.2.2.2.2.2.2.2.2.2.2.2.2.2.2.2.2.1), .r [] (.int .i64 pv.1.2.2.2.2.2.2.2.2.2.2.2.2.2.2.2.2.2.2.2.2.2)]), (3, .arr none (.st .task) pv.2.2)], nid := 4, n := 31, gh := [] }
def y8u (nf : NF) : Option ((Int × Int × Int × List Task × Int × Int × Int × Int × Int × Int × Int × Int × Int × Int × Int × Int × Int × Int × Int × Int × Int × Int) × (Int × List Task)) := match nf with
  | ([.ptr 0 0 0, .ptr 1 0 0, .ptr 2 0 0, .r [] (.int .i64 w0)], [.box [.r [] (.int .i64 w1), .r [] (.int .i64 w2), .r [] (.int .i64 w3), .r [] (.sl (.st .task) w4), .r [] (.int .i64 w5), .r [] (.int .i64 w6), .r [] (.int .i64 w7), .r [] (.int .i64 w8)], .box [.r [] (.int .i64 w9), .r [] (.int .i64 w10), .r [] (.int .i64 w11), .nilS, .r [] (.int .i64 w12), .r [] (.int .i64 w13), .r [] (.int .i64 w14), .r [] (.int .i64 w15)], .box [.r [] (.int .i64 w16), .r [] (.int .i64 w17), .r [] (.int .i64 w18), .own 3, .r [] (.int .i64 w19), .r [] (.int .i64 w20), .r [] (.int .i64 w21), .r [] (.int .i64 w22)], .arr none (.st .task) w23], []) => some ((w1, w2, w3, w4, w5, w6, w7, w8, w9, w10, w11, w12, w13, w14, w15, w16, w17, w18, w19, w20, w21, w22), (w0, w23))
  | _ => none
theorem y8v (nf : NF) (v : (Int × Int × Int × List Task × Int × Int × Int × Int × Int × Int × Int × Int × Int × Int × Int × Int × Int × Int × Int × Int × Int × Int) × (Int × List Task)) (h : y8u nf = some v) : denorm y8p 31 nf = y8t v := by
  unfold y8u at h
  split at h
  · cases h; rfl
  · cases h
def y8w (p : Int × Int × Int × List Task × Int × Int × Int × Int × Int × Int × Int × Int × Int × Int × Int × Int × Int × Int × Int × Int × Int × Int) (x : List Task) : St := { slots := [(2, .ptr 0 0 0), (3, .ptr 1 0 0)], heap := [(0, .box [.r [] (.int .i64 p.2.2.2.2.2.2.2.2.1), .r [] (.int .i64 p.2.2.2.2.2.2.2.2.2.1), .r [] (.int .i64 p.2.2.2.2.2.2.2.2.2.2.1), .nilS, .r [] (.int .i64 p.2.2.2.2.2.2.2.2.2.2.2.1), .r [] (.int .i64 p.2.2.2.2.2.2.2.2.2.2.2.2.1), .r [] (.int .i64 p.2.2.2.2.2.2.2.2.2.2.2.2.2.1), .r [] (.int .i64 p.2.2.2.2.2.2.2.2.2.2.2.2.2.2.1)]), (1, .box [.r [] (.int .i64 p.2.2.2.2.2.2.2.2.2.2.2.2.2.2.2.1), .r [] (.int .i64 p.2.2.2.2.2.2.2.2.2.2.2.2.2.2.2.2.1), .r [] (.int .i64 p.2.2.2.2.2.2.2.2.2.2.2.2.2.2.2.2.2.1), .own 2, .r [] (.int .i64 p.2.2.2.2.2.2.2.2.2.2.2.2.2.2.2.2.2.2.1), .r [] (.int .i64 p.2.2.2.2.2.2.2.2.2.2.2.2.2.2.2.2.2.2.2.1), .r [] (.int .i64 p.2.2.2.2.2.2.2.2.2.2.2.2.2.2.2.2.2.2.2.2.1), .r [] (.int .i64 p.2.2.2.2.2.2.2.2.2.2.2.2.2.2.2.2.2.2.2.2.2)]), (2, .arr none (.st .task) x)], nid := 3, n := 31, gh := [] }
def y8x (ρ : Type) (k : Nat) : Nat → Ev ρ → Ev ρ := fun id f => cond (Nat.beq id 0) (loopOrc y8p y8q (fun n nf => cond (Nat.beq n 31) (y8u nf) none) fun pv K => iter (fun v next => S_l07Copy_g0 k pv.1 v next (fun x => K (.exit 0) (y8w pv.1 x))) k pv.2) ((fun _ _ _ _ => none) id f)
theorem y8y {ρ : Type} (k : Nat) (p : Int × Int × Int × List Task × Int × Int × Int × Int × Int × Int × Int × Int × Int × Int × Int × Int × Int × Int × Int × Int × Int × Int) (v : Int × List Task) (K K1 : Ex → St → Option ρ) : ev (y8l k) (y8x ρ k) 0 y8o (y8t (p, v)) (fun e st' => match e with
    | .normal => (normC y8p y8q st').bind fun nf => K1 .normal (denorm y8p st'.n nf)
    | e => (normC (y8r e) (y8s e) st').bind fun nf => K e (denorm (y8r e) st'.n nf)) = S_l07Copy_g0 k p v (fun v' => K1 .normal (y8t (p, v'))) (fun x => K (.exit 0) (y8w p x)) := by kernel_rfl
theorem y8z {ρ : Type} (k : Nat) : Sound Try.prog (.loop y8o) (y8x ρ k 0 fun st K => ev (y8l k) (y8x ρ k) 0 y8o st K) :=
  loop_ok (ev_sound (y8m k) y8o 0 (lpgood_none (by kernel_rfl))) y8r y8s k (g := fun p v next K => S_l07Copy_g0 k p v next (fun x => K (.exit 0) (y8w p x))) (dec_at y8v) (fun p v K K1 => y8y k p v K K1)
def y90 (a : Sched) : List Arg := [.agg [.int .i64 a.now, .int .i64 a.slack, .int .i64 a.age, .sl (.st .task) a.tasks, .int .i64 a.run, .int .i64 a.left, .int .i64 a.turns, .int .i64 a.next]]
def y91 (l : List Arg) : Option (Sched) := match l with
  | [.agg [.int .i64 b0_0, .int .i64 b0_1, .int .i64 b0_2, .sl (.st .task) b0_3, .int .i64 b0_4, .int .i64 b0_5, .int .i64 b0_6, .int .i64 b0_7]] => some (⟨b0_0, b0_1, b0_2, b0_3, b0_4, b0_5, b0_6, b0_7⟩ : Sched)
  | _ => none
def y92 (r : Sched) : Out := (.agg [.r [] (.int .i64 r.now), .r [] (.int .i64 r.slack), .r [] (.int .i64 r.age), .own 0, .r [] (.int .i64 r.run), .r [] (.int .i64 r.left), .r [] (.int .i64 r.turns), .r [] (.int .i64 r.next)], [.arr none (.st .task) r.tasks])
def y93 (o : Out) : Option (Sched) := match o with
  | (.agg [.r [] (.int .i64 z1), .r [] (.int .i64 z2), .r [] (.int .i64 z3), .own 0, .r [] (.int .i64 z5), .r [] (.int .i64 z6), .r [] (.int .i64 z7), .r [] (.int .i64 z8)], [.arr none (.st .task) z4]) => some (⟨z1, z2, z3, z4, z5, z6, z7, z8⟩ : Sched)
  | _ => none
def y94 (k : Nat) : PG := fun _ l K => (y91 l).bind fun a => (S_l07Copy k a).bind fun r => K (y92 r)
theorem y95 (k : Nat) (a : Sched) : ev (y8l k) (y8x (Sched) k) 0 y8n (st0 Try.f112 (y90 a)) (fin Try.prog Try.f112 (.agg [.sc, .sc, .sc, .own (.st .task), .sc, .sc, .sc, .sc]) y93) = S_l07Copy k a := by kernel_rfl
theorem y96 (k : Nat) : PureOk Try.prog 112 (y94 k) :=
  pureOk_of_ev (y8m k) Try.func112 (by kernel_rfl) (by kernel_rfl) y90 y91
    (fun l a h => by unfold y91 at h; split at h <;> first | (cases h; rfl) | cases h) (fun a => rfl) (lpgood_of (l := [(0, y8o)]) (by kernel_rfl) ⟨y8z k, trivial⟩)
    (fun o r h => by unfold y93 at h; split at h <;> first | (cases h; rfl) | cases h) (y95 k)
def y97 (k : Nat) : Orc := pureOrc [.agg [(.int .i64), (.int .i64), (.int .i64), (.sl (.st .task)), (.int .i64), (.int .i64), (.int .i64), (.int .i64)]] (y94 k)
theorem y98 (k : Nat) : OrcOk Try.prog 112 (y97 k) := pureOrc_ok (y96 k)
noncomputable def y99 (k : Nat) : Env := { P := Try.prog, tt := tt, orc := fun g => cond (Nat.beq g 41) (y7i k) (noOrc) }
theorem y9a (k : Nat) : EnvOk (y99 k) := fun g => (orc_cond (y7j k) (noOrc_ok _ _))
noncomputable def y9b : Code := (Try.f140.body).getD .skip
noncomputable def y9c : Code := ((loopsIn 0 y9b).getD 0 (0, .skip)).2
def y9d : List Nat := [1, 3, 4]
def y9e : List (Where × Co) := []
def y9f : Ex → List Nat
  | .exit j => cond (Nat.beq j 0) [3] []
  | .ret => []
  | .normal => []
def y9g : Ex → List (Where × Co)
  | .exit j => cond (Nat.beq j 0) [] []
  | .ret => []
  | .normal => []
def y9h (pv : (Int × Int × Int × List Task × Int × Int × Int × Int) × (Int × List Int)) : St := { slots := [(1, .ptr 0 0 0), (3, .own 1), (4, .r [] (.int .i64 pv.2.1))], heap := [(0, .box [.r [] (.int .i64 pv.1.1), .r [] (.int .i64 pv.1.2.1), .r [] (.int .i64 pv.1.2.2.1), .r [] (.sl (.st .task) pv.1.2.2.2.1), .r [] (.int .i64 pv.1.2.2.2.2.1), .r [] (.int .i64 pv.1.2.2.2.2.2.1), .r [] (.int .i64 pv.1.2.2.2.2.2.2.1), .r [] (.int .i64 pv.1.2.2.2.2.2.2.2)]), (1, .arr none (.int .i64) pv.2.2)], nid := 2, n := 35, gh := [] }
def y9i (nf : NF) : Option ((Int × Int × Int × List Task × Int × Int × Int × Int) × (Int × List Int)) := match nf with
  | ([.ptr 0 0 0, .own 1, .r [] (.int .i64 w0)], [.box [.r [] (.int .i64 w1), .r [] (.int .i64 w2), .r [] (.int .i64 w3), .r [] (.sl (.st .task) w4), .r [] (.int .i64 w5), .r [] (.int .i64 w6), .r [] (.int .i64 w7), .r [] (.int .i64 w8)], .arr none (.int .i64) w9], []) => some ((w1, w2, w3, w4, w5, w6, w7, w8), (w0, w9))
  | _ => none
theorem y9j (nf : NF) (v : (Int × Int × Int × List Task × Int × Int × Int × Int) × (Int × List Int)) (h : y9i nf = some v) : denorm y9d 35 nf = y9h v := by
  unfold y9i at h
  split at h
  · cases h; rfl
  · cases h
def y9k (p : Int × Int × Int × List Task × Int × Int × Int × Int) (x : List Int) : St := { slots := [(3, .own 0)], heap := [(0, .arr none (.int .i64) x)], nid := 1, n := 35, gh := [] }
def y9l (ρ : Type) (k : Nat) : Nat → Ev ρ → Ev ρ := fun id f => cond (Nat.beq id 0) (loopOrc y9d y9e (fun n nf => cond (Nat.beq n 35) (y9i nf) none) fun pv K => iter (fun v next => S_LateOf_g0 k pv.1 v next (fun x => K (.exit 0) (y9k pv.1 x))) k pv.2) ((fun _ _ _ _ => none) id f)
theorem y9m {ρ : Type} (k : Nat) (p : Int × Int × Int × List Task × Int × Int × Int × Int) (v : Int × List Int) (K K1 : Ex → St → Option ρ) : ev (y99 k) (y9l ρ k) 0 y9c (y9h (p, v)) (fun e st' => match e with
    | .normal => (normC y9d y9e st').bind fun nf => K1 .normal (denorm y9d st'.n nf)
    | e => (normC (y9f e) (y9g e) st').bind fun nf => K e (denorm (y9f e) st'.n nf)) = S_LateOf_g0 k p v (fun v' => K1 .normal (y9h (p, v'))) (fun x => K (.exit 0) (y9k p x)) := by kernel_rfl
theorem y9n {ρ : Type} (k : Nat) : Sound Try.prog (.loop y9c) (y9l ρ k 0 fun st K => ev (y99 k) (y9l ρ k) 0 y9c st K) :=
  loop_ok (ev_sound (y9a k) y9c 0 (lpgood_none (by kernel_rfl))) y9f y9g k (g := fun p v next K => S_LateOf_g0 k p v next (fun x => K (.exit 0) (y9k p x))) (dec_at y9j) (fun p v K K1 => y9m k p v K K1)
def y9o (a : Sched) : List Arg := [.agg [.int .i64 a.now, .int .i64 a.slack, .int .i64 a.age, .sl (.st .task) a.tasks, .int .i64 a.run, .int .i64 a.left, .int .i64 a.turns, .int .i64 a.next]]
def y9p (l : List Arg) : Option (Sched) := match l with
  | [.agg [.int .i64 b0_0, .int .i64 b0_1, .int .i64 b0_2, .sl (.st .task) b0_3, .int .i64 b0_4, .int .i64 b0_5, .int .i64 b0_6, .int .i64 b0_7]] => some (⟨b0_0, b0_1, b0_2, b0_3, b0_4, b0_5, b0_6, b0_7⟩ : Sched)
  | _ => none
def y9q (r : List Int) : Out := (.own 0, [.arr none (.int .i64) r])
def y9r (o : Out) : Option (List Int) := match o with
  | (.own 0, [.arr none (.int .i64) z1]) => some z1
  | _ => none
def y9s (k : Nat) : PG := fun _ l K => (y9p l).bind fun a => (S_LateOf k a).bind fun r => K (y9q r)
theorem y9t (k : Nat) (a : Sched) : ev (y99 k) (y9l (List Int) k) 0 y9b (st0 Try.f140 (y9o a)) (fin Try.prog Try.f140 (.own (.int .i64)) y9r) = S_LateOf k a := by kernel_rfl
theorem y9u (k : Nat) : PureOk Try.prog 140 (y9s k) :=
  pureOk_of_ev (y9a k) Try.func140 (by kernel_rfl) (by kernel_rfl) y9o y9p
    (fun l a h => by unfold y9p at h; split at h <;> first | (cases h; rfl) | cases h) (fun a => rfl) (lpgood_of (l := [(0, y9c)]) (by kernel_rfl) ⟨y9n k, trivial⟩)
    (fun o r h => by unfold y9r at h; split at h <;> first | (cases h; rfl) | cases h) (y9t k)
def y9v (k : Nat) : Orc := pureOrc [.agg [(.int .i64), (.int .i64), (.int .i64), (.sl (.st .task)), (.int .i64), (.int .i64), (.int .i64), (.int .i64)]] (y9s k)
theorem y9w (k : Nat) : OrcOk Try.prog 140 (y9v k) := pureOrc_ok (y9u k)
noncomputable def y9x (k : Nat) : Env := { P := Try.prog, tt := tt, orc := fun g => cond (Nat.beq g 41) (y7i k) (cond (Nat.beq g 137) (y6t k) (noOrc)) }
theorem y9y (k : Nat) : EnvOk (y9x k) := fun g => (orc_cond (y7j k) (orc_cond (y6u k) (noOrc_ok _ _)))
noncomputable def y9z : Code := (Try.f200.body).getD .skip
noncomputable def ya0 : Code := ((loopsIn 0 y9z).getD 0 (0, .skip)).2
def ya1 : List Nat := [1, 2, 6, 7, 8]
def ya2 : List (Where × Co) := []
def ya3 : Ex → List Nat
  | .exit j => cond (Nat.beq j 0) [1, 2, 6, 7] []
  | .ret => []
  | .normal => []
def ya4 : Ex → List (Where × Co)
  | .exit j => cond (Nat.beq j 0) [] []
  | .ret => []
  | .normal => []
def ya5 (pv : (Int × Int × Int × Int × List Task × Int × Int × Int × Int × Int × List Int × Int × Int × Int) × (Int × Int)) : St := { slots := [(1, .r [] (.int .i64 pv.1.1)), (2, .ptr 0 0 0), (6, .ptr 1 0 0), (7, .r [] (.int .i64 pv.2.1)), (8, .r [] (.int .i64 pv.2.2))], heap := [(0, .box [.r [] (.int .i64 pv.1.2.1), .r [] (.int .i64 pv.1.2.2.1), .r [] (.int .i64 pv.1.2.2.2.1), .r [] (.sl (.st .task) pv.1.2.2.2.2.1), .r [] (.int .i64 pv.1.2.2.2.2.2.1), .r [] (.int .i64 pv.1.2.2.2.2.2.2.1), .r [] (.int .i64 pv.1.2.2.2.2.2.2.2.1), .r [] (.int .i64 pv.1.2.2.2.2.2.2.2.2.1)]), (1, .box [.r [] (.int .i64 pv.1.2.2.2.2.2.2.2.2.2.1), .r [] (.sl (.int .i64) pv.1.2.2.2.2.2.2.2.2.2.2.1), .r [] (.int .i64 pv.1.2.2.2.2.2.2.2.2.2.2.2.1), .r [] (.int .i64 pv.1.2.2.2.2.2.2.2.2.2.2.2.2.1), .r [] (.int .i64 pv.1.2.2.2.2.2.2.2.2.2.2.2.2.2)])], nid := 2, n := 56, gh := [] }
def ya6 (nf : NF) : Option ((Int × Int × Int × Int × List Task × Int × Int × Int × Int × Int × List Int × Int × Int × Int) × (Int × Int)) := match nf with
  | ([.r [] (.int .i64 w0), .ptr 0 0 0, .ptr 1 0 0, .r [] (.int .i64 w1), .r [] (.int .i64 w2)], [.box [.r [] (.int .i64 w3), .r [] (.int .i64 w4), .r [] (.int .i64 w5), .r [] (.sl (.st .task) w6), .r [] (.int .i64 w7), .r [] (.int .i64 w8), .r [] (.int .i64 w9), .r [] (.int .i64 w10)], .box [.r [] (.int .i64 w11), .r [] (.sl (.int .i64) w12), .r [] (.int .i64 w13), .r [] (.int .i64 w14), .r [] (.int .i64 w15)]], []) => some ((w0, w3, w4, w5, w6, w7, w8, w9, w10, w11, w12, w13, w14, w15), (w1, w2))
  | _ => none
theorem ya7 (nf : NF) (v : (Int × Int × Int × Int × List Task × Int × Int × Int × Int × Int × List Int × Int × Int × Int) × (Int × Int)) (h : ya6 nf = some v) : denorm ya1 56 nf = ya5 v := by
  unfold ya6 at h
  split at h
  · cases h; rfl
  · cases h
def ya8 (p : Int × Int × Int × Int × List Task × Int × Int × Int × Int × Int × List Int × Int × Int × Int) (x : Int) : St := { slots := [(1, .r [] (.int .i64 p.1)), (2, .ptr 0 0 0), (6, .ptr 1 0 0), (7, .r [] (.int .i64 x))], heap := [(0, .box [.r [] (.int .i64 p.2.1), .r [] (.int .i64 p.2.2.1), .r [] (.int .i64 p.2.2.2.1), .r [] (.sl (.st .task) p.2.2.2.2.1), .r [] (.int .i64 p.2.2.2.2.2.1), .r [] (.int .i64 p.2.2.2.2.2.2.1), .r [] (.int .i64 p.2.2.2.2.2.2.2.1), .r [] (.int .i64 p.2.2.2.2.2.2.2.2.1)]), (1, .box [.r [] (.int .i64 p.2.2.2.2.2.2.2.2.2.1), .r [] (.sl (.int .i64) p.2.2.2.2.2.2.2.2.2.2.1), .r [] (.int .i64 p.2.2.2.2.2.2.2.2.2.2.2.1), .r [] (.int .i64 p.2.2.2.2.2.2.2.2.2.2.2.2.1), .r [] (.int .i64 p.2.2.2.2.2.2.2.2.2.2.2.2.2)])], nid := 2, n := 56, gh := [] }
def ya9 (ρ : Type) (k : Nat) : Nat → Ev ρ → Ev ρ := fun id f => cond (Nat.beq id 0) (loopOrc ya1 ya2 (fun n nf => cond (Nat.beq n 56) (ya6 nf) none) fun pv K => iter (fun v next => S_RemainOf_g0 k pv.1 v next (fun x => K (.exit 0) (ya8 pv.1 x))) k pv.2) ((fun _ _ _ _ => none) id f)
theorem yaa {ρ : Type} (k : Nat) (p : Int × Int × Int × Int × List Task × Int × Int × Int × Int × Int × List Int × Int × Int × Int) (v : Int × Int) (K K1 : Ex → St → Option ρ) : ev (y9x k) (ya9 ρ k) 0 ya0 (ya5 (p, v)) (fun e st' => match e with
    | .normal => (normC ya1 ya2 st').bind fun nf => K1 .normal (denorm ya1 st'.n nf)
    | e => (normC (ya3 e) (ya4 e) st').bind fun nf => K e (denorm (ya3 e) st'.n nf)) = S_RemainOf_g0 k p v (fun v' => K1 .normal (ya5 (p, v'))) (fun x => K (.exit 0) (ya8 p x)) := by kernel_rfl
theorem yab {ρ : Type} (k : Nat) : Sound Try.prog (.loop ya0) (ya9 ρ k 0 fun st K => ev (y9x k) (ya9 ρ k) 0 ya0 st K) :=
  loop_ok (ev_sound (y9y k) ya0 0 (lpgood_none (by kernel_rfl))) ya3 ya4 k (g := fun p v next K => S_RemainOf_g0 k p v next (fun x => K (.exit 0) (ya8 p x))) (dec_at ya7) (fun p v K K1 => yaa k p v K K1)
def yac (a : Sched × Int) : List Arg := [.agg [.int .i64 a.1.now, .int .i64 a.1.slack, .int .i64 a.1.age, .sl (.st .task) a.1.tasks, .int .i64 a.1.run, .int .i64 a.1.left, .int .i64 a.1.turns, .int .i64 a.1.next], .one (.int .i64 a.2)]
def yad (l : List Arg) : Option (Sched × Int) := match l with
  | [.agg [.int .i64 b0_0, .int .i64 b0_1, .int .i64 b0_2, .sl (.st .task) b0_3, .int .i64 b0_4, .int .i64 b0_5, .int .i64 b0_6, .int .i64 b0_7], .one (.int .i64 b1)] => some ((⟨b0_0, b0_1, b0_2, b0_3, b0_4, b0_5, b0_6, b0_7⟩ : Sched), b1)
  | _ => none
def yae (r : Int) : Out := (.r [] (.int .i64 r), [])
def yaf (o : Out) : Option (Int) := match o with
  | (.r [] (.int .i64 z1), []) => some z1
  | _ => none
def yag (k : Nat) : PG := fun _ l K => (yad l).bind fun a => (S_RemainOf k a.1 a.2).bind fun r => K (yae r)
theorem yah (k : Nat) (a : Sched × Int) : ev (y9x k) (ya9 (Int) k) 0 y9z (st0 Try.f200 (yac a)) (fin Try.prog Try.f200 (.sc) yaf) = S_RemainOf k a.1 a.2 := by kernel_rfl
theorem yai (k : Nat) : PureOk Try.prog 200 (yag k) :=
  pureOk_of_ev (y9y k) Try.func200 (by kernel_rfl) (by kernel_rfl) yac yad
    (fun l a h => by unfold yad at h; split at h <;> first | (cases h; rfl) | cases h) (fun a => rfl) (lpgood_of (l := [(0, ya0)]) (by kernel_rfl) ⟨yab k, trivial⟩)
    (fun o r h => by unfold yaf at h; split at h <;> first | (cases h; rfl) | cases h) (yah k)
def yaj (k : Nat) : Orc := pureOrc [.agg [(.int .i64), (.int .i64), (.int .i64), (.sl (.st .task)), (.int .i64), (.int .i64), (.int .i64), (.int .i64)], .one (.int .i64)] (yag k)
theorem yak (k : Nat) : OrcOk Try.prog 200 (yaj k) := pureOrc_ok (yai k)
noncomputable def yal (k : Nat) : Env := { P := Try.prog, tt := tt, orc := fun g => cond (Nat.beq g 41) (y7i k) (cond (Nat.beq g 200) (yaj k) (noOrc)) }
theorem yam (k : Nat) : EnvOk (yal k) := fun g => (orc_cond (y7j k) (orc_cond (yak k) (noOrc_ok _ _)))
noncomputable def yan : Code := (Try.f141.body).getD .skip
noncomputable def yao : Code := ((loopsIn 0 yan).getD 0 (0, .skip)).2
def yap : List Nat := [1, 2, 5, 6]
def yaq : List (Where × Co) := []
def yar : Ex → List Nat
  | .exit j => cond (Nat.beq j 0) [5] []
  | .ret => []
  | .normal => []
def yas : Ex → List (Where × Co)
  | .exit j => cond (Nat.beq j 0) [] []
  | .ret => []
  | .normal => []
def yat (pv : (Int × Int × Int × Int × List Task × Int × Int × Int × Int) × (Int × Int)) : St := { slots := [(1, .r [] (.int .i64 pv.1.1)), (2, .ptr 0 0 0), (5, .r [] (.int .i64 pv.2.1)), (6, .r [] (.int .i64 pv.2.2))], heap := [(0, .box [.r [] (.int .i64 pv.1.2.1), .r [] (.int .i64 pv.1.2.2.1), .r [] (.int .i64 pv.1.2.2.2.1), .r [] (.sl (.st .task) pv.1.2.2.2.2.1), .r [] (.int .i64 pv.1.2.2.2.2.2.1), .r [] (.int .i64 pv.1.2.2.2.2.2.2.1), .r [] (.int .i64 pv.1.2.2.2.2.2.2.2.1), .r [] (.int .i64 pv.1.2.2.2.2.2.2.2.2)])], nid := 1, n := 36, gh := [] }
def yau (nf : NF) : Option ((Int × Int × Int × Int × List Task × Int × Int × Int × Int) × (Int × Int)) := match nf with
  | ([.r [] (.int .i64 w0), .ptr 0 0 0, .r [] (.int .i64 w1), .r [] (.int .i64 w2)], [.box [.r [] (.int .i64 w3), .r [] (.int .i64 w4), .r [] (.int .i64 w5), .r [] (.sl (.st .task) w6), .r [] (.int .i64 w7), .r [] (.int .i64 w8), .r [] (.int .i64 w9), .r [] (.int .i64 w10)]], []) => some ((w0, w3, w4, w5, w6, w7, w8, w9, w10), (w1, w2))
  | _ => none
theorem yav (nf : NF) (v : (Int × Int × Int × Int × List Task × Int × Int × Int × Int) × (Int × Int)) (h : yau nf = some v) : denorm yap 36 nf = yat v := by
  unfold yau at h
  split at h
  · cases h; rfl
  · cases h
def yaw (p : Int × Int × Int × Int × List Task × Int × Int × Int × Int) (x : Int) : St := { slots := [(5, .r [] (.int .i64 x))], heap := [], nid := 0, n := 36, gh := [] }
def yax (ρ : Type) (k : Nat) : Nat → Ev ρ → Ev ρ := fun id f => cond (Nat.beq id 0) (loopOrc yap yaq (fun n nf => cond (Nat.beq n 36) (yau nf) none) fun pv K => iter (fun v next => S_DemandAt_g0 k pv.1 v next (fun x => K (.exit 0) (yaw pv.1 x))) k pv.2) ((fun _ _ _ _ => none) id f)
theorem yay {ρ : Type} (k : Nat) (p : Int × Int × Int × Int × List Task × Int × Int × Int × Int) (v : Int × Int) (K K1 : Ex → St → Option ρ) : ev (yal k) (yax ρ k) 0 yao (yat (p, v)) (fun e st' => match e with
    | .normal => (normC yap yaq st').bind fun nf => K1 .normal (denorm yap st'.n nf)
    | e => (normC (yar e) (yas e) st').bind fun nf => K e (denorm (yar e) st'.n nf)) = S_DemandAt_g0 k p v (fun v' => K1 .normal (yat (p, v'))) (fun x => K (.exit 0) (yaw p x)) := by kernel_rfl
theorem yaz {ρ : Type} (k : Nat) : Sound Try.prog (.loop yao) (yax ρ k 0 fun st K => ev (yal k) (yax ρ k) 0 yao st K) :=
  loop_ok (ev_sound (yam k) yao 0 (lpgood_none (by kernel_rfl))) yar yas k (g := fun p v next K => S_DemandAt_g0 k p v next (fun x => K (.exit 0) (yaw p x))) (dec_at yav) (fun p v K K1 => yay k p v K K1)
def yb0 (a : Sched × Int) : List Arg := [.agg [.int .i64 a.1.now, .int .i64 a.1.slack, .int .i64 a.1.age, .sl (.st .task) a.1.tasks, .int .i64 a.1.run, .int .i64 a.1.left, .int .i64 a.1.turns, .int .i64 a.1.next], .one (.int .i64 a.2)]
def yb1 (l : List Arg) : Option (Sched × Int) := match l with
  | [.agg [.int .i64 b0_0, .int .i64 b0_1, .int .i64 b0_2, .sl (.st .task) b0_3, .int .i64 b0_4, .int .i64 b0_5, .int .i64 b0_6, .int .i64 b0_7], .one (.int .i64 b1)] => some ((⟨b0_0, b0_1, b0_2, b0_3, b0_4, b0_5, b0_6, b0_7⟩ : Sched), b1)
  | _ => none
def yb2 (r : Int) : Out := (.r [] (.int .i64 r), [])
def yb3 (o : Out) : Option (Int) := match o with
  | (.r [] (.int .i64 z1), []) => some z1
  | _ => none
def yb4 (k : Nat) : PG := fun _ l K => (yb1 l).bind fun a => (S_DemandAt k a.1 a.2).bind fun r => K (yb2 r)
theorem yb5 (k : Nat) (a : Sched × Int) : ev (yal k) (yax (Int) k) 0 yan (st0 Try.f141 (yb0 a)) (fin Try.prog Try.f141 (.sc) yb3) = S_DemandAt k a.1 a.2 := by kernel_rfl
theorem yb6 (k : Nat) : PureOk Try.prog 141 (yb4 k) :=
  pureOk_of_ev (yam k) Try.func141 (by kernel_rfl) (by kernel_rfl) yb0 yb1
    (fun l a h => by unfold yb1 at h; split at h <;> first | (cases h; rfl) | cases h) (fun a => rfl) (lpgood_of (l := [(0, yao)]) (by kernel_rfl) ⟨yaz k, trivial⟩)
    (fun o r h => by unfold yb3 at h; split at h <;> first | (cases h; rfl) | cases h) (yb5 k)
def yb7 (k : Nat) : Orc := pureOrc [.agg [(.int .i64), (.int .i64), (.int .i64), (.sl (.st .task)), (.int .i64), (.int .i64), (.int .i64), (.int .i64)], .one (.int .i64)] (yb4 k)
theorem yb8 (k : Nat) : OrcOk Try.prog 141 (yb7 k) := pureOrc_ok (yb6 k)
noncomputable def yb9 (k : Nat) : Env := { P := Try.prog, tt := tt, orc := fun g => cond (Nat.beq g 41) (y7i k) (cond (Nat.beq g 137) (y6t k) (noOrc)) }
theorem yba (k : Nat) : EnvOk (yb9 k) := fun g => (orc_cond (y7j k) (orc_cond (y6u k) (noOrc_ok _ _)))
noncomputable def ybb : Code := (Try.f142.body).getD .skip
def ybc (ρ : Type) (k : Nat) : Nat → Ev ρ → Ev ρ := fun _ _ _ _ => none
def ybd (a : Sched × Int) : List Arg := [.agg [.int .i64 a.1.now, .int .i64 a.1.slack, .int .i64 a.1.age, .sl (.st .task) a.1.tasks, .int .i64 a.1.run, .int .i64 a.1.left, .int .i64 a.1.turns, .int .i64 a.1.next], .one (.int .i64 a.2)]
def ybe (l : List Arg) : Option (Sched × Int) := match l with
  | [.agg [.int .i64 b0_0, .int .i64 b0_1, .int .i64 b0_2, .sl (.st .task) b0_3, .int .i64 b0_4, .int .i64 b0_5, .int .i64 b0_6, .int .i64 b0_7], .one (.int .i64 b1)] => some ((⟨b0_0, b0_1, b0_2, b0_3, b0_4, b0_5, b0_6, b0_7⟩ : Sched), b1)
  | _ => none
def ybf (r : Int) : Out := (.r [] (.int .i64 r), [])
def ybg (o : Out) : Option (Int) := match o with
  | (.r [] (.int .i64 z1), []) => some z1
  | _ => none
def ybh (k : Nat) : PG := fun _ l K => (ybe l).bind fun a => (S_BlockAt k a.1 a.2).bind fun r => K (ybf r)
theorem ybi (k : Nat) (a : Sched × Int) : ev (yb9 k) (ybc (Int) k) 0 ybb (st0 Try.f142 (ybd a)) (fin Try.prog Try.f142 (.sc) ybg) = S_BlockAt k a.1 a.2 := by kernel_rfl
theorem ybj (k : Nat) : PureOk Try.prog 142 (ybh k) :=
  pureOk_of_ev (yba k) Try.func142 (by kernel_rfl) (by kernel_rfl) ybd ybe
    (fun l a h => by unfold ybe at h; split at h <;> first | (cases h; rfl) | cases h) (fun a => rfl) (lpgood_none (by kernel_rfl))
    (fun o r h => by unfold ybg at h; split at h <;> first | (cases h; rfl) | cases h) (ybi k)
def ybk (k : Nat) : Orc := pureOrc [.agg [(.int .i64), (.int .i64), (.int .i64), (.sl (.st .task)), (.int .i64), (.int .i64), (.int .i64), (.int .i64)], .one (.int .i64)] (ybh k)
theorem ybl (k : Nat) : OrcOk Try.prog 142 (ybk k) := pureOrc_ok (ybj k)
noncomputable def ybm (k : Nat) : Env := { P := Try.prog, tt := tt, orc := fun g => cond (Nat.beq g 41) (y7i k) (cond (Nat.beq g 140) (y9v k) (cond (Nat.beq g 141) (yb7 k) (cond (Nat.beq g 142) (ybk k) (noOrc)))) }
theorem ybn (k : Nat) : EnvOk (ybm k) := fun g => (orc_cond (y7j k) (orc_cond (y9w k) (orc_cond (yb8 k) (orc_cond (ybl k) (noOrc_ok _ _)))))
noncomputable def ybo : Code := (Try.f44.body).getD .skip
noncomputable def ybp : Code := ((loopsIn 0 ybo).getD 0 (0, .skip)).2
def ybq : List Nat := [1, 3]
def ybr : List (Where × Co) := []
def ybs : Ex → List Nat
  | .exit j => cond (Nat.beq j 0) [] []
  | .ret => [2]
  | .normal => []
def ybt : Ex → List (Where × Co)
  | .exit j => cond (Nat.beq j 0) [] []
  | .ret => []
  | .normal => []
def ybu (pv : (Int × Int × Int × List Task × Int × Int × Int × Int) × (Int)) : St := { slots := [(1, .ptr 0 0 0), (3, .r [] (.int .i64 pv.2))], heap := [(0, .box [.r [] (.int .i64 pv.1.1), .r [] (.int .i64 pv.1.2.1), .r [] (.int .i64 pv.1.2.2.1), .r [] (.sl (.st .task) pv.1.2.2.2.1), .r [] (.int .i64 pv.1.2.2.2.2.1), .r [] (.int .i64 pv.1.2.2.2.2.2.1), .r [] (.int .i64 pv.1.2.2.2.2.2.2.1), .r [] (.int .i64 pv.1.2.2.2.2.2.2.2)])], nid := 1, n := 42, gh := [] }
def ybv (nf : NF) : Option ((Int × Int × Int × List Task × Int × Int × Int × Int) × (Int)) := match nf with
  | ([.ptr 0 0 0, .r [] (.int .i64 w0)], [.box [.r [] (.int .i64 w1), .r [] (.int .i64 w2), .r [] (.int .i64 w3), .r [] (.sl (.st .task) w4), .r [] (.int .i64 w5), .r [] (.int .i64 w6), .r [] (.int .i64 w7), .r [] (.int .i64 w8)]], []) => some ((w1, w2, w3, w4, w5, w6, w7, w8), w0)
  | _ => none
theorem ybw (nf : NF) (v : (Int × Int × Int × List Task × Int × Int × Int × Int) × (Int)) (h : ybv nf = some v) : denorm ybq 42 nf = ybu v := by
  unfold ybv at h
  split at h
  · cases h; rfl
  · cases h
def ybx (p : Int × Int × Int × List Task × Int × Int × Int × Int) (x : Unit) : St := { slots := [], heap := [], nid := 0, n := 42, gh := [] }
def yby (p : Int × Int × Int × List Task × Int × Int × Int × Int) (x : Bool) : St := { slots := [(2, .r [] (.bool x))], heap := [], nid := 0, n := 42, gh := [] }
def ybz (ρ : Type) (k : Nat) : Nat → Ev ρ → Ev ρ := fun id f => cond (Nat.beq id 0) (loopOrc ybq ybr (fun n nf => cond (Nat.beq n 42) (ybv nf) none) fun pv K => iter (fun v next => S_FitsIn_g0 k pv.1 v next (fun x => K (.exit 0) (ybx pv.1 x)) (fun x => K .ret (yby pv.1 x))) k pv.2) ((fun _ _ _ _ => none) id f)
theorem yc0 {ρ : Type} (k : Nat) (p : Int × Int × Int × List Task × Int × Int × Int × Int) (v : Int) (K K1 : Ex → St → Option ρ) : ev (ybm k) (ybz ρ k) 0 ybp (ybu (p, v)) (fun e st' => match e with
    | .normal => (normC ybq ybr st').bind fun nf => K1 .normal (denorm ybq st'.n nf)
    | e => (normC (ybs e) (ybt e) st').bind fun nf => K e (denorm (ybs e) st'.n nf)) = S_FitsIn_g0 k p v (fun v' => K1 .normal (ybu (p, v'))) (fun x => K (.exit 0) (ybx p x)) (fun x => K .ret (yby p x)) := by kernel_rfl
theorem yc1 {ρ : Type} (k : Nat) : Sound Try.prog (.loop ybp) (ybz ρ k 0 fun st K => ev (ybm k) (ybz ρ k) 0 ybp st K) :=
  loop_ok (ev_sound (ybn k) ybp 0 (lpgood_none (by kernel_rfl))) ybs ybt k (g := fun p v next K => S_FitsIn_g0 k p v next (fun x => K (.exit 0) (ybx p x)) (fun x => K .ret (yby p x))) (dec_at ybw) (fun p v K K1 => yc0 k p v K K1)
def yc2 (a : Sched) : List Arg := [.agg [.int .i64 a.now, .int .i64 a.slack, .int .i64 a.age, .sl (.st .task) a.tasks, .int .i64 a.run, .int .i64 a.left, .int .i64 a.turns, .int .i64 a.next]]
def yc3 (l : List Arg) : Option (Sched) := match l with
  | [.agg [.int .i64 b0_0, .int .i64 b0_1, .int .i64 b0_2, .sl (.st .task) b0_3, .int .i64 b0_4, .int .i64 b0_5, .int .i64 b0_6, .int .i64 b0_7]] => some (⟨b0_0, b0_1, b0_2, b0_3, b0_4, b0_5, b0_6, b0_7⟩ : Sched)
  | _ => none
def yc4 (r : Bool) : Out := (.r [] (.bool r), [])
def yc5 (o : Out) : Option (Bool) := match o with
  | (.r [] (.bool z1), []) => some z1
  | _ => none
def yc6 (k : Nat) : PG := fun _ l K => (yc3 l).bind fun a => (S_FitsIn k a).bind fun r => K (yc4 r)
theorem yc7 (k : Nat) (a : Sched) : ev (ybm k) (ybz (Bool) k) 0 ybo (st0 Try.f44 (yc2 a)) (fin Try.prog Try.f44 (.sc) yc5) = S_FitsIn k a := by kernel_rfl
theorem yc8 (k : Nat) : PureOk Try.prog 44 (yc6 k) :=
  pureOk_of_ev (ybn k) Try.func44 (by kernel_rfl) (by kernel_rfl) yc2 yc3
    (fun l a h => by unfold yc3 at h; split at h <;> first | (cases h; rfl) | cases h) (fun a => rfl) (lpgood_of (l := [(0, ybp)]) (by kernel_rfl) ⟨yc1 k, trivial⟩)
    (fun o r h => by unfold yc5 at h; split at h <;> first | (cases h; rfl) | cases h) (yc7 k)
def yc9 (k : Nat) : Orc := pureOrc [.agg [(.int .i64), (.int .i64), (.int .i64), (.sl (.st .task)), (.int .i64), (.int .i64), (.int .i64), (.int .i64)]] (yc6 k)
theorem yca (k : Nat) : OrcOk Try.prog 44 (yc9 k) := pureOrc_ok (yc8 k)
noncomputable def ycb (k : Nat) : Env := { P := Try.prog, tt := tt, orc := fun g => cond (Nat.beq g 41) (y7i k) (cond (Nat.beq g 44) (yc9 k) (cond (Nat.beq g 112) (y97 k) (cond (Nat.beq g 113) (y8j k) (cond (Nat.beq g 114) (y64 k) (noOrc))))) }
theorem ycc (k : Nat) : EnvOk (ycb k) := fun g => (orc_cond (y7j k) (orc_cond (yca k) (orc_cond (y98 k) (orc_cond (y8k k) (orc_cond (y65 k) (noOrc_ok _ _))))))
noncomputable def ycd : Code := (Try.f31.body).getD .skip
def yce (ρ : Type) (k : Nat) : Nat → Ev ρ → Ev ρ := fun _ _ _ _ => none
def ycf (a : Sched × List Int × Int) : List Arg := [.agg [.int .i64 a.1.now, .int .i64 a.1.slack, .int .i64 a.1.age, .sl (.st .task) a.1.tasks, .int .i64 a.1.run, .int .i64 a.1.left, .int .i64 a.1.turns, .int .i64 a.1.next], .one (.sl (.int .i64) a.2.1), .one (.int .i64 a.2.2)]
def ycg (l : List Arg) : Option (Sched × List Int × Int) := match l with
  | [.agg [.int .i64 b0_0, .int .i64 b0_1, .int .i64 b0_2, .sl (.st .task) b0_3, .int .i64 b0_4, .int .i64 b0_5, .int .i64 b0_6, .int .i64 b0_7], .one (.sl (.int .i64) b1), .one (.int .i64 b2)] => some ((⟨b0_0, b0_1, b0_2, b0_3, b0_4, b0_5, b0_6, b0_7⟩ : Sched), b1, b2)
  | _ => none
def ych (r : Sched × Int × Int) : Out := (.tup [.agg [.r [] (.int .i64 r.1.now), .r [] (.int .i64 r.1.slack), .r [] (.int .i64 r.1.age), .own 0, .r [] (.int .i64 r.1.run), .r [] (.int .i64 r.1.left), .r [] (.int .i64 r.1.turns), .r [] (.int .i64 r.1.next)], .r [] (.int .i64 r.2.1), .r [] (.int .i64 r.2.2)], [.arr none (.st .task) r.1.tasks])
def yci (o : Out) : Option (Sched × Int × Int) := match o with
  | (.tup [.agg [.r [] (.int .i64 z1), .r [] (.int .i64 z2), .r [] (.int .i64 z3), .own 0, .r [] (.int .i64 z5), .r [] (.int .i64 z6), .r [] (.int .i64 z7), .r [] (.int .i64 z8)], .r [] (.int .i64 z9), .r [] (.int .i64 z10)], [.arr none (.st .task) z4]) => some ((⟨z1, z2, z3, z4, z5, z6, z7, z8⟩ : Sched), z9, z10)
  | _ => none
def ycj (k : Nat) : PG := fun _ l K => (ycg l).bind fun a => (S_Admit k a.1 a.2.1 a.2.2).bind fun r => K (ych r)
theorem yck (k : Nat) (a : Sched × List Int × Int) : ev (ycb k) (yce (Sched × Int × Int) k) 0 ycd (st0 Try.f31 (ycf a)) (fin Try.prog Try.f31 (.tup [.agg [.sc, .sc, .sc, .own (.st .task), .sc, .sc, .sc, .sc], .sc, .sc]) yci) = S_Admit k a.1 a.2.1 a.2.2 := by kernel_rfl
theorem ycl (k : Nat) : PureOk Try.prog 31 (ycj k) :=
  pureOk_of_ev (ycc k) Try.func31 (by kernel_rfl) (by kernel_rfl) ycf ycg
    (fun l a h => by unfold ycg at h; split at h <;> first | (cases h; rfl) | cases h) (fun a => rfl) (lpgood_none (by kernel_rfl))
    (fun o r h => by unfold yci at h; split at h <;> first | (cases h; rfl) | cases h) (yck k)
def ycm (k : Nat) : Orc := pureOrc [.agg [(.int .i64), (.int .i64), (.int .i64), (.sl (.st .task)), (.int .i64), (.int .i64), (.int .i64), (.int .i64)], .one (.sl (.int .i64)), .one (.int .i64)] (ycj k)
theorem ycn (k : Nat) : OrcOk Try.prog 31 (ycm k) := pureOrc_ok (ycl k)
noncomputable def yco (k : Nat) : Env := { P := Try.prog, tt := ttTask, orc := fun g => noOrc }
theorem ycp (k : Nat) : EnvOk (yco k) := fun g => (noOrc_ok _ _)
noncomputable def ycq : Code := (Try.f194.body).getD .skip
noncomputable def ycr : Code := ((loopsIn 0 ycq).getD 0 (0, .skip)).2
def ycs : List Nat := [0, 1, 4, 5]
def yct : List (Where × Co) := []
def ycu : Ex → List Nat
  | .exit j => cond (Nat.beq j 0) [0, 4] []
  | .ret => []
  | .normal => []
def ycv : Ex → List (Where × Co)
  | .exit j => cond (Nat.beq j 0) [] []
  | .ret => []
  | .normal => []
def ycw (pv : (Int × Int × Int × Int × Int × Int × Int × Int × List TaskK) × (Int × List TaskK)) : St := { slots := [(0, .ptr 0 0 0), (1, .r [] (.int .i64 pv.1.1)), (4, .own 1), (5, .r [] (.int .i64 pv.2.1))], heap := [(0, .box [.r [] (.int .i64 pv.1.2.1), .r [] (.int .i64 pv.1.2.2.1), .r [] (.int .i64 pv.1.2.2.2.1), .own 2, .r [] (.int .i64 pv.1.2.2.2.2.1), .r [] (.int .i64 pv.1.2.2.2.2.2.1), .r [] (.int .i64 pv.1.2.2.2.2.2.2.1), .r [] (.int .i64 pv.1.2.2.2.2.2.2.2.1)]), (1, .arr none (.st .taskK) pv.2.2), (2, .arr none (.st .taskK) pv.1.2.2.2.2.2.2.2.2)], nid := 3, n := 40, gh := [some 0, some 2] }
def ycx (nf : NF) : Option ((Int × Int × Int × Int × Int × Int × Int × Int × List TaskK) × (Int × List TaskK)) := match nf with
  | ([.ptr 0 0 0, .r [] (.int .i64 w0), .own 1, .r [] (.int .i64 w1)], [.box [.r [] (.int .i64 w2), .r [] (.int .i64 w3), .r [] (.int .i64 w4), .own 2, .r [] (.int .i64 w5), .r [] (.int .i64 w6), .r [] (.int .i64 w7), .r [] (.int .i64 w8)], .arr none (.st .taskK) w9, .arr none (.st .taskK) w10], [some 0, some 2]) => some ((w0, w2, w3, w4, w5, w6, w7, w8, w10), (w1, w9))
  | _ => none
theorem ycy (nf : NF) (v : (Int × Int × Int × Int × Int × Int × Int × Int × List TaskK) × (Int × List TaskK)) (h : ycx nf = some v) : denorm ycs 40 nf = ycw v := by
  unfold ycx at h
  split at h
  · cases h; rfl
  · cases h
def ycz (p : Int × Int × Int × Int × Int × Int × Int × Int × List TaskK) (x : List TaskK) : St := { slots := [(0, .ptr 0 0 0), (4, .own 1)], heap := [(0, .box [.r [] (.int .i64 p.2.1), .r [] (.int .i64 p.2.2.1), .r [] (.int .i64 p.2.2.2.1), .own 2, .r [] (.int .i64 p.2.2.2.2.1), .r [] (.int .i64 p.2.2.2.2.2.1), .r [] (.int .i64 p.2.2.2.2.2.2.1), .r [] (.int .i64 p.2.2.2.2.2.2.2.1)]), (1, .arr none (.st .taskK) x), (2, .arr none (.st .taskK) p.2.2.2.2.2.2.2.2)], nid := 3, n := 40, gh := [some 0, some 2] }
def yd0 (ρ : Type) (k : Nat) : Nat → Ev ρ → Ev ρ := fun id f => cond (Nat.beq id 0) (loopOrc ycs yct (fun n nf => cond (Nat.beq n 40) (ycx nf) none) fun pv K => iter (fun v next => S_l07Off_m3_g0 k pv.1 v next (fun x => K (.exit 0) (ycz pv.1 x))) k pv.2) ((fun _ _ _ _ => none) id f)
theorem yd1 {ρ : Type} (k : Nat) (p : Int × Int × Int × Int × Int × Int × Int × Int × List TaskK) (v : Int × List TaskK) (K K1 : Ex → St → Option ρ) : ev (yco k) (yd0 ρ k) 0 ycr (ycw (p, v)) (fun e st' => match e with
    | .normal => (normC ycs yct st').bind fun nf => K1 .normal (denorm ycs st'.n nf)
    | e => (normC (ycu e) (ycv e) st').bind fun nf => K e (denorm (ycu e) st'.n nf)) = S_l07Off_m3_g0 k p v (fun v' => K1 .normal (ycw (p, v'))) (fun x => K (.exit 0) (ycz p x)) := by kernel_rfl
theorem yd2 {ρ : Type} (k : Nat) : Sound Try.prog (.loop ycr) (yd0 ρ k 0 fun st K => ev (yco k) (yd0 ρ k) 0 ycr st K) :=
  loop_ok (ev_sound (ycp k) ycr 0 (lpgood_none (by kernel_rfl))) ycu ycv k (g := fun p v next K => S_l07Off_m3_g0 k p v next (fun x => K (.exit 0) (ycz p x))) (dec_at ycy) (fun p v K K1 => yd1 k p v K K1)
def yd3 (a : Int × Int × Int × List TaskK × Int × Int × Int × Int × Int) : List SV := [.ptr 0 0 0, .r [] (.int .i64 a.2.2.2.2.2.2.2.2)]
def yd4 (a : Int × Int × Int × List TaskK × Int × Int × Int × Int × Int) : List Blk := [.box [.r [] (.int .i64 a.1), .r [] (.int .i64 a.2.1), .r [] (.int .i64 a.2.2.1), .own 1, .r [] (.int .i64 a.2.2.2.2.1), .r [] (.int .i64 a.2.2.2.2.2.1), .r [] (.int .i64 a.2.2.2.2.2.2.1), .r [] (.int .i64 a.2.2.2.2.2.2.2.1)], .arr none (.st .taskK) a.2.2.2.1]
def yd5 (l : List SV) (b : List Blk) : Option (Int × Int × Int × List TaskK × Int × Int × Int × Int × Int) := match l, b with
  | [.ptr 0 0 0, .r [] (.int .i64 w0)], [.box [.r [] (.int .i64 w1), .r [] (.int .i64 w2), .r [] (.int .i64 w3), .own 1, .r [] (.int .i64 w4), .r [] (.int .i64 w5), .r [] (.int .i64 w6), .r [] (.int .i64 w7)], .arr none (.st .taskK) w8] => some (w1, w2, w3, w8, w4, w5, w6, w7, w0)
  | _, _ => none
def yd6 (a : Int × Int × Int × List TaskK × Int × Int × Int × Int × Int) (r : List TaskK) : MOut := ⟨.tup [], [some (.box [.r [] (.int .i64 a.1), .r [] (.int .i64 a.2.1), .r [] (.int .i64 a.2.2.1), .own 2, .r [] (.int .i64 a.2.2.2.2.1), .r [] (.int .i64 a.2.2.2.2.2.1), .r [] (.int .i64 a.2.2.2.2.2.2.1), .r [] (.int .i64 a.2.2.2.2.2.2.2.1)]), none], [.arr none (.st .taskK) r]⟩
def yd7 (a : Int × Int × Int × List TaskK × Int × Int × Int × Int × Int) (o : MOut) : Option (List TaskK) := match o with
  | ⟨.tup [], [some (.box [.r [] (.int .i64 z1), .r [] (.int .i64 z2), .r [] (.int .i64 z3), .own 2, .r [] (.int .i64 z4), .r [] (.int .i64 z5), .r [] (.int .i64 z6), .r [] (.int .i64 z7)]), none], [.arr none (.st .taskK) z8]⟩ => cond (@sameL Int _ z1 a.1) (cond (@sameL Int _ z2 a.2.1) (cond (@sameL Int _ z3 a.2.2.1) (cond (@sameL Int _ z4 a.2.2.2.2.1) (cond (@sameL Int _ z5 a.2.2.2.2.2.1) (cond (@sameL Int _ z6 a.2.2.2.2.2.2.1) (cond (@sameL Int _ z7 a.2.2.2.2.2.2.2.1) (some z8) none) none) none) none) none) none) none
  | _ => none
def yd8 (k : Nat) : MG := fun _ l b K => (yd5 l b).bind fun a => (S_l07Off_m3 k a.1 a.2.1 a.2.2.1 a.2.2.2.1 a.2.2.2.2.1 a.2.2.2.2.2.1 a.2.2.2.2.2.2.1 a.2.2.2.2.2.2.2.1 a.2.2.2.2.2.2.2.2).bind fun r => K (yd6 a r)
theorem yd9 (k : Nat) (a : Int × Int × Int × List TaskK × Int × Int × Int × Int × Int) : ev (yco k) (yd0 (List TaskK) k) 0 ycq (st0M Try.f194 (yd3 a) (yd4 a)) (finM Try.prog Try.f194 (.tup []) [.box [.sc, .sc, .sc, .own (.st .taskK), .sc, .sc, .sc, .sc], .gone] (yd7 a)) = S_l07Off_m3 k a.1 a.2.1 a.2.2.1 a.2.2.2.1 a.2.2.2.2.1 a.2.2.2.2.2.1 a.2.2.2.2.2.2.1 a.2.2.2.2.2.2.2.1 a.2.2.2.2.2.2.2.2 := by kernel_rfl
theorem yda (k : Nat) : MutOk Try.prog 194 (yd8 k) :=
  mutOk_of_ev (ycp k) Try.func194 (by kernel_rfl) (by kernel_rfl) yd3 yd4 yd5
    (fun l b a h => by unfold yd5 at h; split at h <;> first | (cases h; exact ⟨rfl, rfl⟩) | cases h) (fun a => rfl) (lpgood_of (l := [(0, ycr)]) (by kernel_rfl) ⟨yd2 k, trivial⟩) (fun a r => rfl)
    (fun a o r h => by unfold yd7 at h; split at h <;> first | (obtain ⟨e0, e1, e2, e3, e4, e5, e6, hq⟩ := dec_chk7 h; clear h; subst e0; subst e1; subst e2; subst e3; subst e4; subst e5; subst e6; have h := hq; clear hq; cases h; rfl) | cases h) (yd9 k)
noncomputable def ydb (k : Nat) : Env := { P := Try.prog, tt := tt, orc := fun g => cond (Nat.beq g 41) (y7i k) (cond (Nat.beq g 112) (y97 k) (cond (Nat.beq g 137) (y6t k) (cond (Nat.beq g 194) (mutOrc [.keep, .one (.int .i64)] (numG .task .taskK 1 (yd8 k))) (noOrc)))), wr := fun g => mem g [194], wt := true }
theorem ydc (k : Nat) : EnvOk (ydb k) := fun g => (orc_cond (y7j k) (orc_cond (y98 k) (orc_cond (y6u k) (orc_cond (mutOrc_ok (numOk (s := .task) (s' := .taskK) rfl rfl rfl 1 (fun _ _ _ _ => by simp only [yd8, Option.bind_assoc, Option.bind_some]) (fun T => @yda T k))) (noOrc_ok _ _)))))
noncomputable def ydd : Code := (Try.f128.body).getD .skip
def yde (ρ : Type) (k : Nat) : Nat → Ev ρ → Ev ρ := fun _ _ _ _ => none
def ydf (a : Sched × Int) : List Arg := [.agg [.int .i64 a.1.now, .int .i64 a.1.slack, .int .i64 a.1.age, .sl (.st .task) a.1.tasks, .int .i64 a.1.run, .int .i64 a.1.left, .int .i64 a.1.turns, .int .i64 a.1.next], .one (.int .i64 a.2)]
def ydg (l : List Arg) : Option (Sched × Int) := match l with
  | [.agg [.int .i64 b0_0, .int .i64 b0_1, .int .i64 b0_2, .sl (.st .task) b0_3, .int .i64 b0_4, .int .i64 b0_5, .int .i64 b0_6, .int .i64 b0_7], .one (.int .i64 b1)] => some ((⟨b0_0, b0_1, b0_2, b0_3, b0_4, b0_5, b0_6, b0_7⟩ : Sched), b1)
  | _ => none
def ydh (r : Sched × Bool) : Out := (.tup [.agg [.r [] (.int .i64 r.1.now), .r [] (.int .i64 r.1.slack), .r [] (.int .i64 r.1.age), .own 0, .r [] (.int .i64 r.1.run), .r [] (.int .i64 r.1.left), .r [] (.int .i64 r.1.turns), .r [] (.int .i64 r.1.next)], .r [] (.bool r.2)], [.arr none (.st .task) r.1.tasks])
def ydi (o : Out) : Option (Sched × Bool) := match o with
  | (.tup [.agg [.r [] (.int .i64 z1), .r [] (.int .i64 z2), .r [] (.int .i64 z3), .own 0, .r [] (.int .i64 z5), .r [] (.int .i64 z6), .r [] (.int .i64 z7), .r [] (.int .i64 z8)], .r [] (.bool z9)], [.arr none (.st .task) z4]) => some ((⟨z1, z2, z3, z4, z5, z6, z7, z8⟩ : Sched), z9)
  | _ => none
def ydj (k : Nat) : PG := fun _ l K => (ydg l).bind fun a => (S_CancelTask k a.1 a.2).bind fun r => K (ydh r)
theorem ydk (k : Nat) (a : Sched × Int) : ev (ydb k) (yde (Sched × Bool) k) 0 ydd (st0 Try.f128 (ydf a)) (fin Try.prog Try.f128 (.tup [.agg [.sc, .sc, .sc, .own (.st .task), .sc, .sc, .sc, .sc], .sc]) ydi) = S_CancelTask k a.1 a.2 := by kernel_rfl
theorem ydl (k : Nat) : PureOk Try.prog 128 (ydj k) :=
  pureOk_of_ev (ydc k) Try.func128 (by kernel_rfl) (by kernel_rfl) ydf ydg
    (fun l a h => by unfold ydg at h; split at h <;> first | (cases h; rfl) | cases h) (fun a => rfl) (lpgood_none (by kernel_rfl))
    (fun o r h => by unfold ydi at h; split at h <;> first | (cases h; rfl) | cases h) (ydk k)
def ydm (k : Nat) : Orc := pureOrc [.agg [(.int .i64), (.int .i64), (.int .i64), (.sl (.st .task)), (.int .i64), (.int .i64), (.int .i64), (.int .i64)], .one (.int .i64)] (ydj k)
theorem ydn (k : Nat) : OrcOk Try.prog 128 (ydm k) := pureOrc_ok (ydl k)
noncomputable def ydo (k : Nat) : Env := { P := Try.prog, tt := tt, orc := fun g => cond (Nat.beq g 41) (y7i k) (noOrc) }
theorem ydp (k : Nat) : EnvOk (ydo k) := fun g => (orc_cond (y7j k) (noOrc_ok _ _))
noncomputable def ydq : Code := (Try.f195.body).getD .skip
noncomputable def ydr : Code := ((loopsIn 0 ydq).getD 0 (0, .skip)).2
def yds : List Nat := [1, 3, 4, 5]
def ydt : List (Where × Co) := []
def ydu : Ex → List Nat
  | .exit j => cond (Nat.beq j 0) [1, 3, 4] []
  | .ret => []
  | .normal => []
def ydv : Ex → List (Where × Co)
  | .exit j => cond (Nat.beq j 0) [] []
  | .ret => []
  | .normal => []
def ydw (pv : (Int × Int × Int × List Task × Int × Int × Int × Int) × (Int × Int × Int)) : St := { slots := [(1, .ptr 0 0 0), (3, .r [] (.int .i64 pv.2.1)), (4, .r [] (.int .i64 pv.2.2.1)), (5, .r [] (.int .i64 pv.2.2.2))], heap := [(0, .box [.r [] (.int .i64 pv.1.1), .r [] (.int .i64 pv.1.2.1), .r [] (.int .i64 pv.1.2.2.1), .r [] (.sl (.st .task) pv.1.2.2.2.1), .r [] (.int .i64 pv.1.2.2.2.2.1), .r [] (.int .i64 pv.1.2.2.2.2.2.1), .r [] (.int .i64 pv.1.2.2.2.2.2.2.1), .r [] (.int .i64 pv.1.2.2.2.2.2.2.2)])], nid := 1, n := 88, gh := [] }
def ydx (nf : NF) : Option ((Int × Int × Int × List Task × Int × Int × Int × Int) × (Int × Int × Int)) := match nf with
  | ([.ptr 0 0 0, .r [] (.int .i64 w0), .r [] (.int .i64 w1), .r [] (.int .i64 w2)], [.box [.r [] (.int .i64 w3), .r [] (.int .i64 w4), .r [] (.int .i64 w5), .r [] (.sl (.st .task) w6), .r [] (.int .i64 w7), .r [] (.int .i64 w8), .r [] (.int .i64 w9), .r [] (.int .i64 w10)]], []) => some ((w3, w4, w5, w6, w7, w8, w9, w10), (w0, w1, w2))
  | _ => none
theorem ydy (nf : NF) (v : (Int × Int × Int × List Task × Int × Int × Int × Int) × (Int × Int × Int)) (h : ydx nf = some v) : denorm yds 88 nf = ydw v := by
  unfold ydx at h
  split at h
  · cases h; rfl
  · cases h
def ydz (p : Int × Int × Int × List Task × Int × Int × Int × Int) (x : Int × Int) : St := { slots := [(1, .ptr 0 0 0), (3, .r [] (.int .i64 x.1)), (4, .r [] (.int .i64 x.2))], heap := [(0, .box [.r [] (.int .i64 p.1), .r [] (.int .i64 p.2.1), .r [] (.int .i64 p.2.2.1), .r [] (.sl (.st .task) p.2.2.2.1), .r [] (.int .i64 p.2.2.2.2.1), .r [] (.int .i64 p.2.2.2.2.2.1), .r [] (.int .i64 p.2.2.2.2.2.2.1), .r [] (.int .i64 p.2.2.2.2.2.2.2)])], nid := 1, n := 88, gh := [] }
def ye0 (ρ : Type) (k : Nat) : Nat → Ev ρ → Ev ρ := fun id f => cond (Nat.beq id 0) (loopOrc yds ydt (fun n nf => cond (Nat.beq n 88) (ydx nf) none) fun pv K => iter (fun v next => S_PickNext_g0 k pv.1 v next (fun x => K (.exit 0) (ydz pv.1 x))) k pv.2) ((fun _ _ _ _ => none) id f)
theorem ye1 {ρ : Type} (k : Nat) (p : Int × Int × Int × List Task × Int × Int × Int × Int) (v : Int × Int × Int) (K K1 : Ex → St → Option ρ) : ev (ydo k) (ye0 ρ k) 0 ydr (ydw (p, v)) (fun e st' => match e with
    | .normal => (normC yds ydt st').bind fun nf => K1 .normal (denorm yds st'.n nf)
    | e => (normC (ydu e) (ydv e) st').bind fun nf => K e (denorm (ydu e) st'.n nf)) = S_PickNext_g0 k p v (fun v' => K1 .normal (ydw (p, v'))) (fun x => K (.exit 0) (ydz p x)) := by kernel_rfl
theorem ye2 {ρ : Type} (k : Nat) : Sound Try.prog (.loop ydr) (ye0 ρ k 0 fun st K => ev (ydo k) (ye0 ρ k) 0 ydr st K) :=
  loop_ok (ev_sound (ydp k) ydr 0 (lpgood_none (by kernel_rfl))) ydu ydv k (g := fun p v next K => S_PickNext_g0 k p v next (fun x => K (.exit 0) (ydz p x))) (dec_at ydy) (fun p v K K1 => ye1 k p v K K1)
def ye3 (a : Sched) : List Arg := [.agg [.int .i64 a.now, .int .i64 a.slack, .int .i64 a.age, .sl (.st .task) a.tasks, .int .i64 a.run, .int .i64 a.left, .int .i64 a.turns, .int .i64 a.next]]
def ye4 (l : List Arg) : Option (Sched) := match l with
  | [.agg [.int .i64 b0_0, .int .i64 b0_1, .int .i64 b0_2, .sl (.st .task) b0_3, .int .i64 b0_4, .int .i64 b0_5, .int .i64 b0_6, .int .i64 b0_7]] => some (⟨b0_0, b0_1, b0_2, b0_3, b0_4, b0_5, b0_6, b0_7⟩ : Sched)
  | _ => none
def ye5 (r : Int) : Out := (.r [] (.int .i64 r), [])
def ye6 (o : Out) : Option (Int) := match o with
  | (.r [] (.int .i64 z1), []) => some z1
  | _ => none
def ye7 (k : Nat) : PG := fun _ l K => (ye4 l).bind fun a => (S_PickNext k a).bind fun r => K (ye5 r)
theorem ye8 (k : Nat) (a : Sched) : ev (ydo k) (ye0 (Int) k) 0 ydq (st0 Try.f195 (ye3 a)) (fin Try.prog Try.f195 (.sc) ye6) = S_PickNext k a := by kernel_rfl
theorem ye9 (k : Nat) : PureOk Try.prog 195 (ye7 k) :=
  pureOk_of_ev (ydp k) Try.func195 (by kernel_rfl) (by kernel_rfl) ye3 ye4
    (fun l a h => by unfold ye4 at h; split at h <;> first | (cases h; rfl) | cases h) (fun a => rfl) (lpgood_of (l := [(0, ydr)]) (by kernel_rfl) ⟨ye2 k, trivial⟩)
    (fun o r h => by unfold ye6 at h; split at h <;> first | (cases h; rfl) | cases h) (ye8 k)
def yea (k : Nat) : Orc := pureOrc [.agg [(.int .i64), (.int .i64), (.int .i64), (.sl (.st .task)), (.int .i64), (.int .i64), (.int .i64), (.int .i64)]] (ye7 k)
theorem yeb (k : Nat) : OrcOk Try.prog 195 (yea k) := pureOrc_ok (ye9 k)
noncomputable def yec (k : Nat) : Env := { P := Try.prog, tt := tt, orc := fun g => cond (Nat.beq g 41) (y7i k) (cond (Nat.beq g 112) (y97 k) (cond (Nat.beq g 137) (y6t k) (cond (Nat.beq g 194) (mutOrc [.keep, .one (.int .i64)] (numG .task .taskK 1 (yd8 k))) (cond (Nat.beq g 195) (yea k) (noOrc))))), wr := fun g => mem g [194], wt := true }
theorem yed (k : Nat) : EnvOk (yec k) := fun g => (orc_cond (y7j k) (orc_cond (y98 k) (orc_cond (y6u k) (orc_cond (mutOrc_ok (numOk (s := .task) (s' := .taskK) rfl rfl rfl 1 (fun _ _ _ _ => by simp only [yd8, Option.bind_assoc, Option.bind_some]) (fun T => @yda T k))) (orc_cond (yeb k) (noOrc_ok _ _))))))
noncomputable def yee : Code := (Try.f129.body).getD .skip
def yef (ρ : Type) (k : Nat) : Nat → Ev ρ → Ev ρ := fun _ _ _ _ => none
def yeg (a : Sched × Bool) : List Arg := [.agg [.int .i64 a.1.now, .int .i64 a.1.slack, .int .i64 a.1.age, .sl (.st .task) a.1.tasks, .int .i64 a.1.run, .int .i64 a.1.left, .int .i64 a.1.turns, .int .i64 a.1.next], .one (.bool a.2)]
def yeh (l : List Arg) : Option (Sched × Bool) := match l with
  | [.agg [.int .i64 b0_0, .int .i64 b0_1, .int .i64 b0_2, .sl (.st .task) b0_3, .int .i64 b0_4, .int .i64 b0_5, .int .i64 b0_6, .int .i64 b0_7], .one (.bool b1)] => some ((⟨b0_0, b0_1, b0_2, b0_3, b0_4, b0_5, b0_6, b0_7⟩ : Sched), b1)
  | _ => none
def yei (r : Sched × Int × Bool) : Out := (.tup [.agg [.r [] (.int .i64 r.1.now), .r [] (.int .i64 r.1.slack), .r [] (.int .i64 r.1.age), .own 0, .r [] (.int .i64 r.1.run), .r [] (.int .i64 r.1.left), .r [] (.int .i64 r.1.turns), .r [] (.int .i64 r.1.next)], .r [] (.int .i64 r.2.1), .r [] (.bool r.2.2)], [.arr none (.st .task) r.1.tasks])
def yej (o : Out) : Option (Sched × Int × Bool) := match o with
  | (.tup [.agg [.r [] (.int .i64 z1), .r [] (.int .i64 z2), .r [] (.int .i64 z3), .own 0, .r [] (.int .i64 z5), .r [] (.int .i64 z6), .r [] (.int .i64 z7), .r [] (.int .i64 z8)], .r [] (.int .i64 z9), .r [] (.bool z10)], [.arr none (.st .task) z4]) => some ((⟨z1, z2, z3, z4, z5, z6, z7, z8⟩ : Sched), z9, z10)
  | _ => none
def yek (k : Nat) : PG := fun _ l K => (yeh l).bind fun a => (S_TickSched k a.1 a.2).bind fun r => K (yei r)
theorem yel (k : Nat) (a : Sched × Bool) : ev (yec k) (yef (Sched × Int × Bool) k) 0 yee (st0 Try.f129 (yeg a)) (fin Try.prog Try.f129 (.tup [.agg [.sc, .sc, .sc, .own (.st .task), .sc, .sc, .sc, .sc], .sc, .sc]) yej) = S_TickSched k a.1 a.2 := by kernel_rfl
theorem yem (k : Nat) : PureOk Try.prog 129 (yek k) :=
  pureOk_of_ev (yed k) Try.func129 (by kernel_rfl) (by kernel_rfl) yeg yeh
    (fun l a h => by unfold yeh at h; split at h <;> first | (cases h; rfl) | cases h) (fun a => rfl) (lpgood_none (by kernel_rfl))
    (fun o r h => by unfold yej at h; split at h <;> first | (cases h; rfl) | cases h) (yel k)
def yen (k : Nat) : Orc := pureOrc [.agg [(.int .i64), (.int .i64), (.int .i64), (.sl (.st .task)), (.int .i64), (.int .i64), (.int .i64), (.int .i64)], .one .bool] (yek k)
theorem yeo (k : Nat) : OrcOk Try.prog 129 (yen k) := pureOrc_ok (yem k)
noncomputable def yep (k : Nat) : Env := { P := Try.prog, tt := tt, orc := fun g => cond (Nat.beq g 31) (ycm k) (cond (Nat.beq g 127) (y7v k) (cond (Nat.beq g 128) (ydm k) (cond (Nat.beq g 129) (yen k) (noOrc)))) }
theorem yeq (k : Nat) : EnvOk (yep k) := fun g => (orc_cond (ycn k) (orc_cond (y7w k) (orc_cond (ydn k) (orc_cond (yeo k) (noOrc_ok _ _)))))
noncomputable def yer : Code := (Try.f37.body).getD .skip
noncomputable def yet : Code := ((loopsIn 0 yer).getD 0 (0, .skip)).2
def yeu : List Nat := [2, 6, 8, 10, 11]
def yev : List (Where × Co) := []
def yew : Ex → List Nat
  | .exit j => cond (Nat.beq j 0) [6, 8, 10] []
  | .ret => []
  | .normal => []
def yex : Ex → List (Where × Co)
  | .exit j => cond (Nat.beq j 0) [] []
  | .ret => []
  | .normal => []
def yey (pv : (List (List Int) × Int × Int × Int × Int × Int × Int × Int) × (Int × Int × Int × Int × Int × Int × Int × Int × List Int × List Task)) : St := { slots := [(2, .r [] (.sl (.sl (.int .i64)) pv.1.1)), (6, .ptr 0 0 0), (8, .ptr 1 0 0), (10, .own 2), (11, .r [] (.int .i64 pv.2.1))], heap := [(0, .box [.r [] (.int .i64 pv.1.2.1), .r [] (.int .i64 pv.1.2.2.1), .r [] (.int .i64 pv.1.2.2.2.1), .nilS, .r [] (.int .i64 pv.1.2.2.2.2.1), .r [] (.int .i64 pv.1.2.2.2.2.2.1), .r [] (.int .i64 pv.1.2.2.2.2.2.2.1), .r [] (.int .i64 pv.1.2.2.2.2.2.2.2)]), (1, .box [.r [] (.int .i64 pv.2.2.1), .r [] (.int .i64 pv.2.2.2.1), .r [] (.int .i64 pv.2.2.2.2.1), .own 3, .r [] (.int .i64 pv.2.2.2.2.2.1), .r [] (.int .i64 pv.2.2.2.2.2.2.1), .r [] (.int .i64 pv.2.2.2.2.2.2.2.1), .r [] (.int .i64 pv.2.2.2.2.2.2.2.2.1)]), (2, .arr none (.int .i64) pv.2.2.2.2.2.2.2.2.2.1), (3, .arr none (.st .task) pv.2.2.2.2.2.2.2.2.2.2)], nid := 4, n := 107, gh := [] }
def yez (nf : NF) : Option ((List (List Int) × Int × Int × Int × Int × Int × Int × Int) × (Int × Int × Int × Int × Int × Int × Int × Int × List Int × List Task)) := match nf with
  | ([.r [] (.sl (.sl (.int .i64)) w0), .ptr 0 0 0, .ptr 1 0 0, .own 2, .r [] (.int .i64 w1)], [.box [.r [] (.int .i64 w2), .r [] (.int .i64 w3), .r [] (.int .i64 w4), .nilS, .r [] (.int .i64 w5), .r [] (.int .i64 w6), .r [] (.int .i64 w7), .r [] (.int .i64 w8)], .box [.r [] (.int .i64 w9), .r [] (.int .i64 w10), .r [] (.int .i64 w11), .own 3, .r [] (.int .i64 w12), .r [] (.int .i64 w13), .r [] (.int .i64 w14), .r [] (.int .i64 w15)], .arr none (.int .i64) w16, .arr none (.st .task) w17], []) => some ((w0, w2, w3, w4, w5, w6, w7, w8), (w1, w9, w10, w11, w12, w13, w14, w15, w16, w17))
  | _ => none
theorem yf0 (nf : NF) (v : (List (List Int) × Int × Int × Int × Int × Int × Int × Int) × (Int × Int × Int × Int × Int × Int × Int × Int × List Int × List Task)) (h : yez nf = some v) : denorm yeu 107 nf = yey v := by
  unfold yez at h
  split at h
  · cases h; rfl
  · cases h
def yf1 (p : List (List Int) × Int × Int × Int × Int × Int × Int × Int) (x : Int × Int × Int × Int × Int × Int × Int × List Int × List Task) : St := { slots := [(6, .ptr 0 0 0), (8, .ptr 1 0 0), (10, .own 2)], heap := [(0, .box [.r [] (.int .i64 p.2.1), .r [] (.int .i64 p.2.2.1), .r [] (.int .i64 p.2.2.2.1), .nilS, .r [] (.int .i64 p.2.2.2.2.1), .r [] (.int .i64 p.2.2.2.2.2.1), .r [] (.int .i64 p.2.2.2.2.2.2.1), .r [] (.int .i64 p.2.2.2.2.2.2.2)]), (1, .box [.r [] (.int .i64 x.1), .r [] (.int .i64 x.2.1), .r [] (.int .i64 x.2.2.1), .own 3, .r [] (.int .i64 x.2.2.2.1), .r [] (.int .i64 x.2.2.2.2.1), .r [] (.int .i64 x.2.2.2.2.2.1), .r [] (.int .i64 x.2.2.2.2.2.2.1)]), (2, .arr none (.int .i64) x.2.2.2.2.2.2.2.1), (3, .arr none (.st .task) x.2.2.2.2.2.2.2.2)], nid := 4, n := 107, gh := [] }
def yf2 (ρ : Type) (k : Nat) : Nat → Ev ρ → Ev ρ := fun id f => cond (Nat.beq id 0) (loopOrc yeu yev (fun n nf => cond (Nat.beq n 107) (yez nf) none) fun pv K => iter (fun v next => S_PlaySched_g0 k pv.1 v next (fun x => K (.exit 0) (yf1 pv.1 x))) k pv.2) ((fun _ _ _ _ => none) id f)
theorem yf3 {ρ : Type} (k : Nat) (p : List (List Int) × Int × Int × Int × Int × Int × Int × Int) (v : Int × Int × Int × Int × Int × Int × Int × Int × List Int × List Task) (K K1 : Ex → St → Option ρ) : ev (yep k) (yf2 ρ k) 0 yet (yey (p, v)) (fun e st' => match e with
    | .normal => (normC yeu yev st').bind fun nf => K1 .normal (denorm yeu st'.n nf)
    | e => (normC (yew e) (yex e) st').bind fun nf => K e (denorm (yew e) st'.n nf)) = S_PlaySched_g0 k p v (fun v' => K1 .normal (yey (p, v'))) (fun x => K (.exit 0) (yf1 p x)) := by kernel_rfl
theorem yf4 {ρ : Type} (k : Nat) : Sound Try.prog (.loop yet) (yf2 ρ k 0 fun st K => ev (yep k) (yf2 ρ k) 0 yet st K) :=
  loop_ok (ev_sound (yeq k) yet 0 (lpgood_none (by kernel_rfl))) yew yex k (g := fun p v next K => S_PlaySched_g0 k p v next (fun x => K (.exit 0) (yf1 p x))) (dec_at yf0) (fun p v K K1 => yf3 k p v K K1)
def yf5 (a : Int × Int × List (List Int)) : List Arg := [.one (.int .i64 a.1), .one (.int .i64 a.2.1), .one (.sl (.sl (.int .i64)) a.2.2)]
def yf6 (l : List Arg) : Option (Int × Int × List (List Int)) := match l with
  | [.one (.int .i64 b0), .one (.int .i64 b1), .one (.sl (.sl (.int .i64)) b2)] => some (b0, b1, b2)
  | _ => none
def yf7 (r : Sched × List Int) : Out := (.tup [.agg [.r [] (.int .i64 r.1.now), .r [] (.int .i64 r.1.slack), .r [] (.int .i64 r.1.age), .own 0, .r [] (.int .i64 r.1.run), .r [] (.int .i64 r.1.left), .r [] (.int .i64 r.1.turns), .r [] (.int .i64 r.1.next)], .own 1], [.arr none (.st .task) r.1.tasks, .arr none (.int .i64) r.2])
def yf8 (o : Out) : Option (Sched × List Int) := match o with
  | (.tup [.agg [.r [] (.int .i64 z1), .r [] (.int .i64 z2), .r [] (.int .i64 z3), .own 0, .r [] (.int .i64 z5), .r [] (.int .i64 z6), .r [] (.int .i64 z7), .r [] (.int .i64 z8)], .own 1], [.arr none (.st .task) z4, .arr none (.int .i64) z9]) => some ((⟨z1, z2, z3, z4, z5, z6, z7, z8⟩ : Sched), z9)
  | _ => none
def yf9 (k : Nat) : PG := fun _ l K => (yf6 l).bind fun a => (S_PlaySched k a.1 a.2.1 a.2.2).bind fun r => K (yf7 r)
theorem yfa (k : Nat) (a : Int × Int × List (List Int)) : ev (yep k) (yf2 (Sched × List Int) k) 0 yer (st0 Try.f37 (yf5 a)) (fin Try.prog Try.f37 (.tup [.agg [.sc, .sc, .sc, .own (.st .task), .sc, .sc, .sc, .sc], .own (.int .i64)]) yf8) = S_PlaySched k a.1 a.2.1 a.2.2 := by kernel_rfl
theorem yfb (k : Nat) : PureOk Try.prog 37 (yf9 k) :=
  pureOk_of_ev (yeq k) Try.func37 (by kernel_rfl) (by kernel_rfl) yf5 yf6
    (fun l a h => by unfold yf6 at h; split at h <;> first | (cases h; rfl) | cases h) (fun a => rfl) (lpgood_of (l := [(0, yet)]) (by kernel_rfl) ⟨yf4 k, trivial⟩)
    (fun o r h => by unfold yf8 at h; split at h <;> first | (cases h; rfl) | cases h) (yfa k)
def yfc (k : Nat) : Orc := pureOrc [.one (.int .i64), .one (.int .i64), .one (.sl (.sl (.int .i64)))] (yf9 k)
theorem yfd (k : Nat) : OrcOk Try.prog 37 (yfc k) := pureOrc_ok (yfb k)
noncomputable def E_I_in (k : Nat) : Env := { P := Try.prog, tt := tt, orc := fun g => noOrc }
theorem yfe (k : Nat) : EnvOk (E_I_in k) := fun g => (noOrc_ok _ _)
noncomputable def c_I_in : Code := (Try.f132.body).getD .skip
def yff (ρ : Type) (k : Nat) : Nat → Ev ρ → Ev ρ := fun _ _ _ _ => none
def yfg (a : Int × Int × Int) : List Arg := [.one (.int .i64 a.1), .one (.int .i64 a.2.1), .one (.int .i64 a.2.2)]
def yfh (l : List Arg) : Option (Int × Int × Int) := match l with
  | [.one (.int .i64 b0), .one (.int .i64 b1), .one (.int .i64 b2)] => some (b0, b1, b2)
  | _ => none
def yfi (r : Bool) : Out := (.r [] (.bool r), [])
def yfj (o : Out) : Option (Bool) := match o with
  | (.r [] (.bool z1), []) => some z1
  | _ => none
def I_in_G (k : Nat) : PG := fun _ l K => (yfh l).bind fun a => (I_in k a.1 a.2.1 a.2.2).bind fun r => K (yfi r)
theorem yfk (k : Nat) (a : Int × Int × Int) : ev (E_I_in k) (yff (Bool) k) 0 c_I_in (st0 Try.f132 (yfg a)) (fin Try.prog Try.f132 (.sc) yfj) = I_in k a.1 a.2.1 a.2.2 := by kernel_rfl
theorem yfl (k : Nat) : PureOk Try.prog 132 (I_in_G k) :=
  pureOk_of_ev (yfe k) Try.func132 (by kernel_rfl) (by kernel_rfl) yfg yfh
    (fun l a h => by unfold yfh at h; split at h <;> first | (cases h; rfl) | cases h) (fun a => rfl) (lpgood_none (by kernel_rfl))
    (fun o r h => by unfold yfj at h; split at h <;> first | (cases h; rfl) | cases h) (yfk k)
def o_I_in (k : Nat) : Orc := pureOrc [.one (.int .i64), .one (.int .i64), .one (.int .i64)] (I_in_G k)
theorem yfm (k : Nat) : OrcOk Try.prog 132 (o_I_in k) := pureOrc_ok (yfl k)
noncomputable def yfn (k : Nat) : Env := { P := Try.prog, tt := tt, orc := fun g => cond (Nat.beq g 132) (o_I_in k) (noOrc) }
theorem yfo (k : Nat) : EnvOk (yfn k) := fun g => (orc_cond (yfm k) (noOrc_ok _ _))
noncomputable def yfp : Code := (Try.f131.body).getD .skip
def yfq (ρ : Type) (k : Nat) : Nat → Ev ρ → Ev ρ := fun _ _ _ _ => none
def yfr (a : Int) : List Arg := [.one (.int .i64 a)]
def yfs (l : List Arg) : Option (Int) := match l with
  | [.one (.int .i64 b0)] => some b0
  | _ => none
def yft (r : Bool) : Out := (.r [] (.bool r), [])
def yfu (o : Out) : Option (Bool) := match o with
  | (.r [] (.bool z1), []) => some z1
  | _ => none
def yfv (k : Nat) : PG := fun _ l K => (yfs l).bind fun a => (I_isTick k a).bind fun r => K (yft r)
theorem yfw (k : Nat) (a : Int) : ev (yfn k) (yfq (Bool) k) 0 yfp (st0 Try.f131 (yfr a)) (fin Try.prog Try.f131 (.sc) yfu) = I_isTick k a := by kernel_rfl
theorem yfx (k : Nat) : PureOk Try.prog 131 (yfv k) :=
  pureOk_of_ev (yfo k) Try.func131 (by kernel_rfl) (by kernel_rfl) yfr yfs
    (fun l a h => by unfold yfs at h; split at h <;> first | (cases h; rfl) | cases h) (fun a => rfl) (lpgood_none (by kernel_rfl))
    (fun o r h => by unfold yfu at h; split at h <;> first | (cases h; rfl) | cases h) (yfw k)
def yfy (k : Nat) : Orc := pureOrc [.one (.int .i64)] (yfv k)
theorem yfz (k : Nat) : OrcOk Try.prog 131 (yfy k) := pureOrc_ok (yfx k)
noncomputable def yg0 (k : Nat) : Env := { P := Try.prog, tt := tt, orc := fun g => cond (Nat.beq g 132) (o_I_in k) (noOrc) }
theorem yg1 (k : Nat) : EnvOk (yg0 k) := fun g => (orc_cond (yfm k) (noOrc_ok _ _))
noncomputable def yg2 : Code := (Try.f191.body).getD .skip
def yg3 (ρ : Type) (k : Nat) : Nat → Ev ρ → Ev ρ := fun _ _ _ _ => none
def yg4 (a : Int) : List Arg := [.one (.int .i64 a)]
def yg5 (l : List Arg) : Option (Int) := match l with
  | [.one (.int .i64 b0)] => some b0
  | _ => none
def yg6 (r : Bool) : Out := (.r [] (.bool r), [])
def yg7 (o : Out) : Option (Bool) := match o with
  | (.r [] (.bool z1), []) => some z1
  | _ => none
def yg8 (k : Nat) : PG := fun _ l K => (yg5 l).bind fun a => (I_TaskOk_c1 k a).bind fun r => K (yg6 r)
theorem yg9 (k : Nat) (a : Int) : ev (yg0 k) (yg3 (Bool) k) 0 yg2 (st0 Try.f191 (yg4 a)) (fin Try.prog Try.f191 (.sc) yg7) = I_TaskOk_c1 k a := by kernel_rfl
theorem yga (k : Nat) : PureOk Try.prog 191 (yg8 k) :=
  pureOk_of_ev (yg1 k) Try.func191 (by kernel_rfl) (by kernel_rfl) yg4 yg5
    (fun l a h => by unfold yg5 at h; split at h <;> first | (cases h; rfl) | cases h) (fun a => rfl) (lpgood_none (by kernel_rfl))
    (fun o r h => by unfold yg7 at h; split at h <;> first | (cases h; rfl) | cases h) (yg9 k)
def ygb (k : Nat) : Orc := pureOrc [.one (.int .i64)] (yg8 k)
theorem ygc (k : Nat) : OrcOk Try.prog 191 (ygb k) := pureOrc_ok (yga k)
noncomputable def ygd (k : Nat) : Env := { P := Try.prog, tt := tt, orc := fun g => cond (Nat.beq g 191) (ygb k) (noOrc) }
theorem yge (k : Nat) : EnvOk (ygd k) := fun g => (orc_cond (ygc k) (noOrc_ok _ _))
noncomputable def ygf : Code := (Try.f188.body).getD .skip
noncomputable def ygg : Code := ((loopsIn 0 ygf).getD 0 (0, .skip)).2
def ygh : List Nat := [0, 1, 7, 8]
def ygi : List (Where × Co) := []
def ygj : Ex → List Nat
  | .exit j => cond (Nat.beq j 0) [] []
  | .ret => [4]
  | .normal => []
def ygk : Ex → List (Where × Co)
  | .exit j => cond (Nat.beq j 0) [] []
  | .ret => []
  | .normal => []
def ygl (pv : (List Int × Int) × (Int)) : St := { slots := [(0, .r [] (.sl (.int .i64) pv.1.1)), (1, .fn (.func 191) [] []), (7, .r [] (.int .i64 pv.1.2)), (8, .r [] (.int .i64 pv.2))], heap := [], nid := 0, n := 19, gh := [] }
def ygm (nf : NF) : Option ((List Int × Int) × (Int)) := match nf with
  | ([.r [] (.sl (.int .i64) w0), .fn (.func 191) [] [], .r [] (.int .i64 w1), .r [] (.int .i64 w2)], [], []) => some ((w0, w1), w2)
  | _ => none
theorem ygn (nf : NF) (v : (List Int × Int) × (Int)) (h : ygm nf = some v) : denorm ygh 19 nf = ygl v := by
  unfold ygm at h
  split at h
  · cases h; rfl
  · cases h
def ygo (p : List Int × Int) (x : Unit) : St := { slots := [], heap := [], nid := 0, n := 19, gh := [] }
def ygp (p : List Int × Int) (x : Int) : St := { slots := [(4, .r [] (.int .i64 x))], heap := [], nid := 0, n := 19, gh := [] }
def ygq (ρ : Type) (k : Nat) : Nat → Ev ρ → Ev ρ := fun id f => cond (Nat.beq id 0) (loopOrc ygh ygi (fun n nf => cond (Nat.beq n 19) (ygm nf) none) fun pv K => iter (fun v next => slices_IndexFunc_lint_int__I_TaskOk_c1_g0 k pv.1 v next (fun x => K (.exit 0) (ygo pv.1 x)) (fun x => K .ret (ygp pv.1 x))) k pv.2) ((fun _ _ _ _ => none) id f)
theorem ygr {ρ : Type} (k : Nat) (p : List Int × Int) (v : Int) (K K1 : Ex → St → Option ρ) : ev (ygd k) (ygq ρ k) 0 ygg (ygl (p, v)) (fun e st' => match e with
    | .normal => (normC ygh ygi st').bind fun nf => K1 .normal (denorm ygh st'.n nf)
    | e => (normC (ygj e) (ygk e) st').bind fun nf => K e (denorm (ygj e) st'.n nf)) = slices_IndexFunc_lint_int__I_TaskOk_c1_g0 k p v (fun v' => K1 .normal (ygl (p, v'))) (fun x => K (.exit 0) (ygo p x)) (fun x => K .ret (ygp p x)) := by kernel_rfl
theorem ygs {ρ : Type} (k : Nat) : Sound Try.prog (.loop ygg) (ygq ρ k 0 fun st K => ev (ygd k) (ygq ρ k) 0 ygg st K) :=
  loop_ok (ev_sound (yge k) ygg 0 (lpgood_none (by kernel_rfl))) ygj ygk k (g := fun p v next K => slices_IndexFunc_lint_int__I_TaskOk_c1_g0 k p v next (fun x => K (.exit 0) (ygo p x)) (fun x => K .ret (ygp p x))) (dec_at ygn) (fun p v K K1 => ygr k p v K K1)
def ygt (a : List Int) : List Arg := [.one (.sl (.int .i64) a), .fn (.func 191) [] []]
def ygu (l : List Arg) : Option (List Int) := match l with
  | [.one (.sl (.int .i64) b0), .fn (.func 191) [] []] => some b0
  | _ => none
def ygv (r : Int) : Out := (.r [] (.int .i64 r), [])
def ygw (o : Out) : Option (Int) := match o with
  | (.r [] (.int .i64 z1), []) => some z1
  | _ => none
def ygx (k : Nat) : PG := fun _ l K => (ygu l).bind fun a => (slices_IndexFunc_lint_int__I_TaskOk_c1 k a).bind fun r => K (ygv r)
theorem ygy (k : Nat) (a : List Int) : ev (ygd k) (ygq (Int) k) 0 ygf (st0 Try.f188 (ygt a)) (fin Try.prog Try.f188 (.sc) ygw) = slices_IndexFunc_lint_int__I_TaskOk_c1 k a := by kernel_rfl
theorem ygz (k : Nat) : PureOk Try.prog 188 (ygx k) :=
  pureOk_of_ev (yge k) Try.func188 (by kernel_rfl) (by kernel_rfl) ygt ygu
    (fun l a h => by unfold ygu at h; split at h <;> first | (cases h; rfl) | cases h) (fun a => rfl) (lpgood_of (l := [(0, ygg)]) (by kernel_rfl) ⟨ygs k, trivial⟩)
    (fun o r h => by unfold ygw at h; split at h <;> first | (cases h; rfl) | cases h) (ygy k)
def yh0 (k : Nat) : Orc := pureOrc [.one (.sl (.int .i64)), .fn] (ygx k)
theorem yh1 (k : Nat) : OrcOk Try.prog 188 (yh0 k) := pureOrc_ok (ygz k)
noncomputable def yh2 (k : Nat) : Env := { P := Try.prog, tt := tt, orc := fun g => cond (Nat.beq g 188) (yh0 k) (noOrc) }
theorem yh3 (k : Nat) : EnvOk (yh2 k) := fun g => (orc_cond (yh1 k) (noOrc_ok _ _))
noncomputable def yh4 : Code := (Try.f104.body).getD .skip
def yh5 (ρ : Type) (k : Nat) : Nat → Ev ρ → Ev ρ := fun _ _ _ _ => none
def yh6 (a : List Int) : List Arg := [.one (.sl (.int .i64) a), .fn (.func 191) [] []]
def yh7 (l : List Arg) : Option (List Int) := match l with
  | [.one (.sl (.int .i64) b0), .fn (.func 191) [] []] => some b0
  | _ => none
def yh8 (r : Bool) : Out := (.r [] (.bool r), [])
def yh9 (o : Out) : Option (Bool) := match o with
  | (.r [] (.bool z1), []) => some z1
  | _ => none
def yha (k : Nat) : PG := fun _ l K => (yh7 l).bind fun a => (slices_ContainsFunc_lint_int__I_TaskOk_c1 k a).bind fun r => K (yh8 r)
theorem yhb (k : Nat) (a : List Int) : ev (yh2 k) (yh5 (Bool) k) 0 yh4 (st0 Try.f104 (yh6 a)) (fin Try.prog Try.f104 (.sc) yh9) = slices_ContainsFunc_lint_int__I_TaskOk_c1 k a := by kernel_rfl
theorem yhc (k : Nat) : PureOk Try.prog 104 (yha k) :=
  pureOk_of_ev (yh3 k) Try.func104 (by kernel_rfl) (by kernel_rfl) yh6 yh7
    (fun l a h => by unfold yh7 at h; split at h <;> first | (cases h; rfl) | cases h) (fun a => rfl) (lpgood_none (by kernel_rfl))
    (fun o r h => by unfold yh9 at h; split at h <;> first | (cases h; rfl) | cases h) (yhb k)
def yhd (k : Nat) : Orc := pureOrc [.one (.sl (.int .i64)), .fn] (yha k)
theorem yhe (k : Nat) : OrcOk Try.prog 104 (yhd k) := pureOrc_ok (yhc k)
noncomputable def yhf (k : Nat) : Env := { P := Try.prog, tt := tt, orc := fun g => cond (Nat.beq g 104) (yhd k) (cond (Nat.beq g 131) (yfy k) (cond (Nat.beq g 132) (o_I_in k) (noOrc))) }
theorem yhg (k : Nat) : EnvOk (yhf k) := fun g => (orc_cond (yhe k) (orc_cond (yfz k) (orc_cond (yfm k) (noOrc_ok _ _))))
noncomputable def yhh : Code := (Try.f117.body).getD .skip
def yhi (ρ : Type) (k : Nat) : Nat → Ev ρ → Ev ρ := fun _ _ _ _ => none
def yhj (a : Task) : List Arg := [.agg [.int .i64 a.id, .sl (.int .i64) a.costs, .int .i64 a.at_, .int .i64 a.due, .int .i64 a.born]]
def yhk (l : List Arg) : Option (Task) := match l with
  | [.agg [.int .i64 b0_0, .sl (.int .i64) b0_1, .int .i64 b0_2, .int .i64 b0_3, .int .i64 b0_4]] => some (⟨b0_0, b0_1, b0_2, b0_3, b0_4⟩ : Task)
  | _ => none
def yhl (r : Bool) : Out := (.r [] (.bool r), [])
def yhm (o : Out) : Option (Bool) := match o with
  | (.r [] (.bool z1), []) => some z1
  | _ => none
def yhn (k : Nat) : PG := fun _ l K => (yhk l).bind fun a => (I_TaskOk k a).bind fun r => K (yhl r)
theorem yho (k : Nat) (a : Task) : ev (yhf k) (yhi (Bool) k) 0 yhh (st0 Try.f117 (yhj a)) (fin Try.prog Try.f117 (.sc) yhm) = I_TaskOk k a := by kernel_rfl
theorem yhp (k : Nat) : PureOk Try.prog 117 (yhn k) :=
  pureOk_of_ev (yhg k) Try.func117 (by kernel_rfl) (by kernel_rfl) yhj yhk
    (fun l a h => by unfold yhk at h; split at h <;> first | (cases h; rfl) | cases h) (fun a => rfl) (lpgood_none (by kernel_rfl))
    (fun o r h => by unfold yhm at h; split at h <;> first | (cases h; rfl) | cases h) (yho k)
def yhq (k : Nat) : Orc := pureOrc [.agg [(.int .i64), (.sl (.int .i64)), (.int .i64), (.int .i64), (.int .i64)]] (yhn k)
theorem yhr (k : Nat) : OrcOk Try.prog 117 (yhq k) := pureOrc_ok (yhp k)
noncomputable def yhs (k : Nat) : Env := { P := Try.prog, tt := tt, orc := fun g => cond (Nat.beq g 117) (yhq k) (noOrc) }
theorem yht (k : Nat) : EnvOk (yhs k) := fun g => (orc_cond (yhr k) (noOrc_ok _ _))
noncomputable def yhu : Code := (Try.f133.body).getD .skip
noncomputable def yhv : Code := ((loopsIn 0 yhu).getD 0 (0, .skip)).2
def yhw : List Nat := [1, 6, 7, 8]
def yhx : List (Where × Co) := []
def yhy : Ex → List Nat
  | .exit j => cond (Nat.beq j 0) [1] []
  | .ret => [2]
  | .normal => []
def yhz : Ex → List (Where × Co)
  | .exit j => cond (Nat.beq j 0) [] []
  | .ret => []
  | .normal => []
def yi0 (pv : (List Task × Int × Int × Int × Int × List Task × Int × Int × Int × Int) × (Int)) : St := { slots := [(1, .ptr 0 0 0), (6, .r [] (.sl (.st .task) pv.1.1)), (7, .r [] (.int .i64 pv.1.2.1)), (8, .r [] (.int .i64 pv.2))], heap := [(0, .box [.r [] (.int .i64 pv.1.2.2.1), .r [] (.int .i64 pv.1.2.2.2.1), .r [] (.int .i64 pv.1.2.2.2.2.1), .r [] (.sl (.st .task) pv.1.2.2.2.2.2.1), .r [] (.int .i64 pv.1.2.2.2.2.2.2.1), .r [] (.int .i64 pv.1.2.2.2.2.2.2.2.1), .r [] (.int .i64 pv.1.2.2.2.2.2.2.2.2.1), .r [] (.int .i64 pv.1.2.2.2.2.2.2.2.2.2)])], nid := 1, n := 51, gh := [] }
def yi1 (nf : NF) : Option ((List Task × Int × Int × Int × Int × List Task × Int × Int × Int × Int) × (Int)) := match nf with
  | ([.ptr 0 0 0, .r [] (.sl (.st .task) w0), .r [] (.int .i64 w1), .r [] (.int .i64 w2)], [.box [.r [] (.int .i64 w3), .r [] (.int .i64 w4), .r [] (.int .i64 w5), .r [] (.sl (.st .task) w6), .r [] (.int .i64 w7), .r [] (.int .i64 w8), .r [] (.int .i64 w9), .r [] (.int .i64 w10)]], []) => some ((w0, w1, w3, w4, w5, w6, w7, w8, w9, w10), w2)
  | _ => none
theorem yi2 (nf : NF) (v : (List Task × Int × Int × Int × Int × List Task × Int × Int × Int × Int) × (Int)) (h : yi1 nf = some v) : denorm yhw 51 nf = yi0 v := by
  unfold yi1 at h
  split at h
  · cases h; rfl
  · cases h
def yi3 (p : List Task × Int × Int × Int × Int × List Task × Int × Int × Int × Int) (x : Unit) : St := { slots := [(1, .ptr 0 0 0)], heap := [(0, .box [.r [] (.int .i64 p.2.2.1), .r [] (.int .i64 p.2.2.2.1), .r [] (.int .i64 p.2.2.2.2.1), .r [] (.sl (.st .task) p.2.2.2.2.2.1), .r [] (.int .i64 p.2.2.2.2.2.2.1), .r [] (.int .i64 p.2.2.2.2.2.2.2.1), .r [] (.int .i64 p.2.2.2.2.2.2.2.2.1), .r [] (.int .i64 p.2.2.2.2.2.2.2.2.2)])], nid := 1, n := 51, gh := [] }
def yi4 (p : List Task × Int × Int × Int × Int × List Task × Int × Int × Int × Int) (x : Bool) : St := { slots := [(2, .r [] (.bool x))], heap := [], nid := 0, n := 51, gh := [] }
def yi5 (ρ : Type) (k : Nat) : Nat → Ev ρ → Ev ρ := fun id f => cond (Nat.beq id 0) (loopOrc yhw yhx (fun n nf => cond (Nat.beq n 51) (yi1 nf) none) fun pv K => iter (fun v next => I_Sched_areTasks_g0 k pv.1 v next (fun x => K (.exit 0) (yi3 pv.1 x)) (fun x => K .ret (yi4 pv.1 x))) k pv.2) ((fun _ _ _ _ => none) id f)
theorem yi6 {ρ : Type} (k : Nat) (p : List Task × Int × Int × Int × Int × List Task × Int × Int × Int × Int) (v : Int) (K K1 : Ex → St → Option ρ) : ev (yhs k) (yi5 ρ k) 0 yhv (yi0 (p, v)) (fun e st' => match e with
    | .normal => (normC yhw yhx st').bind fun nf => K1 .normal (denorm yhw st'.n nf)
    | e => (normC (yhy e) (yhz e) st').bind fun nf => K e (denorm (yhy e) st'.n nf)) = I_Sched_areTasks_g0 k p v (fun v' => K1 .normal (yi0 (p, v'))) (fun x => K (.exit 0) (yi3 p x)) (fun x => K .ret (yi4 p x)) := by kernel_rfl
theorem yi7 {ρ : Type} (k : Nat) : Sound Try.prog (.loop yhv) (yi5 ρ k 0 fun st K => ev (yhs k) (yi5 ρ k) 0 yhv st K) :=
  loop_ok (ev_sound (yht k) yhv 0 (lpgood_none (by kernel_rfl))) yhy yhz k (g := fun p v next K => I_Sched_areTasks_g0 k p v next (fun x => K (.exit 0) (yi3 p x)) (fun x => K .ret (yi4 p x))) (dec_at yi2) (fun p v K K1 => yi6 k p v K K1)
def yi8 (a : Sched) : List Arg := [.agg [.int .i64 a.now, .int .i64 a.slack, .int .i64 a.age, .sl (.st .task) a.tasks, .int .i64 a.run, .int .i64 a.left, .int .i64 a.turns, .int .i64 a.next]]
def yi9 (l : List Arg) : Option (Sched) := match l with
  | [.agg [.int .i64 b0_0, .int .i64 b0_1, .int .i64 b0_2, .sl (.st .task) b0_3, .int .i64 b0_4, .int .i64 b0_5, .int .i64 b0_6, .int .i64 b0_7]] => some (⟨b0_0, b0_1, b0_2, b0_3, b0_4, b0_5, b0_6, b0_7⟩ : Sched)
  | _ => none
def yia (r : Bool) : Out := (.r [] (.bool r), [])
def yib (o : Out) : Option (Bool) := match o with
  | (.r [] (.bool z1), []) => some z1
  | _ => none
def yic (k : Nat) : PG := fun _ l K => (yi9 l).bind fun a => (I_Sched_areTasks k a).bind fun r => K (yia r)
theorem yid (k : Nat) (a : Sched) : ev (yhs k) (yi5 (Bool) k) 0 yhu (st0 Try.f133 (yi8 a)) (fin Try.prog Try.f133 (.sc) yib) = I_Sched_areTasks k a := by kernel_rfl
theorem yie (k : Nat) : PureOk Try.prog 133 (yic k) :=
  pureOk_of_ev (yht k) Try.func133 (by kernel_rfl) (by kernel_rfl) yi8 yi9
    (fun l a h => by unfold yi9 at h; split at h <;> first | (cases h; rfl) | cases h) (fun a => rfl) (lpgood_of (l := [(0, yhv)]) (by kernel_rfl) ⟨yi7 k, trivial⟩)
    (fun o r h => by unfold yib at h; split at h <;> first | (cases h; rfl) | cases h) (yid k)
def yif (k : Nat) : Orc := pureOrc [.agg [(.int .i64), (.int .i64), (.int .i64), (.sl (.st .task)), (.int .i64), (.int .i64), (.int .i64), (.int .i64)]] (yic k)
theorem yig (k : Nat) : OrcOk Try.prog 133 (yif k) := pureOrc_ok (yie k)
noncomputable def yih (k : Nat) : Env := { P := Try.prog, tt := tt, orc := fun g => noOrc }
theorem yii (k : Nat) : EnvOk (yih k) := fun g => (noOrc_ok _ _)
noncomputable def yij : Code := (Try.f197.body).getD .skip
def yik (ρ : Type) (k : Nat) : Nat → Ev ρ → Ev ρ := fun _ _ _ _ => none
def yil (a : Task × Int) : List SV := [.agg [.r [] (.int .i64 a.1.id), .r [] (.sl (.int .i64) a.1.costs), .r [] (.int .i64 a.1.at_), .r [] (.int .i64 a.1.due), .r [] (.int .i64 a.1.born)], .ptr 0 0 0]
def yim (a : Task × Int) : List Blk := [.box [.r [] (.int .i64 a.2)]]
def yin (l : List SV) (b : List Blk) : Option (Task × Int) := match l, b with
  | [.agg [.r [] (.int .i64 w0), .r [] (.sl (.int .i64) w1), .r [] (.int .i64 w2), .r [] (.int .i64 w3), .r [] (.int .i64 w4)], .ptr 0 0 0], [.box [.r [] (.int .i64 w5)]] => some ((⟨w0, w1, w2, w3, w4⟩ : Task), w5)
  | _, _ => none
def yio (a : Task × Int) (r : Bool) : MOut := ⟨.r [] (.bool r), [some (.box [.r [] (.int .i64 a.2)])], []⟩
def yip (a : Task × Int) (o : MOut) : Option (Bool) := match o with
  | ⟨.r [] (.bool z1), [some (.box [.r [] (.int .i64 z2)])], []⟩ => cond (@sameL Int _ z2 a.2) (some z1) none
  | _ => none
def yiq (k : Nat) : MG := fun _ l b K => (yin l b).bind fun a => (I_Sched_find_c1_m k a.1 a.2).bind fun r => K (yio a r)
theorem yir (k : Nat) (a : Task × Int) : ev (yih k) (yik (Bool) k) 0 yij (st0M Try.f197 (yil a) (yim a)) (finM Try.prog Try.f197 (.sc) [.box [.sc]] (yip a)) = I_Sched_find_c1_m k a.1 a.2 := by kernel_rfl
theorem yis (k : Nat) : MutOk Try.prog 197 (yiq k) :=
  mutOk_of_ev (yii k) Try.func197 (by kernel_rfl) (by kernel_rfl) yil yim yin
    (fun l b a h => by unfold yin at h; split at h <;> first | (cases h; exact ⟨rfl, rfl⟩) | cases h) (fun a => rfl) (lpgood_none (by kernel_rfl)) (fun a r => rfl)
    (fun a o r h => by unfold yip at h; split at h <;> first | (obtain ⟨e0, hq⟩ := dec_chk1 h; clear h; subst e0; have h := hq; clear hq; cases h; rfl) | cases h) (yir k)
def yit (k : Nat) : Orc := mutOrc [.agg [(.int .i64), (.sl (.int .i64)), (.int .i64), (.int .i64), (.int .i64)], .keep] (yiq k)
theorem yiu (k : Nat) : OrcOk Try.prog 197 (yit k) := mutOrc_ok (yis k)
noncomputable def yiv (k : Nat) : Env := { P := Try.prog, tt := tt, orc := fun g => cond (Nat.beq g 197) (yit k) (noOrc), wr := fun g => mem g [197], wt := true }
theorem yiw (k : Nat) : EnvOk (yiv k) := fun g => (orc_cond (yiu k) (noOrc_ok _ _))
noncomputable def yix : Code := (Try.f192.body).getD .skip
noncomputable def yiy : Code := ((loopsIn 0 yix).getD 0 (0, .skip)).2
def yiz : List Nat := [0, 1, 7, 8]
def yj0 : List (Where × Co) := []
def yj1 : Ex → List Nat
  | .exit j => cond (Nat.beq j 0) [] []
  | .ret => [4]
  | .normal => []
def yj2 : Ex → List (Where × Co)
  | .exit j => cond (Nat.beq j 0) [] []
  | .ret => []
  | .normal => []
def yj3 (pv : (List Task × Int × Int) × (Int)) : St := { slots := [(0, .r [] (.sl (.st .task) pv.1.1)), (1, .fn (.func 197) [] [.ptr 0 0 0]), (7, .r [] (.int .i64 pv.1.2.1)), (8, .r [] (.int .i64 pv.2))], heap := [(0, .box [.r [] (.int .i64 pv.1.2.2)])], nid := 1, n := 19, gh := [some 0] }
def yj4 (nf : NF) : Option ((List Task × Int × Int) × (Int)) := match nf with
  | ([.r [] (.sl (.st .task) w0), .fn (.func 197) [] [.ptr 0 0 0], .r [] (.int .i64 w1), .r [] (.int .i64 w2)], [.box [.r [] (.int .i64 w3)]], [some 0]) => some ((w0, w1, w3), w2)
  | _ => none
theorem yj5 (nf : NF) (v : (List Task × Int × Int) × (Int)) (h : yj4 nf = some v) : denorm yiz 19 nf = yj3 v := by
  unfold yj4 at h
  split at h
  · cases h; rfl
  · cases h
def yj6 (p : List Task × Int × Int) (x : Unit) : St := { slots := [], heap := [(0, .box [.r [] (.int .i64 p.2.2)])], nid := 1, n := 19, gh := [some 0] }
def yj7 (p : List Task × Int × Int) (x : Int) : St := { slots := [(4, .r [] (.int .i64 x))], heap := [(0, .box [.r [] (.int .i64 p.2.2)])], nid := 1, n := 19, gh := [some 0] }
def yj8 (ρ : Type) (k : Nat) : Nat → Ev ρ → Ev ρ := fun id f => cond (Nat.beq id 0) (loopOrc yiz yj0 (fun n nf => cond (Nat.beq n 19) (yj4 nf) none) fun pv K => iter (fun v next => slices_IndexFunc_lI_Task_I_Task_m_g0 k pv.1 v next (fun x => K (.exit 0) (yj6 pv.1 x)) (fun x => K .ret (yj7 pv.1 x))) k pv.2) ((fun _ _ _ _ => none) id f)
theorem yj9 {ρ : Type} (k : Nat) (p : List Task × Int × Int) (v : Int) (K K1 : Ex → St → Option ρ) : ev (yiv k) (yj8 ρ k) 0 yiy (yj3 (p, v)) (fun e st' => match e with
    | .normal => (normC yiz yj0 st').bind fun nf => K1 .normal (denorm yiz st'.n nf)
    | e => (normC (yj1 e) (yj2 e) st').bind fun nf => K e (denorm (yj1 e) st'.n nf)) = slices_IndexFunc_lI_Task_I_Task_m_g0 k p v (fun v' => K1 .normal (yj3 (p, v'))) (fun x => K (.exit 0) (yj6 p x)) (fun x => K .ret (yj7 p x)) := by kernel_rfl
theorem yja {ρ : Type} (k : Nat) : Sound Try.prog (.loop yiy) (yj8 ρ k 0 fun st K => ev (yiv k) (yj8 ρ k) 0 yiy st K) :=
  loop_ok (ev_sound (yiw k) yiy 0 (lpgood_none (by kernel_rfl))) yj1 yj2 k (g := fun p v next K => slices_IndexFunc_lI_Task_I_Task_m_g0 k p v next (fun x => K (.exit 0) (yj6 p x)) (fun x => K .ret (yj7 p x))) (dec_at yj5) (fun p v K K1 => yj9 k p v K K1)
def yjb (a : List Task × Int) : List SV := [.r [] (.sl (.st .task) a.1), .fn (.func 197) [] [.ptr 0 0 0]]
def yjc (a : List Task × Int) : List Blk := [.box [.r [] (.int .i64 a.2)]]
def yjd (l : List SV) (b : List Blk) : Option (List Task × Int) := match l, b with
  | [.r [] (.sl (.st .task) w0), .fn (.func 197) [] [.ptr 0 0 0]], [.box [.r [] (.int .i64 w1)]] => some (w0, w1)
  | _, _ => none
def yje (a : List Task × Int) (r : Int) : MOut := ⟨.r [] (.int .i64 r), [some (.box [.r [] (.int .i64 a.2)])], []⟩
def yjf (a : List Task × Int) (o : MOut) : Option (Int) := match o with
  | ⟨.r [] (.int .i64 z1), [some (.box [.r [] (.int .i64 z2)])], []⟩ => cond (@sameL Int _ z2 a.2) (some z1) none
  | _ => none
def yjg (k : Nat) : MG := fun _ l b K => (yjd l b).bind fun a => (slices_IndexFunc_lI_Task_I_Task_m k a.1 a.2).bind fun r => K (yje a r)
theorem yjh (k : Nat) (a : List Task × Int) : ev (yiv k) (yj8 (Int) k) 0 yix (st0M Try.f192 (yjb a) (yjc a)) (finM Try.prog Try.f192 (.sc) [.box [.sc]] (yjf a)) = slices_IndexFunc_lI_Task_I_Task_m k a.1 a.2 := by kernel_rfl
theorem yji (k : Nat) : MutOk Try.prog 192 (yjg k) :=
  mutOk_of_ev (yiw k) Try.func192 (by kernel_rfl) (by kernel_rfl) yjb yjc yjd
    (fun l b a h => by unfold yjd at h; split at h <;> first | (cases h; exact ⟨rfl, rfl⟩) | cases h) (fun a => rfl) (lpgood_of (l := [(0, yiy)]) (by kernel_rfl) ⟨yja k, trivial⟩) (fun a r => rfl)
    (fun a o r h => by unfold yjf at h; split at h <;> first | (obtain ⟨e0, hq⟩ := dec_chk1 h; clear h; subst e0; have h := hq; clear hq; cases h; rfl) | cases h) (yjh k)
def yjj (k : Nat) : Orc := mutOrc [.one (.sl (.st .task)), .keep] (yjg k)
theorem yjk (k : Nat) : OrcOk Try.prog 192 (yjj k) := mutOrc_ok (yji k)
noncomputable def yjl (k : Nat) : Env := { P := Try.prog, tt := tt, orc := fun g => cond (Nat.beq g 192) (yjj k) (noOrc), wr := fun g => mem g [192], wt := true }
theorem yjm (k : Nat) : EnvOk (yjl k) := fun g => (orc_cond (yjk k) (noOrc_ok _ _))
noncomputable def yjn : Code := (Try.f134.body).getD .skip
def yjo (ρ : Type) (k : Nat) : Nat → Ev ρ → Ev ρ := fun _ _ _ _ => none
def yjp (a : Sched × Int) : List Arg := [.agg [.int .i64 a.1.now, .int .i64 a.1.slack, .int .i64 a.1.age, .sl (.st .task) a.1.tasks, .int .i64 a.1.run, .int .i64 a.1.left, .int .i64 a.1.turns, .int .i64 a.1.next], .one (.int .i64 a.2)]
def yjq (l : List Arg) : Option (Sched × Int) := match l with
  | [.agg [.int .i64 b0_0, .int .i64 b0_1, .int .i64 b0_2, .sl (.st .task) b0_3, .int .i64 b0_4, .int .i64 b0_5, .int .i64 b0_6, .int .i64 b0_7], .one (.int .i64 b1)] => some ((⟨b0_0, b0_1, b0_2, b0_3, b0_4, b0_5, b0_6, b0_7⟩ : Sched), b1)
  | _ => none
def yjr (r : Int) : Out := (.r [] (.int .i64 r), [])
def yjs (o : Out) : Option (Int) := match o with
  | (.r [] (.int .i64 z1), []) => some z1
  | _ => none
def yjt (k : Nat) : PG := fun _ l K => (yjq l).bind fun a => (I_Sched_find k a.1 a.2).bind fun r => K (yjr r)
theorem yju (k : Nat) (a : Sched × Int) : ev (yjl k) (yjo (Int) k) 0 yjn (st0 Try.f134 (yjp a)) (fin Try.prog Try.f134 (.sc) yjs) = I_Sched_find k a.1 a.2 := by kernel_rfl
theorem yjv (k : Nat) : PureOk Try.prog 134 (yjt k) :=
  pureOk_of_ev (yjm k) Try.func134 (by kernel_rfl) (by kernel_rfl) yjp yjq
    (fun l a h => by unfold yjq at h; split at h <;> first | (cases h; rfl) | cases h) (fun a => rfl) (lpgood_none (by kernel_rfl))
    (fun o r h => by unfold yjs at h; split at h <;> first | (cases h; rfl) | cases h) (yju k)
def yjw (k : Nat) : Orc := pureOrc [.agg [(.int .i64), (.int .i64), (.int .i64), (.sl (.st .task)), (.int .i64), (.int .i64), (.int .i64), (.int .i64)], .one (.int .i64)] (yjt k)
theorem yjx (k : Nat) : OrcOk Try.prog 134 (yjw k) := pureOrc_ok (yjv k)
noncomputable def yjy (k : Nat) : Env := { P := Try.prog, tt := tt, orc := fun g => cond (Nat.beq g 131) (yfy k) (cond (Nat.beq g 132) (o_I_in k) (cond (Nat.beq g 133) (yif k) (cond (Nat.beq g 134) (yjw k) (noOrc)))) }
theorem yjz (k : Nat) : EnvOk (yjy k) := fun g => (orc_cond (yfz k) (orc_cond (yfm k) (orc_cond (yig k) (orc_cond (yjx k) (noOrc_ok _ _)))))
noncomputable def yk0 : Code := (Try.f40.body).getD .skip
def yk1 (ρ : Type) (k : Nat) : Nat → Ev ρ → Ev ρ := fun _ _ _ _ => none
def yk2 (a : Sched) : List Arg := [.agg [.int .i64 a.now, .int .i64 a.slack, .int .i64 a.age, .sl (.st .task) a.tasks, .int .i64 a.run, .int .i64 a.left, .int .i64 a.turns, .int .i64 a.next]]
def yk3 (l : List Arg) : Option (Sched) := match l with
  | [.agg [.int .i64 b0_0, .int .i64 b0_1, .int .i64 b0_2, .sl (.st .task) b0_3, .int .i64 b0_4, .int .i64 b0_5, .int .i64 b0_6, .int .i64 b0_7]] => some (⟨b0_0, b0_1, b0_2, b0_3, b0_4, b0_5, b0_6, b0_7⟩ : Sched)
  | _ => none
def yk4 (r : Bool) : Out := (.r [] (.bool r), [])
def yk5 (o : Out) : Option (Bool) := match o with
  | (.r [] (.bool z1), []) => some z1
  | _ => none
def yk6 (k : Nat) : PG := fun _ l K => (yk3 l).bind fun a => (I_SchedOk k a).bind fun r => K (yk4 r)
theorem yk7 (k : Nat) (a : Sched) : ev (yjy k) (yk1 (Bool) k) 0 yk0 (st0 Try.f40 (yk2 a)) (fin Try.prog Try.f40 (.sc) yk5) = I_SchedOk k a := by kernel_rfl
theorem yk8 (k : Nat) : PureOk Try.prog 40 (yk6 k) :=
  pureOk_of_ev (yjz k) Try.func40 (by kernel_rfl) (by kernel_rfl) yk2 yk3
    (fun l a h => by unfold yk3 at h; split at h <;> first | (cases h; rfl) | cases h) (fun a => rfl) (lpgood_none (by kernel_rfl))
    (fun o r h => by unfold yk5 at h; split at h <;> first | (cases h; rfl) | cases h) (yk7 k)
def yk9 (k : Nat) : Orc := pureOrc [.agg [(.int .i64), (.int .i64), (.int .i64), (.sl (.st .task)), (.int .i64), (.int .i64), (.int .i64), (.int .i64)]] (yk6 k)
theorem yka (k : Nat) : OrcOk Try.prog 40 (yk9 k) := pureOrc_ok (yk8 k)
noncomputable def ykb (k : Nat) : Env := { P := Try.prog, tt := tt, orc := fun g => cond (Nat.beq g 40) (yk9 k) (noOrc) }
theorem ykc (k : Nat) : EnvOk (ykb k) := fun g => (orc_cond (yka k) (noOrc_ok _ _))
noncomputable def ykd : Code := (Try.f35.body).getD .skip
def yke (ρ : Type) (k : Nat) : Nat → Ev ρ → Ev ρ := fun _ _ _ _ => none
def ykf (a : Int × Int) : List Arg := [.one (.int .i64 a.1), .one (.int .i64 a.2)]
def ykg (l : List Arg) : Option (Int × Int) := match l with
  | [.one (.int .i64 b0), .one (.int .i64 b1)] => some (b0, b1)
  | _ => none
def ykh (r : Sched × Bool) : Out := (.tup [.agg [.r [] (.int .i64 r.1.now), .r [] (.int .i64 r.1.slack), .r [] (.int .i64 r.1.age), .own 0, .r [] (.int .i64 r.1.run), .r [] (.int .i64 r.1.left), .r [] (.int .i64 r.1.turns), .r [] (.int .i64 r.1.next)], .r [] (.bool r.2)], [.arr none (.st .task) r.1.tasks])
def yki (o : Out) : Option (Sched × Bool) := match o with
  | (.tup [.agg [.r [] (.int .i64 z1), .r [] (.int .i64 z2), .r [] (.int .i64 z3), .own 0, .r [] (.int .i64 z5), .r [] (.int .i64 z6), .r [] (.int .i64 z7), .r [] (.int .i64 z8)], .r [] (.bool z9)], [.arr none (.st .task) z4]) => some ((⟨z1, z2, z3, z4, z5, z6, z7, z8⟩ : Sched), z9)
  | _ => none
def ykj (k : Nat) : PG := fun _ l K => (ykg l).bind fun a => (I_NewSched k a.1 a.2).bind fun r => K (ykh r)
theorem ykk (k : Nat) (a : Int × Int) : ev (ykb k) (yke (Sched × Bool) k) 0 ykd (st0 Try.f35 (ykf a)) (fin Try.prog Try.f35 (.tup [.agg [.sc, .sc, .sc, .own (.st .task), .sc, .sc, .sc, .sc], .sc]) yki) = I_NewSched k a.1 a.2 := by kernel_rfl
theorem ykl (k : Nat) : PureOk Try.prog 35 (ykj k) :=
  pureOk_of_ev (ykc k) Try.func35 (by kernel_rfl) (by kernel_rfl) ykf ykg
    (fun l a h => by unfold ykg at h; split at h <;> first | (cases h; rfl) | cases h) (fun a => rfl) (lpgood_none (by kernel_rfl))
    (fun o r h => by unfold yki at h; split at h <;> first | (cases h; rfl) | cases h) (ykk k)
def ykm (k : Nat) : Orc := pureOrc [.one (.int .i64), .one (.int .i64)] (ykj k)
theorem ykn (k : Nat) : OrcOk Try.prog 35 (ykm k) := pureOrc_ok (ykl k)
noncomputable def yko (k : Nat) : Env := { P := Try.prog, tt := tt, orc := fun g => noOrc }
theorem ykp (k : Nat) : EnvOk (yko k) := fun g => (noOrc_ok _ _)
noncomputable def ykq : Code := (Try.f115.body).getD .skip
def ykr (ρ : Type) (k : Nat) : Nat → Ev ρ → Ev ρ := fun _ _ _ _ => none
def yks (a : List Int) : List Arg := [.one (.sl (.int .i64) a)]
def ykt (l : List Arg) : Option (List Int) := match l with
  | [.one (.sl (.int .i64) b0)] => some b0
  | _ => none
def yku (r : List Int) : Out := (.own 0, [.arr none (.int .i64) r])
def ykv (o : Out) : Option (List Int) := match o with
  | (.own 0, [.arr none (.int .i64) z1]) => some z1
  | _ => none
def ykw (k : Nat) : PG := fun _ l K => (ykt l).bind fun a => (slices_Clone_lint_int k a).bind fun r => K (yku r)
theorem ykx (k : Nat) (a : List Int) : ev (yko k) (ykr (List Int) k) 0 ykq (st0 Try.f115 (yks a)) (fin Try.prog Try.f115 (.own (.int .i64)) ykv) = slices_Clone_lint_int k a := by kernel_rfl
theorem yky (k : Nat) : PureOk Try.prog 115 (ykw k) :=
  pureOk_of_ev (ykp k) Try.func115 (by kernel_rfl) (by kernel_rfl) yks ykt
    (fun l a h => by unfold ykt at h; split at h <;> first | (cases h; rfl) | cases h) (fun a => rfl) (lpgood_none (by kernel_rfl))
    (fun o r h => by unfold ykv at h; split at h <;> first | (cases h; rfl) | cases h) (ykx k)
def ykz (k : Nat) : Orc := pureOrc [.one (.sl (.int .i64))] (ykw k)
theorem yl0 (k : Nat) : OrcOk Try.prog 115 (ykz k) := pureOrc_ok (yky k)
noncomputable def yl1 (k : Nat) : Env := { P := Try.prog, tt := tt, orc := fun g => cond (Nat.beq g 115) (ykz k) (noOrc) }
theorem yl2 (k : Nat) : EnvOk (yl1 k) := fun g => (orc_cond (yl0 k) (noOrc_ok _ _))
noncomputable def yl3 : Code := (Try.f116.body).getD .skip
noncomputable def yl4 : Code := ((loopsIn 0 yl3).getD 0 (0, .skip)).2
def yl5 : List Nat := [1, 2, 9, 10, 11]
def yl6 : List (Where × Co) := [((.pbox 1 3), (.nilOwn false (.st .task)))]
def yl7 : Ex → List Nat
  | .exit j => cond (Nat.beq j 0) [1, 2] []
  | .ret => []
  | .normal => []
def yl8 : Ex → List (Where × Co)
  | .exit j => cond (Nat.beq j 0) [] []
  | .ret => []
  | .normal => []
def yl9 (pv : (List Task × Int × Int × Int × Int × Int × Int × Int × Int × Int × Int × Int × Int × Int × Int × Int) × (Int × List Task)) : St := { slots := [(1, .ptr 0 0 0), (2, .ptr 1 0 0), (9, .r [] (.sl (.st .task) pv.1.1)), (10, .r [] (.int .i64 pv.1.2.1)), (11, .r [] (.int .i64 pv.2.1))], heap := [(0, .box [.r [] (.int .i64 pv.1.2.2.1), .r [] (.int .i64 pv.1.2.2.2.1), .r [] (.int .i64 pv.1.2.2.2.2.1), .own 2, .r [] (.int .i64 pv.1.2.2.2.2.2.1), .r [] (.int .i64 pv.1.2.2.2.2.2.2.1), .r [] (.int .i64 pv.1.2.2.2.2.2.2.2.1), .r [] (.int .i64 pv.1.2.2.2.2.2.2.2.2.1)]), (1, .box [.r [] (.int .i64 pv.1.2.2.2.2.2.2.2.2.2.1), .r [] (.int .i64 pv.1.2.2.2.2.2.2.2.2.2.2.1), .r [] (.int .i64 pv.1.2.2.2.2.2.2.2.2.2.2.2.1), .nilS, .r [] (.int .i64 pv.1.2.2.2.2.2.2.2.2.2.2.2.2.1), .r [] (.int .i64 pv.1.2.2.2.2.2.2.2.2.2.2.2.2.2.1), .r [] (.int .i64 pv.1.2.2.2.2.2.2.2.2.2.2.2.2.2.2.1), .r [] (.int .i64 pv.1.2.2.2.2.2.2.2.2.2.2.2.2.2.2.2)]), (2, .arr none (.st .task) pv.2.2)], nid := 3, n := 27, gh := [] }
def yla (nf : NF) : Option ((List Task × Int × Int × Int × Int × Int × Int × Int × Int × Int × Int × Int × Int × Int × Int × Int) × (Int × List Task)) := match nf with
  | ([.ptr 0 0 0, .ptr 1 0 0, .r [] (.sl (.st .task) w0), .r [] (.int .i64 w1), .r [] (.int .i64 w2)], [.box [.r [] (.int .i64 w3), .r [] (.int .i64 w4), .r [] (.int .i64 w5), .own 2, .r [] (.int .i64 w6), .r [] (.int .i64 w7), .r [] (.int .i64 w8), .r [] (.int .i64 w9)], .box [.r [] (.int .i64 w10), .r [] (.int .i64 w11), .r [] (.int .i64 w12), .nilS, .r [] (.int .i64 w13), .r [] (.int .i64 w14), .r [] (.int .i64 w15), .r [] (.int .i64 w16)], .arr none (.st .task) w17], []) => some ((w0, w1, w3, w4, w5, w6, w7, w8, w9, w10, w11, w12, w13, w14, w15, w16), (w2, w17))
  | _ => none
theorem ylb (nf : NF) (v : (List Task × Int × Int × Int × Int × Int × Int × Int × Int × Int × Int × Int × Int × Int × Int × Int) × (Int × List Task)) (h : yla nf = some v) : denorm yl5 27 nf = yl9 v := by
  unfold yla at h
  split at h
  · cases h; rfl
  · cases h
def ylc (p : List Task × Int × Int × Int × Int × Int × Int × Int × Int × Int × Int × Int × Int × Int × Int × Int) (x : List Task) : St := { slots := [(1, .ptr 0 0 0), (2, .ptr 1 0 0)], heap := [(0, .box [.r [] (.int .i64 p.2.2.1), .r [] (.int .i64 p.2.2.2.1), .r [] (.int .i64 p.2.2.2.2.1), .own 2, .r [] (.int .i64 p.2.2.2.2.2.1), .r [] (.int .i64 p.2.2.2.2.2.2.1), .r [] (.int .i64 p.2.2.2.2.2.2.2.1), .r [] (.int .i64 p.2.2.2.2.2.2.2.2.1)]), (1, .box [.r [] (.int .i64 p.2.2.2.2.2.2.2.2.2.1), .r [] (.int .i64 p.2.2.2.2.2.2.2.2.2.2.1), .r [] (.int .i64 p.2.2.2.2.2.2.2.2.2.2.2.1), .nilS, .r [] (.int .i64 p.2.2.2.2.2.2.2.2.2.2.2.2.1), .r [] (.int .i64 p.2.2.2.2.2.2.2.2.2.2.2.2.2.1), .r [] (.int .i64 p.2.2.2.2.2.2.2.2.2.2.2.2.2.2.1), .r [] (.int .i64 p.2.2.2.2.2.2.2.2.2.2.2.2.2.2.2)]), (2, .arr none (.st .task) x)], nid := 3, n := 27, gh := [] }
def yld (ρ : Type) (k : Nat) : Nat → Ev ρ → Ev ρ := fun id f => cond (Nat.beq id 0) (loopOrc yl5 yl6 (fun n nf => cond (Nat.beq n 27) (yla nf) none) fun pv K => iter (fun v next => I_Sched_copied_g0 k pv.1 v next (fun x => K (.exit 0) (ylc pv.1 x))) k pv.2) ((fun _ _ _ _ => none) id f)
theorem yle {ρ : Type} (k : Nat) (p : List Task × Int × Int × Int × Int × Int × Int × Int × Int × Int × Int × Int × Int × Int × Int × Int) (v : Int × List Task) (K K1 : Ex → St → Option ρ) : ev (yl1 k) (yld ρ k) 0 yl4 (yl9 (p, v)) (fun e st' => match e with
    | .normal => (normC yl5 yl6 st').bind fun nf => K1 .normal (denorm yl5 st'.n nf)
    | e => (normC (yl7 e) (yl8 e) st').bind fun nf => K e (denorm (yl7 e) st'.n nf)) = I_Sched_copied_g0 k p v (fun v' => K1 .normal (yl9 (p, v'))) (fun x => K (.exit 0) (ylc p x)) := by kernel_rfl
theorem ylf {ρ : Type} (k : Nat) : Sound Try.prog (.loop yl4) (yld ρ k 0 fun st K => ev (yl1 k) (yld ρ k) 0 yl4 st K) :=
  loop_ok (ev_sound (yl2 k) yl4 0 (lpgood_none (by kernel_rfl))) yl7 yl8 k (g := fun p v next K => I_Sched_copied_g0 k p v next (fun x => K (.exit 0) (ylc p x))) (dec_at ylb) (fun p v K K1 => yle k p v K K1)
def ylg (a : Sched) : List Arg := [.agg [.int .i64 a.now, .int .i64 a.slack, .int .i64 a.age, .sl (.st .task) a.tasks, .int .i64 a.run, .int .i64 a.left, .int .i64 a.turns, .int .i64 a.next]]
def ylh (l : List Arg) : Option (Sched) := match l with
  | [.agg [.int .i64 b0_0, .int .i64 b0_1, .int .i64 b0_2, .sl (.st .task) b0_3, .int .i64 b0_4, .int .i64 b0_5, .int .i64 b0_6, .int .i64 b0_7]] => some (⟨b0_0, b0_1, b0_2, b0_3, b0_4, b0_5, b0_6, b0_7⟩ : Sched)
  | _ => none
def yli (r : Sched) : Out := (.agg [.r [] (.int .i64 r.now), .r [] (.int .i64 r.slack), .r [] (.int .i64 r.age), .own 0, .r [] (.int .i64 r.run), .r [] (.int .i64 r.left), .r [] (.int .i64 r.turns), .r [] (.int .i64 r.next)], [.arr none (.st .task) r.tasks])
def ylj (o : Out) : Option (Sched) := match o with
  | (.agg [.r [] (.int .i64 z1), .r [] (.int .i64 z2), .r [] (.int .i64 z3), .own 0, .r [] (.int .i64 z5), .r [] (.int .i64 z6), .r [] (.int .i64 z7), .r [] (.int .i64 z8)], [.arr none (.st .task) z4]) => some (⟨z1, z2, z3, z4, z5, z6, z7, z8⟩ : Sched)
  | _ => none
def ylk (k : Nat) : PG := fun _ l K => (ylh l).bind fun a => (I_Sched_copied k a).bind fun r => K (yli r)
theorem yll (k : Nat) (a : Sched) : ev (yl1 k) (yld (Sched) k) 0 yl3 (st0 Try.f116 (ylg a)) (fin Try.prog Try.f116 (.agg [.sc, .sc, .sc, .own (.st .task), .sc, .sc, .sc, .sc]) ylj) = I_Sched_copied k a := by kernel_rfl
theorem ylm (k : Nat) : PureOk Try.prog 116 (ylk k) :=
  pureOk_of_ev (yl2 k) Try.func116 (by kernel_rfl) (by kernel_rfl) ylg ylh
    (fun l a h => by unfold ylh at h; split at h <;> first | (cases h; rfl) | cases h) (fun a => rfl) (lpgood_of (l := [(0, yl4)]) (by kernel_rfl) ⟨ylf k, trivial⟩)
    (fun o r h => by unfold ylj at h; split at h <;> first | (cases h; rfl) | cases h) (yll k)
def yln (k : Nat) : Orc := pureOrc [.agg [(.int .i64), (.int .i64), (.int .i64), (.sl (.st .task)), (.int .i64), (.int .i64), (.int .i64), (.int .i64)]] (ylk k)
theorem ylo (k : Nat) : OrcOk Try.prog 116 (yln k) := pureOrc_ok (ylm k)
noncomputable def ylp (k : Nat) : Env := { P := Try.prog, tt := tt, orc := fun g => noOrc }
theorem ylq (k : Nat) : EnvOk (ylp k) := fun g => (noOrc_ok _ _)
noncomputable def ylr : Code := (Try.f120.body).getD .skip
def yls (ρ : Type) (k : Nat) : Nat → Ev ρ → Ev ρ := fun _ _ _ _ => none
def ylt (a : Sched × Task) : List Arg := [.agg [.int .i64 a.1.now, .int .i64 a.1.slack, .int .i64 a.1.age, .sl (.st .task) a.1.tasks, .int .i64 a.1.run, .int .i64 a.1.left, .int .i64 a.1.turns, .int .i64 a.1.next], .agg [.int .i64 a.2.id, .sl (.int .i64) a.2.costs, .int .i64 a.2.at_, .int .i64 a.2.due, .int .i64 a.2.born]]
def ylu (l : List Arg) : Option (Sched × Task) := match l with
  | [.agg [.int .i64 b0_0, .int .i64 b0_1, .int .i64 b0_2, .sl (.st .task) b0_3, .int .i64 b0_4, .int .i64 b0_5, .int .i64 b0_6, .int .i64 b0_7], .agg [.int .i64 b1_0, .sl (.int .i64) b1_1, .int .i64 b1_2, .int .i64 b1_3, .int .i64 b1_4]] => some ((⟨b0_0, b0_1, b0_2, b0_3, b0_4, b0_5, b0_6, b0_7⟩ : Sched), (⟨b1_0, b1_1, b1_2, b1_3, b1_4⟩ : Task))
  | _ => none
def ylv (r : Bool) : Out := (.r [] (.bool r), [])
def ylw (o : Out) : Option (Bool) := match o with
  | (.r [] (.bool z1), []) => some z1
  | _ => none
def ylx (k : Nat) : PG := fun _ l K => (ylu l).bind fun a => (I_Sched_isLate k a.1 a.2).bind fun r => K (ylv r)
theorem yly (k : Nat) (a : Sched × Task) : ev (ylp k) (yls (Bool) k) 0 ylr (st0 Try.f120 (ylt a)) (fin Try.prog Try.f120 (.sc) ylw) = I_Sched_isLate k a.1 a.2 := by kernel_rfl
theorem ylz (k : Nat) : PureOk Try.prog 120 (ylx k) :=
  pureOk_of_ev (ylq k) Try.func120 (by kernel_rfl) (by kernel_rfl) ylt ylu
    (fun l a h => by unfold ylu at h; split at h <;> first | (cases h; rfl) | cases h) (fun a => rfl) (lpgood_none (by kernel_rfl))
    (fun o r h => by unfold ylw at h; split at h <;> first | (cases h; rfl) | cases h) (yly k)
def ym0 (k : Nat) : Orc := pureOrc [.agg [(.int .i64), (.int .i64), (.int .i64), (.sl (.st .task)), (.int .i64), (.int .i64), (.int .i64), (.int .i64)], .agg [(.int .i64), (.sl (.int .i64)), (.int .i64), (.int .i64), (.int .i64)]] (ylx k)
theorem ym1 (k : Nat) : OrcOk Try.prog 120 (ym0 k) := pureOrc_ok (ylz k)
noncomputable def ym2 (k : Nat) : Env := { P := Try.prog, tt := tt, orc := fun g => noOrc }
theorem ym3 (k : Nat) : EnvOk (ym2 k) := fun g => (noOrc_ok _ _)
noncomputable def ym4 : Code := (Try.f180.body).getD .skip
noncomputable def ym5 : Code := ((loopsIn 0 ym4).getD 0 (0, .skip)).2
def ym6 : List Nat := [3, 6, 7, 8]
def ym7 : List (Where × Co) := []
def ym8 : Ex → List Nat
  | .exit j => cond (Nat.beq j 0) [3] []
  | .ret => []
  | .normal => []
def ym9 : Ex → List (Where × Co)
  | .exit j => cond (Nat.beq j 0) [] []
  | .ret => []
  | .normal => []
def yma (pv : (List Int × Int) × (Int × Int)) : St := { slots := [(3, .r [] (.int .i64 pv.2.1)), (6, .r [] (.sl (.int .i64) pv.1.1)), (7, .r [] (.int .i64 pv.1.2)), (8, .r [] (.int .i64 pv.2.2))], heap := [], nid := 0, n := 17, gh := [] }
def ymb (nf : NF) : Option ((List Int × Int) × (Int × Int)) := match nf with
  | ([.r [] (.int .i64 w0), .r [] (.sl (.int .i64) w1), .r [] (.int .i64 w2), .r [] (.int .i64 w3)], [], []) => some ((w1, w2), (w0, w3))
  | _ => none
theorem ymc (nf : NF) (v : (List Int × Int) × (Int × Int)) (h : ymb nf = some v) : denorm ym6 17 nf = yma v := by
  unfold ymb at h
  split at h
  · cases h; rfl
  · cases h
def ymd (p : List Int × Int) (x : Int) : St := { slots := [(3, .r [] (.int .i64 x))], heap := [], nid := 0, n := 17, gh := [] }
def yme (ρ : Type) (k : Nat) : Nat → Ev ρ → Ev ρ := fun id f => cond (Nat.beq id 0) (loopOrc ym6 ym7 (fun n nf => cond (Nat.beq n 17) (ymb nf) none) fun pv K => iter (fun v next => I_sum_g0 k pv.1 v next (fun x => K (.exit 0) (ymd pv.1 x))) k pv.2) ((fun _ _ _ _ => none) id f)
theorem ymf {ρ : Type} (k : Nat) (p : List Int × Int) (v : Int × Int) (K K1 : Ex → St → Option ρ) : ev (ym2 k) (yme ρ k) 0 ym5 (yma (p, v)) (fun e st' => match e with
    | .normal => (normC ym6 ym7 st').bind fun nf => K1 .normal (denorm ym6 st'.n nf)
    | e => (normC (ym8 e) (ym9 e) st').bind fun nf => K e (denorm (ym8 e) st'.n nf)) = I_sum_g0 k p v (fun v' => K1 .normal (yma (p, v'))) (fun x => K (.exit 0) (ymd p x)) := by kernel_rfl
theorem ymg {ρ : Type} (k : Nat) : Sound Try.prog (.loop ym5) (yme ρ k 0 fun st K => ev (ym2 k) (yme ρ k) 0 ym5 st K) :=
  loop_ok (ev_sound (ym3 k) ym5 0 (lpgood_none (by kernel_rfl))) ym8 ym9 k (g := fun p v next K => I_sum_g0 k p v next (fun x => K (.exit 0) (ymd p x))) (dec_at ymc) (fun p v K K1 => ymf k p v K K1)
def ymh (a : List Int) : List Arg := [.one (.sl (.int .i64) a)]
def ymi (l : List Arg) : Option (List Int) := match l with
  | [.one (.sl (.int .i64) b0)] => some b0
  | _ => none
def ymj (r : Int) : Out := (.r [] (.int .i64 r), [])
def ymk (o : Out) : Option (Int) := match o with
  | (.r [] (.int .i64 z1), []) => some z1
  | _ => none
def yml (k : Nat) : PG := fun _ l K => (ymi l).bind fun a => (I_sum k a).bind fun r => K (ymj r)
theorem ymm (k : Nat) (a : List Int) : ev (ym2 k) (yme (Int) k) 0 ym4 (st0 Try.f180 (ymh a)) (fin Try.prog Try.f180 (.sc) ymk) = I_sum k a := by kernel_rfl
theorem ymn (k : Nat) : PureOk Try.prog 180 (yml k) :=
  pureOk_of_ev (ym3 k) Try.func180 (by kernel_rfl) (by kernel_rfl) ymh ymi
    (fun l a h => by unfold ymi at h; split at h <;> first | (cases h; rfl) | cases h) (fun a => rfl) (lpgood_of (l := [(0, ym5)]) (by kernel_rfl) ⟨ymg k, trivial⟩)
    (fun o r h => by unfold ymk at h; split at h <;> first | (cases h; rfl) | cases h) (ymm k)
def ymo (k : Nat) : Orc := pureOrc [.one (.sl (.int .i64))] (yml k)
theorem ymp (k : Nat) : OrcOk Try.prog 180 (ymo k) := pureOrc_ok (ymn k)
noncomputable def ymq (k : Nat) : Env := { P := Try.prog, tt := tt, orc := fun g => cond (Nat.beq g 180) (ymo k) (noOrc) }
theorem ymr (k : Nat) : EnvOk (ymq k) := fun g => (orc_cond (ymp k) (noOrc_ok _ _))
noncomputable def yms : Code := (Try.f193.body).getD .skip
def ymt (ρ : Type) (k : Nat) : Nat → Ev ρ → Ev ρ := fun _ _ _ _ => none
def ymu (a : Sched × Task) : List Arg := [.agg [.int .i64 a.1.now, .int .i64 a.1.slack, .int .i64 a.1.age, .sl (.st .task) a.1.tasks, .int .i64 a.1.run, .int .i64 a.1.left, .int .i64 a.1.turns, .int .i64 a.1.next], .agg [.int .i64 a.2.id, .sl (.int .i64) a.2.costs, .int .i64 a.2.at_, .int .i64 a.2.due, .int .i64 a.2.born]]
def ymv (l : List Arg) : Option (Sched × Task) := match l with
  | [.agg [.int .i64 b0_0, .int .i64 b0_1, .int .i64 b0_2, .sl (.st .task) b0_3, .int .i64 b0_4, .int .i64 b0_5, .int .i64 b0_6, .int .i64 b0_7], .agg [.int .i64 b1_0, .sl (.int .i64) b1_1, .int .i64 b1_2, .int .i64 b1_3, .int .i64 b1_4]] => some ((⟨b0_0, b0_1, b0_2, b0_3, b0_4, b0_5, b0_6, b0_7⟩ : Sched), (⟨b1_0, b1_1, b1_2, b1_3, b1_4⟩ : Task))
  | _ => none
def ymw (r : Int) : Out := (.r [] (.int .i64 r), [])
def ymx (o : Out) : Option (Int) := match o with
  | (.r [] (.int .i64 z1), []) => some z1
  | _ => none
def ymy (k : Nat) : PG := fun _ l K => (ymv l).bind fun a => (I_Sched_remain k a.1 a.2).bind fun r => K (ymw r)
theorem ymz (k : Nat) (a : Sched × Task) : ev (ymq k) (ymt (Int) k) 0 yms (st0 Try.f193 (ymu a)) (fin Try.prog Try.f193 (.sc) ymx) = I_Sched_remain k a.1 a.2 := by kernel_rfl
theorem yn0 (k : Nat) : PureOk Try.prog 193 (ymy k) :=
  pureOk_of_ev (ymr k) Try.func193 (by kernel_rfl) (by kernel_rfl) ymu ymv
    (fun l a h => by unfold ymv at h; split at h <;> first | (cases h; rfl) | cases h) (fun a => rfl) (lpgood_none (by kernel_rfl))
    (fun o r h => by unfold ymx at h; split at h <;> first | (cases h; rfl) | cases h) (ymz k)
def yn1 (k : Nat) : Orc := pureOrc [.agg [(.int .i64), (.int .i64), (.int .i64), (.sl (.st .task)), (.int .i64), (.int .i64), (.int .i64), (.int .i64)], .agg [(.int .i64), (.sl (.int .i64)), (.int .i64), (.int .i64), (.int .i64)]] (ymy k)
theorem yn2 (k : Nat) : OrcOk Try.prog 193 (yn1 k) := pureOrc_ok (yn0 k)
noncomputable def yn3 (k : Nat) : Env := { P := Try.prog, tt := tt, orc := fun g => cond (Nat.beq g 193) (yn1 k) (noOrc) }
theorem yn4 (k : Nat) : EnvOk (yn3 k) := fun g => (orc_cond (yn2 k) (noOrc_ok _ _))
noncomputable def yn5 : Code := (Try.f121.body).getD .skip
noncomputable def yn6 : Code := ((loopsIn 0 yn5).getD 0 (0, .skip)).2
def yn7 : List Nat := [1, 2, 5, 9, 10, 11]
def yn8 : List (Where × Co) := []
def yn9 : Ex → List Nat
  | .exit j => cond (Nat.beq j 0) [5] []
  | .ret => []
  | .normal => []
def yna : Ex → List (Where × Co)
  | .exit j => cond (Nat.beq j 0) [] []
  | .ret => []
  | .normal => []
def ynb (pv : (Int × List Task × Int × Int × Int × Int × List Task × Int × Int × Int × Int) × (Int × Int)) : St := { slots := [(1, .r [] (.int .i64 pv.1.1)), (2, .ptr 0 0 0), (5, .r [] (.int .i64 pv.2.1)), (9, .r [] (.sl (.st .task) pv.1.2.1)), (10, .r [] (.int .i64 pv.1.2.2.1)), (11, .r [] (.int .i64 pv.2.2))], heap := [(0, .box [.r [] (.int .i64 pv.1.2.2.2.1), .r [] (.int .i64 pv.1.2.2.2.2.1), .r [] (.int .i64 pv.1.2.2.2.2.2.1), .r [] (.sl (.st .task) pv.1.2.2.2.2.2.2.1), .r [] (.int .i64 pv.1.2.2.2.2.2.2.2.1), .r [] (.int .i64 pv.1.2.2.2.2.2.2.2.2.1), .r [] (.int .i64 pv.1.2.2.2.2.2.2.2.2.2.1), .r [] (.int .i64 pv.1.2.2.2.2.2.2.2.2.2.2)])], nid := 1, n := 26, gh := [] }
def ync (nf : NF) : Option ((Int × List Task × Int × Int × Int × Int × List Task × Int × Int × Int × Int) × (Int × Int)) := match nf with
  | ([.r [] (.int .i64 w0), .ptr 0 0 0, .r [] (.int .i64 w1), .r [] (.sl (.st .task) w2), .r [] (.int .i64 w3), .r [] (.int .i64 w4)], [.box [.r [] (.int .i64 w5), .r [] (.int .i64 w6), .r [] (.int .i64 w7), .r [] (.sl (.st .task) w8), .r [] (.int .i64 w9), .r [] (.int .i64 w10), .r [] (.int .i64 w11), .r [] (.int .i64 w12)]], []) => some ((w0, w2, w3, w5, w6, w7, w8, w9, w10, w11, w12), (w1, w4))
  | _ => none
theorem ynd (nf : NF) (v : (Int × List Task × Int × Int × Int × Int × List Task × Int × Int × Int × Int) × (Int × Int)) (h : ync nf = some v) : denorm yn7 26 nf = ynb v := by
  unfold ync at h
  split at h
  · cases h; rfl
  · cases h
def yne (p : Int × List Task × Int × Int × Int × Int × List Task × Int × Int × Int × Int) (x : Int) : St := { slots := [(5, .r [] (.int .i64 x))], heap := [], nid := 0, n := 26, gh := [] }
def ynf (ρ : Type) (k : Nat) : Nat → Ev ρ → Ev ρ := fun id f => cond (Nat.beq id 0) (loopOrc yn7 yn8 (fun n nf => cond (Nat.beq n 26) (ync nf) none) fun pv K => iter (fun v next => I_Sched_demand_g0 k pv.1 v next (fun x => K (.exit 0) (yne pv.1 x))) k pv.2) ((fun _ _ _ _ => none) id f)
theorem yng {ρ : Type} (k : Nat) (p : Int × List Task × Int × Int × Int × Int × List Task × Int × Int × Int × Int) (v : Int × Int) (K K1 : Ex → St → Option ρ) : ev (yn3 k) (ynf ρ k) 0 yn6 (ynb (p, v)) (fun e st' => match e with
    | .normal => (normC yn7 yn8 st').bind fun nf => K1 .normal (denorm yn7 st'.n nf)
    | e => (normC (yn9 e) (yna e) st').bind fun nf => K e (denorm (yn9 e) st'.n nf)) = I_Sched_demand_g0 k p v (fun v' => K1 .normal (ynb (p, v'))) (fun x => K (.exit 0) (yne p x)) := by kernel_rfl
end
end Go.Proofs.Ev
