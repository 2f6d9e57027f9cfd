/- Text of this claim. -/
import Derived.Test.YthaamopjdieecaaEvK6
import Derived.Test.YthaamopjdieecaaProg
import Derived.Test.YthaamopjdieecaaEvD1
import Derived.Test.YthaamopjdieecaaEvD11
import Derived.Test.YthaamopjdieecaaEvD13
import Derived.Test.YthaamopjdieecaaEvD3
import Derived.Test.YthaamopjdieecaaEvD6
import Derived.Test.YthaamopjdieecaaEvD7
import Derived.Test.YthaamopjdieecaaEvD8
import Derived.Test.YthaamopjdieecaaEvXCFnFits
set_option linter.unusedVariables false
set_option linter.unusedSimpArgs false
set_option linter.unusedVariables false
set_option linter.unusedSimpArgs false
set_option maxRecDepth 100000
set_option maxHeartbeats 4000000
namespace Go.Proofs.Ev
noncomputable section
variable [Tok]
set_option linter.unusedSectionVars false
def ynu (l : List Arg) : Option (Sched × Task) := match l with
  | [.agg [.int .i64 b0_0, .int .i64 b0_1, .int .i64 b0_2, .sl (.st .task) b0_3, .int .i64 b0_4, .int .i64 b0_5, .int .i64 b0_6, .int .i64 b0_7], .agg [.int .i64 b1_0, .sl (.int .i64) b1_1, .int .i64 b1_2, .int .i64 b1_3, .int .i64 b1_4]] => some ((⟨b0_0, b0_1, b0_2, b0_3, b0_4, b0_5, b0_6, b0_7⟩ : Sched), (⟨b1_0, b1_1, b1_2, b1_3, b1_4⟩ : Task))
  | _ => none
def ynv (r : Int) : Out := (.r [] (.int .i64 r), [])
def ynw (o : Out) : Option (Int) := match o with
  | (.r [] (.int .i64 z1), []) => some z1
  | _ => none
def ynx (k : Nat) : PG := fun _ l K => (ynu l).bind fun a => (I_Sched_remain k a.1 a.2).bind fun r => K (ynv r)
theorem yny (k : Nat) (a : Sched × Task) : ev (ynp k) (yns (Int) k) 0 ynr (st0 Try.f193 (ynt a)) (fin Try.prog Try.f193 (.sc) ynw) = I_Sched_remain k a.1 a.2 := by kernel_rfl
theorem ynz (k : Nat) : PureOk Try.prog 193 (ynx k) :=
  pureOk_of_ev (ynq k) Try.func193 (by kernel_rfl) (by kernel_rfl) ynt ynu
    (fun l a h => by unfold ynu at h; split at h <;> first | (cases h; rfl) | cases h) (fun a => rfl) (lpgood_none (by kernel_rfl))
    (fun o r h => by unfold ynw at h; split at h <;> first | (cases h; rfl) | cases h) (yny k)
def yo0 (k : Nat) : Orc := pureOrc [.agg [(.int .i64), (.int .i64), (.int .i64), (.sl (.st .task)), (.int .i64), (.int .i64), (.int .i64), (.int .i64)], .agg [(.int .i64), (.sl (.int .i64)), (.int .i64), (.int .i64), (.int .i64)]] (ynx k)
theorem yo1 (k : Nat) : OrcOk Try.prog 193 (yo0 k) := pureOrc_ok (ynz k)
noncomputable def yo2 (k : Nat) : Env := { P := Try.prog, tt := tt, orc := fun g => cond (Nat.beq g 193) (yo0 k) (noOrc) }
theorem yo3 (k : Nat) : EnvOk (yo2 k) := fun g => (orc_cond (yo1 k) (noOrc_ok _ _))
noncomputable def yo4 : Code := (Try.f121.body).getD .skip
noncomputable def yo5 : Code := ((loopsIn 0 yo4).getD 0 (0, .skip)).2
def yo6 : List Nat := [1, 2, 5, 9, 10, 11]
def yo7 : List (Where × Co) := []
def yo8 : Ex → List Nat
  | .exit j => cond (Nat.beq j 0) [5] []
  | .ret => []
  | .normal => []
def yo9 : Ex → List (Where × Co)
  | .exit j => cond (Nat.beq j 0) [] []
  | .ret => []
  | .normal => []
def yoa (pv : (Int × List Task × Int × Int × Int × Int × List Task × Int × Int × Int × Int) × (Int × Int)) : St := { slots := [(1, .r [] (.int .i64 pv.1.1)), (2, .ptr 0 0 0), (5, .r [] (.int .i64 pv.2.1)), (9, .r [] (.sl (.st .task) pv.1.2.1)), (10, .r [] (.int .i64 pv.1.2.2.1)), (11, .r [] (.int .i64 pv.2.2))], heap := [(0, .box [.r [] (.int .i64 pv.1.2.2.2.1), .r [] (.int .i64 pv.1.2.2.2.2.1), .r [] (.int .i64 pv.1.2.2.2.2.2.1), .r [] (.sl (.st .task) pv.1.2.2.2.2.2.2.1), .r [] (.int .i64 pv.1.2.2.2.2.2.2.2.1), .r [] (.int .i64 pv.1.2.2.2.2.2.2.2.2.1), .r [] (.int .i64 pv.1.2.2.2.2.2.2.2.2.2.1), .r [] (.int .i64 pv.1.2.2.2.2.2.2.2.2.2.2)])], nid := 1, n := 26, gh := [] }
def yob (nf : NF) : Option ((Int × List Task × Int × Int × Int × Int × List Task × Int × Int × Int × Int) × (Int × Int)) := match nf with
  | ([.r [] (.int .i64 w0), .ptr 0 0 0, .r [] (.int .i64 w1), .r [] (.sl (.st .task) w2), .r [] (.int .i64 w3), .r [] (.int .i64 w4)], [.box [.r [] (.int .i64 w5), .r [] (.int .i64 w6), .r [] (.int .i64 w7), .r [] (.sl (.st .task) w8), .r [] (.int .i64 w9), .r [] (.int .i64 w10), .r [] (.int .i64 w11), .r [] (.int .i64 w12)]], []) => some ((w0, w2, w3, w5, w6, w7, w8, w9, w10, w11, w12), (w1, w4))
  | _ => none
theorem yoc (nf : NF) (v : (Int × List Task × Int × Int × Int × Int × List Task × Int × Int × Int × Int) × (Int × Int)) (h : yob nf = some v) : denorm yo6 26 nf = yoa v := by
  unfold yob at h
  split at h
  · cases h; rfl
  · cases h
def yod (p : Int × List Task × Int × Int × Int × Int × List Task × Int × Int × Int × Int) (x : Int) : St := { slots := [(5, .r [] (.int .i64 x))], heap := [], nid := 0, n := 26, gh := [] }
def yoe (ρ : Type) (k : Nat) : Nat → Ev ρ → Ev ρ := fun id f => cond (Nat.beq id 0) (loopOrc yo6 yo7 (fun n nf => cond (Nat.beq n 26) (yob nf) none) fun pv K => iter (fun v next => I_Sched_demand_g0 k pv.1 v next (fun x => K (.exit 0) (yod pv.1 x))) k pv.2) ((fun _ _ _ _ => none) id f)
theorem yof {ρ : Type} (k : Nat) (p : Int × List Task × Int × Int × Int × Int × List Task × Int × Int × Int × Int) (v : Int × Int) (K K1 : Ex → St → Option ρ) : ev (yo2 k) (yoe ρ k) 0 yo5 (yoa (p, v)) (fun e st' => match e with
    | .normal => (normC yo6 yo7 st').bind fun nf => K1 .normal (denorm yo6 st'.n nf)
    | e => (normC (yo8 e) (yo9 e) st').bind fun nf => K e (denorm (yo8 e) st'.n nf)) = I_Sched_demand_g0 k p v (fun v' => K1 .normal (yoa (p, v'))) (fun x => K (.exit 0) (yod p x)) := by kernel_rfl
theorem yog {ρ : Type} (k : Nat) : Sound Try.prog (.loop yo5) (yoe ρ k 0 fun st K => ev (yo2 k) (yoe ρ k) 0 yo5 st K) :=
  loop_ok (ev_sound (yo3 k) yo5 0 (lpgood_none (by kernel_rfl))) yo8 yo9 k (g := fun p v next K => I_Sched_demand_g0 k p v next (fun x => K (.exit 0) (yod p x))) (dec_at yoc) (fun p v K K1 => yof k p v K K1)
def yoh (a : Sched × Int) : List Arg := [.agg [.int .i64 a.1.now, .int .i64 a.1.slack, .int .i64 a.1.age, .sl (.st .task) a.1.tasks, .int .i64 a.1.run, .int .i64 a.1.left, .int .i64 a.1.turns, .int .i64 a.1.next], .one (.int .i64 a.2)]
def yoi (l : List Arg) : Option (Sched × Int) := match l with
  | [.agg [.int .i64 b0_0, .int .i64 b0_1, .int .i64 b0_2, .sl (.st .task) b0_3, .int .i64 b0_4, .int .i64 b0_5, .int .i64 b0_6, .int .i64 b0_7], .one (.int .i64 b1)] => some ((⟨b0_0, b0_1, b0_2, b0_3, b0_4, b0_5, b0_6, b0_7⟩ : Sched), b1)
  | _ => none
def yoj (r : Int) : Out := (.r [] (.int .i64 r), [])
def yok (o : Out) : Option (Int) := match o with
  | (.r [] (.int .i64 z1), []) => some z1
  | _ => none
def yol (k : Nat) : PG := fun _ l K => (yoi l).bind fun a => (I_Sched_demand k a.1 a.2).bind fun r => K (yoj r)
theorem yom (k : Nat) (a : Sched × Int) : ev (yo2 k) (yoe (Int) k) 0 yo4 (st0 Try.f121 (yoh a)) (fin Try.prog Try.f121 (.sc) yok) = I_Sched_demand k a.1 a.2 := by kernel_rfl
theorem yon (k : Nat) : PureOk Try.prog 121 (yol k) :=
  pureOk_of_ev (yo3 k) Try.func121 (by kernel_rfl) (by kernel_rfl) yoh yoi
    (fun l a h => by unfold yoi at h; split at h <;> first | (cases h; rfl) | cases h) (fun a => rfl) (lpgood_of (l := [(0, yo5)]) (by kernel_rfl) ⟨yog k, trivial⟩)
    (fun o r h => by unfold yok at h; split at h <;> first | (cases h; rfl) | cases h) (yom k)
def yoo (k : Nat) : Orc := pureOrc [.agg [(.int .i64), (.int .i64), (.int .i64), (.sl (.st .task)), (.int .i64), (.int .i64), (.int .i64), (.int .i64)], .one (.int .i64)] (yol k)
theorem yop (k : Nat) : OrcOk Try.prog 121 (yoo k) := pureOrc_ok (yon k)
noncomputable def yoq (k : Nat) : Env := { P := Try.prog, tt := tt, orc := fun g => cond (Nat.beq g 134) (ym9 k) (noOrc) }
theorem yor (k : Nat) : EnvOk (yoq k) := fun g => (orc_cond (yma k) (noOrc_ok _ _))
noncomputable def yos : Code := (Try.f122.body).getD .skip
def yot (ρ : Type) (k : Nat) : Nat → Ev ρ → Ev ρ := fun _ _ _ _ => none
def you (a : Sched × Int) : List Arg := [.agg [.int .i64 a.1.now, .int .i64 a.1.slack, .int .i64 a.1.age, .sl (.st .task) a.1.tasks, .int .i64 a.1.run, .int .i64 a.1.left, .int .i64 a.1.turns, .int .i64 a.1.next], .one (.int .i64 a.2)]
def yov (l : List Arg) : Option (Sched × Int) := match l with
  | [.agg [.int .i64 b0_0, .int .i64 b0_1, .int .i64 b0_2, .sl (.st .task) b0_3, .int .i64 b0_4, .int .i64 b0_5, .int .i64 b0_6, .int .i64 b0_7], .one (.int .i64 b1)] => some ((⟨b0_0, b0_1, b0_2, b0_3, b0_4, b0_5, b0_6, b0_7⟩ : Sched), b1)
  | _ => none
def yow (r : Int) : Out := (.r [] (.int .i64 r), [])
def yox (o : Out) : Option (Int) := match o with
  | (.r [] (.int .i64 z1), []) => some z1
  | _ => none
def yoy (k : Nat) : PG := fun _ l K => (yov l).bind fun a => (I_Sched_block k a.1 a.2).bind fun r => K (yow r)
theorem yoz (k : Nat) (a : Sched × Int) : ev (yoq k) (yot (Int) k) 0 yos (st0 Try.f122 (you a)) (fin Try.prog Try.f122 (.sc) yox) = I_Sched_block k a.1 a.2 := by kernel_rfl
theorem yp0 (k : Nat) : PureOk Try.prog 122 (yoy k) :=
  pureOk_of_ev (yor k) Try.func122 (by kernel_rfl) (by kernel_rfl) you yov
    (fun l a h => by unfold yov at h; split at h <;> first | (cases h; rfl) | cases h) (fun a => rfl) (lpgood_none (by kernel_rfl))
    (fun o r h => by unfold yox at h; split at h <;> first | (cases h; rfl) | cases h) (yoz k)
def yp1 (k : Nat) : Orc := pureOrc [.agg [(.int .i64), (.int .i64), (.int .i64), (.sl (.st .task)), (.int .i64), (.int .i64), (.int .i64), (.int .i64)], .one (.int .i64)] (yoy k)
theorem yp2 (k : Nat) : OrcOk Try.prog 122 (yp1 k) := pureOrc_ok (yp0 k)
noncomputable def yp3 (k : Nat) : Env := { P := Try.prog, tt := tt, orc := fun g => cond (Nat.beq g 120) (ymz k) (cond (Nat.beq g 121) (yoo k) (cond (Nat.beq g 122) (yp1 k) (noOrc))) }
theorem yp4 (k : Nat) : EnvOk (yp3 k) := fun g => (orc_cond (yn0 k) (orc_cond (yop k) (orc_cond (yp2 k) (noOrc_ok _ _))))
noncomputable def yp5 : Code := (Try.f119.body).getD .skip
def yp6 (ρ : Type) (k : Nat) : Nat → Ev ρ → Ev ρ := fun _ _ _ _ => none
def yp7 (a : Task × Sched) : List SV := [.agg [.r [] (.int .i64 a.1.id), .r [] (.sl (.int .i64) a.1.costs), .r [] (.int .i64 a.1.at_), .r [] (.int .i64 a.1.due), .r [] (.int .i64 a.1.born)], .ptr 0 0 0]
def yp8 (a : Task × Sched) : List Blk := [.box [.r [] (.int .i64 a.2.now), .r [] (.int .i64 a.2.slack), .r [] (.int .i64 a.2.age), .r [] (.sl (.st .task) a.2.tasks), .r [] (.int .i64 a.2.run), .r [] (.int .i64 a.2.left), .r [] (.int .i64 a.2.turns), .r [] (.int .i64 a.2.next)]]
def yp9 (l : List SV) (b : List Blk) : Option (Task × Sched) := match l, b with
  | [.agg [.r [] (.int .i64 w0), .r [] (.sl (.int .i64) w1), .r [] (.int .i64 w2), .r [] (.int .i64 w3), .r [] (.int .i64 w4)], .ptr 0 0 0], [.box [.r [] (.int .i64 w5), .r [] (.int .i64 w6), .r [] (.int .i64 w7), .r [] (.sl (.st .task) w8), .r [] (.int .i64 w9), .r [] (.int .i64 w10), .r [] (.int .i64 w11), .r [] (.int .i64 w12)]] => some ((⟨w0, w1, w2, w3, w4⟩ : Task), (⟨w5, w6, w7, w8, w9, w10, w11, w12⟩ : Sched))
  | _, _ => none
def ypa (a : Task × Sched) (r : Bool) : MOut := ⟨.r [] (.bool r), [some (.box [.r [] (.int .i64 a.2.now), .r [] (.int .i64 a.2.slack), .r [] (.int .i64 a.2.age), .r [] (.sl (.st .task) a.2.tasks), .r [] (.int .i64 a.2.run), .r [] (.int .i64 a.2.left), .r [] (.int .i64 a.2.turns), .r [] (.int .i64 a.2.next)])], []⟩
def ypb (a : Task × Sched) (o : MOut) : Option (Bool) := match o with
  | ⟨.r [] (.bool z1), [some (.box [.r [] (.int .i64 z2), .r [] (.int .i64 z3), .r [] (.int .i64 z4), .r [] (.sl (.st .task) z5), .r [] (.int .i64 z6), .r [] (.int .i64 z7), .r [] (.int .i64 z8), .r [] (.int .i64 z9)])], []⟩ => cond (@sameL Int _ z2 a.2.now) (cond (@sameL Int _ z3 a.2.slack) (cond (@sameL Int _ z4 a.2.age) (cond (@sameL (List Task) _ z5 a.2.tasks) (cond (@sameL Int _ z6 a.2.run) (cond (@sameL Int _ z7 a.2.left) (cond (@sameL Int _ z8 a.2.turns) (cond (@sameL Int _ z9 a.2.next) (some z1) none) none) none) none) none) none) none) none
  | _ => none
def ypc (k : Nat) : MG := fun _ l b K => (yp9 l b).bind fun a => (I_FitsIn_c1_m k a.1 a.2).bind fun r => K (ypa a r)
theorem ypd (k : Nat) (a : Task × Sched) : ev (yp3 k) (yp6 (Bool) k) 0 yp5 (st0M Try.f119 (yp7 a) (yp8 a)) (finM Try.prog Try.f119 (.sc) [.box [.sc, .sc, .sc, .ro (.st .task), .sc, .sc, .sc, .sc]] (ypb a)) = I_FitsIn_c1_m k a.1 a.2 := by kernel_rfl
theorem ype (k : Nat) : MutOk Try.prog 119 (ypc k) :=
  mutOk_of_ev (yp4 k) Try.func119 (by kernel_rfl) (by kernel_rfl) yp7 yp8 yp9
    (fun l b a h => by unfold yp9 at h; split at h <;> first | (cases h; exact ⟨rfl, rfl⟩) | cases h) (fun a => rfl) (lpgood_none (by kernel_rfl)) (fun a r => rfl)
    (fun a o r h => by unfold ypb at h; split at h <;> first | (obtain ⟨e0, e1, e2, e3, e4, e5, e6, e7, hq⟩ := dec_chk8 h; clear h; subst e0; subst e1; subst e2; subst e3; subst e4; subst e5; subst e6; subst e7; have h := hq; clear hq; cases h; rfl) | cases h) (ypd k)
def ypf (k : Nat) : Orc := mutOrc [.agg [(.int .i64), (.sl (.int .i64)), (.int .i64), (.int .i64), (.int .i64)], .keep] (ypc k)
theorem ypg (k : Nat) : OrcOk Try.prog 119 (ypf k) := mutOrc_ok (ype k)
noncomputable def yph (k : Nat) : Env := { P := Try.prog, tt := tt, orc := fun g => cond (Nat.beq g 119) (ypf k) (noOrc), wr := fun g => mem g [119], wt := true }
theorem ypi (k : Nat) : EnvOk (yph k) := fun g => (orc_cond (ypg k) (noOrc_ok _ _))
noncomputable def ypj : Code := (Try.f192.body).getD .skip
noncomputable def ypk : Code := ((loopsIn 0 ypj).getD 0 (0, .skip)).2
def ypl : List Nat := [0, 1, 7, 8]
def ypm : List (Where × Co) := []
def ypn : Ex → List Nat
  | .exit j => cond (Nat.beq j 0) [] []
  | .ret => [4]
  | .normal => []
def ypo : Ex → List (Where × Co)
  | .exit j => cond (Nat.beq j 0) [] []
  | .ret => []
  | .normal => []
def ypp (pv : (List Task × Int × Int × Int × Int × List Task × Int × Int × Int × Int) × (Int)) : St := { slots := [(0, .r [] (.sl (.st .task) pv.1.1)), (1, .fn (.func 119) [] [.ptr 0 0 0]), (7, .r [] (.int .i64 pv.1.2.1)), (8, .r [] (.int .i64 pv.2))], heap := [(0, .box [.r [] (.int .i64 pv.1.2.2.1), .r [] (.int .i64 pv.1.2.2.2.1), .r [] (.int .i64 pv.1.2.2.2.2.1), .r [] (.sl (.st .task) pv.1.2.2.2.2.2.1), .r [] (.int .i64 pv.1.2.2.2.2.2.2.1), .r [] (.int .i64 pv.1.2.2.2.2.2.2.2.1), .r [] (.int .i64 pv.1.2.2.2.2.2.2.2.2.1), .r [] (.int .i64 pv.1.2.2.2.2.2.2.2.2.2)])], nid := 1, n := 19, gh := [some 0] }
def ypq (nf : NF) : Option ((List Task × Int × Int × Int × Int × List Task × Int × Int × Int × Int) × (Int)) := match nf with
  | ([.r [] (.sl (.st .task) w0), .fn (.func 119) [] [.ptr 0 0 0], .r [] (.int .i64 w1), .r [] (.int .i64 w2)], [.box [.r [] (.int .i64 w3), .r [] (.int .i64 w4), .r [] (.int .i64 w5), .r [] (.sl (.st .task) w6), .r [] (.int .i64 w7), .r [] (.int .i64 w8), .r [] (.int .i64 w9), .r [] (.int .i64 w10)]], [some 0]) => some ((w0, w1, w3, w4, w5, w6, w7, w8, w9, w10), w2)
  | _ => none
theorem ypr (nf : NF) (v : (List Task × Int × Int × Int × Int × List Task × Int × Int × Int × Int) × (Int)) (h : ypq nf = some v) : denorm ypl 19 nf = ypp v := by
  unfold ypq at h
  split at h
  · cases h; rfl
  · cases h
def yps (p : List Task × Int × Int × Int × Int × List Task × Int × Int × Int × Int) (x : Unit) : St := { slots := [], heap := [(0, .box [.r [] (.int .i64 p.2.2.1), .r [] (.int .i64 p.2.2.2.1), .r [] (.int .i64 p.2.2.2.2.1), .r [] (.sl (.st .task) p.2.2.2.2.2.1), .r [] (.int .i64 p.2.2.2.2.2.2.1), .r [] (.int .i64 p.2.2.2.2.2.2.2.1), .r [] (.int .i64 p.2.2.2.2.2.2.2.2.1), .r [] (.int .i64 p.2.2.2.2.2.2.2.2.2)])], nid := 1, n := 19, gh := [some 0] }
def ypt (p : List Task × Int × Int × Int × Int × List Task × Int × Int × Int × Int) (x : Int) : St := { slots := [(4, .r [] (.int .i64 x))], heap := [(0, .box [.r [] (.int .i64 p.2.2.1), .r [] (.int .i64 p.2.2.2.1), .r [] (.int .i64 p.2.2.2.2.1), .r [] (.sl (.st .task) p.2.2.2.2.2.1), .r [] (.int .i64 p.2.2.2.2.2.2.1), .r [] (.int .i64 p.2.2.2.2.2.2.2.1), .r [] (.int .i64 p.2.2.2.2.2.2.2.2.1), .r [] (.int .i64 p.2.2.2.2.2.2.2.2.2)])], nid := 1, n := 19, gh := [some 0] }
def ypu (ρ : Type) (k : Nat) : Nat → Ev ρ → Ev ρ := fun id f => cond (Nat.beq id 0) (loopOrc ypl ypm (fun n nf => cond (Nat.beq n 19) (ypq nf) none) fun pv K => iter (fun v next => slices_IndexFunc_lI_Task_I_Task_m2_g0 k pv.1 v next (fun x => K (.exit 0) (yps pv.1 x)) (fun x => K .ret (ypt pv.1 x))) k pv.2) ((fun _ _ _ _ => none) id f)
theorem ypv {ρ : Type} (k : Nat) (p : List Task × Int × Int × Int × Int × List Task × Int × Int × Int × Int) (v : Int) (K K1 : Ex → St → Option ρ) : ev (yph k) (ypu ρ k) 0 ypk (ypp (p, v)) (fun e st' => match e with
    | .normal => (normC ypl ypm st').bind fun nf => K1 .normal (denorm ypl st'.n nf)
    | e => (normC (ypn e) (ypo e) st').bind fun nf => K e (denorm (ypn e) st'.n nf)) = slices_IndexFunc_lI_Task_I_Task_m2_g0 k p v (fun v' => K1 .normal (ypp (p, v'))) (fun x => K (.exit 0) (yps p x)) (fun x => K .ret (ypt p x)) := by kernel_rfl
theorem ypw {ρ : Type} (k : Nat) : Sound Try.prog (.loop ypk) (ypu ρ k 0 fun st K => ev (yph k) (ypu ρ k) 0 ypk st K) :=
  loop_ok (ev_sound (ypi k) ypk 0 (lpgood_none (by kernel_rfl))) ypn ypo k (g := fun p v next K => slices_IndexFunc_lI_Task_I_Task_m2_g0 k p v next (fun x => K (.exit 0) (yps p x)) (fun x => K .ret (ypt p x))) (dec_at ypr) (fun p v K K1 => ypv k p v K K1)
def ypx (a : List Task × Sched) : List SV := [.r [] (.sl (.st .task) a.1), .fn (.func 119) [] [.ptr 0 0 0]]
def ypy (a : List Task × Sched) : List Blk := [.box [.r [] (.int .i64 a.2.now), .r [] (.int .i64 a.2.slack), .r [] (.int .i64 a.2.age), .r [] (.sl (.st .task) a.2.tasks), .r [] (.int .i64 a.2.run), .r [] (.int .i64 a.2.left), .r [] (.int .i64 a.2.turns), .r [] (.int .i64 a.2.next)]]
def ypz (l : List SV) (b : List Blk) : Option (List Task × Sched) := match l, b with
  | [.r [] (.sl (.st .task) w0), .fn (.func 119) [] [.ptr 0 0 0]], [.box [.r [] (.int .i64 w1), .r [] (.int .i64 w2), .r [] (.int .i64 w3), .r [] (.sl (.st .task) w4), .r [] (.int .i64 w5), .r [] (.int .i64 w6), .r [] (.int .i64 w7), .r [] (.int .i64 w8)]] => some (w0, (⟨w1, w2, w3, w4, w5, w6, w7, w8⟩ : Sched))
  | _, _ => none
def yq0 (a : List Task × Sched) (r : Int) : MOut := ⟨.r [] (.int .i64 r), [some (.box [.r [] (.int .i64 a.2.now), .r [] (.int .i64 a.2.slack), .r [] (.int .i64 a.2.age), .r [] (.sl (.st .task) a.2.tasks), .r [] (.int .i64 a.2.run), .r [] (.int .i64 a.2.left), .r [] (.int .i64 a.2.turns), .r [] (.int .i64 a.2.next)])], []⟩
def yq1 (a : List Task × Sched) (o : MOut) : Option (Int) := match o with
  | ⟨.r [] (.int .i64 z1), [some (.box [.r [] (.int .i64 z2), .r [] (.int .i64 z3), .r [] (.int .i64 z4), .r [] (.sl (.st .task) z5), .r [] (.int .i64 z6), .r [] (.int .i64 z7), .r [] (.int .i64 z8), .r [] (.int .i64 z9)])], []⟩ => cond (@sameL Int _ z2 a.2.now) (cond (@sameL Int _ z3 a.2.slack) (cond (@sameL Int _ z4 a.2.age) (cond (@sameL (List Task) _ z5 a.2.tasks) (cond (@sameL Int _ z6 a.2.run) (cond (@sameL Int _ z7 a.2.left) (cond (@sameL Int _ z8 a.2.turns) (cond (@sameL Int _ z9 a.2.next) (some z1) none) none) none) none) none) none) none) none
  | _ => none
def yq2 (k : Nat) : MG := fun _ l b K => (ypz l b).bind fun a => (slices_IndexFunc_lI_Task_I_Task_m2 k a.1 a.2).bind fun r => K (yq0 a r)
theorem yq3 (k : Nat) (a : List Task × Sched) : ev (yph k) (ypu (Int) k) 0 ypj (st0M Try.f192 (ypx a) (ypy a)) (finM Try.prog Try.f192 (.sc) [.box [.sc, .sc, .sc, .ro (.st .task), .sc, .sc, .sc, .sc]] (yq1 a)) = slices_IndexFunc_lI_Task_I_Task_m2 k a.1 a.2 := by kernel_rfl
theorem yq4 (k : Nat) : MutOk Try.prog 192 (yq2 k) :=
  mutOk_of_ev (ypi k) Try.func192 (by kernel_rfl) (by kernel_rfl) ypx ypy ypz
    (fun l b a h => by unfold ypz at h; split at h <;> first | (cases h; exact ⟨rfl, rfl⟩) | cases h) (fun a => rfl) (lpgood_of (l := [(0, ypk)]) (by kernel_rfl) ⟨ypw k, trivial⟩) (fun a r => rfl)
    (fun a o r h => by unfold yq1 at h; split at h <;> first | (obtain ⟨e0, e1, e2, e3, e4, e5, e6, e7, hq⟩ := dec_chk8 h; clear h; subst e0; subst e1; subst e2; subst e3; subst e4; subst e5; subst e6; subst e7; have h := hq; clear hq; cases h; rfl) | cases h) (yq3 k)
def yq5 (k : Nat) : Orc := mutOrc [.one (.sl (.st .task)), .keep] (yq2 k)
theorem yq6 (k : Nat) : OrcOk Try.prog 192 (yq5 k) := mutOrc_ok (yq4 k)
noncomputable def yq7 (k : Nat) : Env := { P := Try.prog, tt := tt, orc := fun g => cond (Nat.beq g 192) (yq5 k) (noOrc), wr := fun g => mem g [192], wt := true }
theorem yq8 (k : Nat) : EnvOk (yq7 k) := fun g => (orc_cond (yq6 k) (noOrc_ok _ _))
noncomputable def yq9 : Code := (Try.f118.body).getD .skip
def yqa (ρ : Type) (k : Nat) : Nat → Ev ρ → Ev ρ := fun _ _ _ _ => none
def yqb (a : List Task × Sched) : List SV := [.r [] (.sl (.st .task) a.1), .fn (.func 119) [] [.ptr 0 0 0]]
def yqc (a : List Task × Sched) : List Blk := [.box [.r [] (.int .i64 a.2.now), .r [] (.int .i64 a.2.slack), .r [] (.int .i64 a.2.age), .r [] (.sl (.st .task) a.2.tasks), .r [] (.int .i64 a.2.run), .r [] (.int .i64 a.2.left), .r [] (.int .i64 a.2.turns), .r [] (.int .i64 a.2.next)]]
def yqd (l : List SV) (b : List Blk) : Option (List Task × Sched) := match l, b with
  | [.r [] (.sl (.st .task) w0), .fn (.func 119) [] [.ptr 0 0 0]], [.box [.r [] (.int .i64 w1), .r [] (.int .i64 w2), .r [] (.int .i64 w3), .r [] (.sl (.st .task) w4), .r [] (.int .i64 w5), .r [] (.int .i64 w6), .r [] (.int .i64 w7), .r [] (.int .i64 w8)]] => some (w0, (⟨w1, w2, w3, w4, w5, w6, w7, w8⟩ : Sched))
  | _, _ => none
def yqe (a : List Task × Sched) (r : Bool) : MOut := ⟨.r [] (.bool r), [some (.box [.r [] (.int .i64 a.2.now), .r [] (.int .i64 a.2.slack), .r [] (.int .i64 a.2.age), .r [] (.sl (.st .task) a.2.tasks), .r [] (.int .i64 a.2.run), .r [] (.int .i64 a.2.left), .r [] (.int .i64 a.2.turns), .r [] (.int .i64 a.2.next)])], []⟩
def yqf (a : List Task × Sched) (o : MOut) : Option (Bool) := match o with
  | ⟨.r [] (.bool z1), [some (.box [.r [] (.int .i64 z2), .r [] (.int .i64 z3), .r [] (.int .i64 z4), .r [] (.sl (.st .task) z5), .r [] (.int .i64 z6), .r [] (.int .i64 z7), .r [] (.int .i64 z8), .r [] (.int .i64 z9)])], []⟩ => cond (@sameL Int _ z2 a.2.now) (cond (@sameL Int _ z3 a.2.slack) (cond (@sameL Int _ z4 a.2.age) (cond (@sameL (List Task) _ z5 a.2.tasks) (cond (@sameL Int _ z6 a.2.run) (cond (@sameL Int _ z7 a.2.left) (cond (@sameL Int _ z8 a.2.turns) (cond (@sameL Int _ z9 a.2.next) (some z1) none) none) none) none) none) none) none) none
  | _ => none
def yqg (k : Nat) : MG := fun _ l b K => (yqd l b).bind fun a => (slices_ContainsFunc_lI_Task_I_Task_m k a.1 a.2).bind fun r => K (yqe a r)
theorem yqh (k : Nat) (a : List Task × Sched) : ev (yq7 k) (yqa (Bool) k) 0 yq9 (st0M Try.f118 (yqb a) (yqc a)) (finM Try.prog Try.f118 (.sc) [.box [.sc, .sc, .sc, .ro (.st .task), .sc, .sc, .sc, .sc]] (yqf a)) = slices_ContainsFunc_lI_Task_I_Task_m k a.1 a.2 := by kernel_rfl
theorem yqi (k : Nat) : MutOk Try.prog 118 (yqg k) :=
  mutOk_of_ev (yq8 k) Try.func118 (by kernel_rfl) (by kernel_rfl) yqb yqc yqd
    (fun l b a h => by unfold yqd at h; split at h <;> first | (cases h; exact ⟨rfl, rfl⟩) | cases h) (fun a => rfl) (lpgood_none (by kernel_rfl)) (fun a r => rfl)
    (fun a o r h => by unfold yqf at h; split at h <;> first | (obtain ⟨e0, e1, e2, e3, e4, e5, e6, e7, hq⟩ := dec_chk8 h; clear h; subst e0; subst e1; subst e2; subst e3; subst e4; subst e5; subst e6; subst e7; have h := hq; clear hq; cases h; rfl) | cases h) (yqh k)
def yqj (k : Nat) : Orc := mutOrc [.one (.sl (.st .task)), .keep] (yqg k)
theorem yqk (k : Nat) : OrcOk Try.prog 118 (yqj k) := mutOrc_ok (yqi k)
noncomputable def yql (k : Nat) : Env := { P := Try.prog, tt := tt, orc := fun g => cond (Nat.beq g 40) (ymm k) (cond (Nat.beq g 118) (yqj k) (noOrc)), wr := fun g => mem g [118], wt := true }
theorem yqm (k : Nat) : EnvOk (yql k) := fun g => (orc_cond (ymn k) (orc_cond (yqk k) (noOrc_ok _ _)))
noncomputable def yqn : Code := (Try.f33.body).getD .skip
def yqo (ρ : Type) (k : Nat) : Nat → Ev ρ → Ev ρ := fun _ _ _ _ => none
def yqp (a : Sched) : List Arg := [.agg [.int .i64 a.now, .int .i64 a.slack, .int .i64 a.age, .sl (.st .task) a.tasks, .int .i64 a.run, .int .i64 a.left, .int .i64 a.turns, .int .i64 a.next]]
def yqq (l : List Arg) : Option (Sched) := match l with
  | [.agg [.int .i64 b0_0, .int .i64 b0_1, .int .i64 b0_2, .sl (.st .task) b0_3, .int .i64 b0_4, .int .i64 b0_5, .int .i64 b0_6, .int .i64 b0_7]] => some (⟨b0_0, b0_1, b0_2, b0_3, b0_4, b0_5, b0_6, b0_7⟩ : Sched)
  | _ => none
def yqr (r : Bool) : Out := (.r [] (.bool r), [])
def yqs (o : Out) : Option (Bool) := match o with
  | (.r [] (.bool z1), []) => some z1
  | _ => none
def yqt (k : Nat) : PG := fun _ l K => (yqq l).bind fun a => (I_FitsIn k a).bind fun r => K (yqr r)
theorem yqu (k : Nat) (a : Sched) : ev (yql k) (yqo (Bool) k) 0 yqn (st0 Try.f33 (yqp a)) (fin Try.prog Try.f33 (.sc) yqs) = I_FitsIn k a := by kernel_rfl
theorem yqv (k : Nat) : PureOk Try.prog 33 (yqt k) :=
  pureOk_of_ev (yqm k) Try.func33 (by kernel_rfl) (by kernel_rfl) yqp yqq
    (fun l a h => by unfold yqq at h; split at h <;> first | (cases h; rfl) | cases h) (fun a => rfl) (lpgood_none (by kernel_rfl))
    (fun o r h => by unfold yqs at h; split at h <;> first | (cases h; rfl) | cases h) (yqu k)
def yqw (k : Nat) : Orc := pureOrc [.agg [(.int .i64), (.int .i64), (.int .i64), (.sl (.st .task)), (.int .i64), (.int .i64), (.int .i64), (.int .i64)]] (yqt k)
theorem yqx (k : Nat) : OrcOk Try.prog 33 (yqw k) := pureOrc_ok (yqv k)
noncomputable def E_L_at (k : Nat) : Env := { P := Try.prog, tt := tt, orc := fun g => noOrc }
theorem yqy (k : Nat) : EnvOk (E_L_at k) := fun g => (noOrc_ok _ _)
noncomputable def c_L_at : Code := (Try.f45.body).getD .skip
def yqz (ρ : Type) (k : Nat) : Nat → Ev ρ → Ev ρ := fun _ _ _ _ => none
def yr0 (a : List Int × Int) : List Arg := [.one (.sl (.int .u8) a.1), .one (.int .i64 a.2)]
def yr1 (l : List Arg) : Option (List Int × Int) := match l with
  | [.one (.sl (.int .u8) b0), .one (.int .i64 b1)] => some (b0, b1)
  | _ => none
def yr2 (r : Int) : Out := (.r [] (.int .i64 r), [])
def yr3 (o : Out) : Option (Int) := match o with
  | (.r [] (.int .i64 z1), []) => some z1
  | _ => none
def L_at_G (k : Nat) : PG := fun _ l K => (yr1 l).bind fun a => (L_at k a.1 a.2).bind fun r => K (yr2 r)
theorem yr4 (k : Nat) (a : List Int × Int) : ev (E_L_at k) (yqz (Int) k) 0 c_L_at (st0 Try.f45 (yr0 a)) (fin Try.prog Try.f45 (.sc) yr3) = L_at k a.1 a.2 := by kernel_rfl
theorem yr5 (k : Nat) : PureOk Try.prog 45 (L_at_G k) :=
  pureOk_of_ev (yqy k) Try.func45 (by kernel_rfl) (by kernel_rfl) yr0 yr1
    (fun l a h => by unfold yr1 at h; split at h <;> first | (cases h; rfl) | cases h) (fun a => rfl) (lpgood_none (by kernel_rfl))
    (fun o r h => by unfold yr3 at h; split at h <;> first | (cases h; rfl) | cases h) (yr4 k)
def o_L_at (k : Nat) : Orc := pureOrc [.one (.sl (.int .u8)), .one (.int .i64)] (L_at_G k)
theorem yr6 (k : Nat) : OrcOk Try.prog 45 (o_L_at k) := pureOrc_ok (yr5 k)
noncomputable def yr7 (k : Nat) : Env := { P := Try.prog, tt := tt, orc := fun g => noOrc }
theorem yr8 (k : Nat) : EnvOk (yr7 k) := fun g => (noOrc_ok _ _)
noncomputable def yr9 : Code := (Try.f115.body).getD .skip
def yra (ρ : Type) (k : Nat) : Nat → Ev ρ → Ev ρ := fun _ _ _ _ => none
def yrb (a : List Int) : List Arg := [.one (.sl (.int .i64) a)]
def yrc (l : List Arg) : Option (List Int) := match l with
  | [.one (.sl (.int .i64) b0)] => some b0
  | _ => none
def yrd (r : List Int) : Out := (.own 0, [.arr none (.int .i64) r])
def yre (o : Out) : Option (List Int) := match o with
  | (.own 0, [.arr none (.int .i64) z1]) => some z1
  | _ => none
def yrf (k : Nat) : PG := fun _ l K => (yrc l).bind fun a => (slices_Clone_lint_int k a).bind fun r => K (yrd r)
theorem yrg (k : Nat) (a : List Int) : ev (yr7 k) (yra (List Int) k) 0 yr9 (st0 Try.f115 (yrb a)) (fin Try.prog Try.f115 (.own (.int .i64)) yre) = slices_Clone_lint_int k a := by kernel_rfl
theorem yrh (k : Nat) : PureOk Try.prog 115 (yrf k) :=
  pureOk_of_ev (yr8 k) Try.func115 (by kernel_rfl) (by kernel_rfl) yrb yrc
    (fun l a h => by unfold yrc at h; split at h <;> first | (cases h; rfl) | cases h) (fun a => rfl) (lpgood_none (by kernel_rfl))
    (fun o r h => by unfold yre at h; split at h <;> first | (cases h; rfl) | cases h) (yrg k)
def yri (k : Nat) : Orc := pureOrc [.one (.sl (.int .i64))] (yrf k)
theorem yrj (k : Nat) : OrcOk Try.prog 115 (yri k) := pureOrc_ok (yrh k)
noncomputable def yrk (k : Nat) : Env := { P := Try.prog, tt := tt, orc := fun g => cond (Nat.beq g 115) (yri k) (noOrc) }
theorem yrl (k : Nat) : EnvOk (yrk k) := fun g => (orc_cond (yrj k) (noOrc_ok _ _))
noncomputable def yrm : Code := (Try.f116.body).getD .skip
noncomputable def yrn : Code := ((loopsIn 0 yrm).getD 0 (0, .skip)).2
def yro : List Nat := [1, 2, 9, 10, 11]
def yrp : List (Where × Co) := [((.pbox 1 3), (.nilOwn false (.st .task)))]
def yrq : Ex → List Nat
  | .exit j => cond (Nat.beq j 0) [1, 2] []
  | .ret => []
  | .normal => []
def yrr : Ex → List (Where × Co)
  | .exit j => cond (Nat.beq j 0) [] []
  | .ret => []
  | .normal => []
def yrs (pv : (List Task × Int × Int × Int × Int × Int × Int × Int × Int × Int × Int × Int × Int × Int × Int × Int) × (Int × List Task)) : St := { slots := [(1, .ptr 0 0 0), (2, .ptr 1 0 0), (9, .r [] (.sl (.st .task) pv.1.1)), (10, .r [] (.int .i64 pv.1.2.1)), (11, .r [] (.int .i64 pv.2.1))], heap := [(0, .box [.r [] (.int .i64 pv.1.2.2.1), .r [] (.int .i64 pv.1.2.2.2.1), .r [] (.int .i64 pv.1.2.2.2.2.1), .own 2, .r [] (.int .i64 pv.1.2.2.2.2.2.1), .r [] (.int .i64 pv.1.2.2.2.2.2.2.1), .r [] (.int .i64 pv.1.2.2.2.2.2.2.2.1), .r [] (.int .i64 pv.1.2.2.2.2.2.2.2.2.1)]), (1, .box [.r [] (.int .i64 pv.1.2.2.2.2.2.2.2.2.2.1), .r [] (.int .i64 pv.1.2.2.2.2.2.2.2.2.2.2.1), .r [] (.int .i64 pv.1.2.2.2.2.2.2.2.2.2.2.2.1), .nilS, .r [] (.int .i64 pv.1.2.2.2.2.2.2.2.2.2.2.2.2.1), .r [] (.int .i64 pv.1.2.2.2.2.2.2.2.2.2.2.2.2.2.1), .r [] (.int .i64 pv.1.2.2.2.2.2.2.2.2.2.2.2.2.2.2.1), .r [] (.int .i64 pv.1.2.2.2.2.2.2.2.2.2.2.2.2.2.2.2)]), (2, .arr none (.st .task) pv.2.2)], nid := 3, n := 27, gh := [] }
def yrt (nf : NF) : Option ((List Task × Int × Int × Int × Int × Int × Int × Int × Int × Int × Int × Int × Int × Int × Int × Int) × (Int × List Task)) := match nf with
  | ([.ptr 0 0 0, .ptr 1 0 0, .r [] (.sl (.st .task) w0), .r [] (.int .i64 w1), .r [] (.int .i64 w2)], [.box [.r [] (.int .i64 w3), .r [] (.int .i64 w4), .r [] (.int .i64 w5), .own 2, .r [] (.int .i64 w6), .r [] (.int .i64 w7), .r [] (.int .i64 w8), .r [] (.int .i64 w9)], .box [.r [] (.int .i64 w10), .r [] (.int .i64 w11), .r [] (.int .i64 w12), .nilS, .r [] (.int .i64 w13), .r [] (.int .i64 w14), .r [] (.int .i64 w15), .r [] (.int .i64 w16)], .arr none (.st .task) w17], []) => some ((w0, w1, w3, w4, w5, w6, w7, w8, w9, w10, w11, w12, w13, w14, w15, w16), (w2, w17))
  | _ => none
theorem yru (nf : NF) (v : (List Task × Int × Int × Int × Int × Int × Int × Int × Int × Int × Int × Int × Int × Int × Int × Int) × (Int × List Task)) (h : yrt nf = some v) : denorm yro 27 nf = yrs v := by
  unfold yrt at h
  split at h
  · cases h; rfl
  · cases h
def yrv (p : List Task × Int × Int × Int × Int × Int × Int × Int × Int × Int × Int × Int × Int × Int × Int × Int) (x : List Task) : St := { slots := [(1, .ptr 0 0 0), (2, .ptr 1 0 0)], heap := [(0, .box [.r [] (.int .i64 p.2.2.1), .r [] (.int .i64 p.2.2.2.1), .r [] (.int .i64 p.2.2.2.2.1), .own 2, .r [] (.int .i64 p.2.2.2.2.2.1), .r [] (.int .i64 p.2.2.2.2.2.2.1), .r [] (.int .i64 p.2.2.2.2.2.2.2.1), .r [] (.int .i64 p.2.2.2.2.2.2.2.2.1)]), (1, .box [.r [] (.int .i64 p.2.2.2.2.2.2.2.2.2.1), .r [] (.int .i64 p.2.2.2.2.2.2.2.2.2.2.1), .r [] (.int .i64 p.2.2.2.2.2.2.2.2.2.2.2.1), .nilS, .r [] (.int .i64 p.2.2.2.2.2.2.2.2.2.2.2.2.1), .r [] (.int .i64 p.2.2.2.2.2.2.2.2.2.2.2.2.2.1), .r [] (.int .i64 p.2.2.2.2.2.2.2.2.2.2.2.2.2.2.1), .r [] (.int .i64 p.2.2.2.2.2.2.2.2.2.2.2.2.2.2.2)]), (2, .arr none (.st .task) x)], nid := 3, n := 27, gh := [] }
def yrw (ρ : Type) (k : Nat) : Nat → Ev ρ → Ev ρ := fun id f => cond (Nat.beq id 0) (loopOrc yro yrp (fun n nf => cond (Nat.beq n 27) (yrt nf) none) fun pv K => iter (fun v next => I_Sched_copied_g0 k pv.1 v next (fun x => K (.exit 0) (yrv pv.1 x))) k pv.2) ((fun _ _ _ _ => none) id f)
theorem yrx {ρ : Type} (k : Nat) (p : List Task × Int × Int × Int × Int × Int × Int × Int × Int × Int × Int × Int × Int × Int × Int × Int) (v : Int × List Task) (K K1 : Ex → St → Option ρ) : ev (yrk k) (yrw ρ k) 0 yrn (yrs (p, v)) (fun e st' => match e with
    | .normal => (normC yro yrp st').bind fun nf => K1 .normal (denorm yro st'.n nf)
    | e => (normC (yrq e) (yrr e) st').bind fun nf => K e (denorm (yrq e) st'.n nf)) = I_Sched_copied_g0 k p v (fun v' => K1 .normal (yrs (p, v'))) (fun x => K (.exit 0) (yrv p x)) := by kernel_rfl
theorem yry {ρ : Type} (k : Nat) : Sound Try.prog (.loop yrn) (yrw ρ k 0 fun st K => ev (yrk k) (yrw ρ k) 0 yrn st K) :=
  loop_ok (ev_sound (yrl k) yrn 0 (lpgood_none (by kernel_rfl))) yrq yrr k (g := fun p v next K => I_Sched_copied_g0 k p v next (fun x => K (.exit 0) (yrv p x))) (dec_at yru) (fun p v K K1 => yrx k p v K K1)
def yrz (a : Sched) : List Arg := [.agg [.int .i64 a.now, .int .i64 a.slack, .int .i64 a.age, .sl (.st .task) a.tasks, .int .i64 a.run, .int .i64 a.left, .int .i64 a.turns, .int .i64 a.next]]
def ys0 (l : List Arg) : Option (Sched) := match l with
  | [.agg [.int .i64 b0_0, .int .i64 b0_1, .int .i64 b0_2, .sl (.st .task) b0_3, .int .i64 b0_4, .int .i64 b0_5, .int .i64 b0_6, .int .i64 b0_7]] => some (⟨b0_0, b0_1, b0_2, b0_3, b0_4, b0_5, b0_6, b0_7⟩ : Sched)
  | _ => none
def ys1 (r : Sched) : Out := (.agg [.r [] (.int .i64 r.now), .r [] (.int .i64 r.slack), .r [] (.int .i64 r.age), .own 0, .r [] (.int .i64 r.run), .r [] (.int .i64 r.left), .r [] (.int .i64 r.turns), .r [] (.int .i64 r.next)], [.arr none (.st .task) r.tasks])
def ys2 (o : Out) : Option (Sched) := match o with
  | (.agg [.r [] (.int .i64 z1), .r [] (.int .i64 z2), .r [] (.int .i64 z3), .own 0, .r [] (.int .i64 z5), .r [] (.int .i64 z6), .r [] (.int .i64 z7), .r [] (.int .i64 z8)], [.arr none (.st .task) z4]) => some (⟨z1, z2, z3, z4, z5, z6, z7, z8⟩ : Sched)
  | _ => none
def ys3 (k : Nat) : PG := fun _ l K => (ys0 l).bind fun a => (I_Sched_copied k a).bind fun r => K (ys1 r)
theorem ys4 (k : Nat) (a : Sched) : ev (yrk k) (yrw (Sched) k) 0 yrm (st0 Try.f116 (yrz a)) (fin Try.prog Try.f116 (.agg [.sc, .sc, .sc, .own (.st .task), .sc, .sc, .sc, .sc]) ys2) = I_Sched_copied k a := by kernel_rfl
theorem ys5 (k : Nat) : PureOk Try.prog 116 (ys3 k) :=
  pureOk_of_ev (yrl k) Try.func116 (by kernel_rfl) (by kernel_rfl) yrz ys0
    (fun l a h => by unfold ys0 at h; split at h <;> first | (cases h; rfl) | cases h) (fun a => rfl) (lpgood_of (l := [(0, yrn)]) (by kernel_rfl) ⟨yry k, trivial⟩)
    (fun o r h => by unfold ys2 at h; split at h <;> first | (cases h; rfl) | cases h) (ys4 k)
def ys6 (k : Nat) : Orc := pureOrc [.agg [(.int .i64), (.int .i64), (.int .i64), (.sl (.st .task)), (.int .i64), (.int .i64), (.int .i64), (.int .i64)]] (ys3 k)
theorem ys7 (k : Nat) : OrcOk Try.prog 116 (ys6 k) := pureOrc_ok (ys5 k)
noncomputable def ys8 (k : Nat) : Env := { P := Try.prog, tt := ttTask, orc := fun g => noOrc }
theorem ys9 (k : Nat) : EnvOk (ys8 k) := fun g => (noOrc_ok _ _)
noncomputable def ysa : Code := (Try.f229.body).getD .skip
def ysb (ρ : Type) (k : Nat) : Nat → Ev ρ → Ev ρ := fun _ _ _ _ => none
def ysc (a : TaskK × Int) : List SV := [.agg [.r [] (.int .i64 a.1.id), .r [] (.tok a.1.costs), .r [] (.int .i64 a.1.at_), .r [] (.int .i64 a.1.due), .r [] (.int .i64 a.1.born)], .ptr 0 0 0]
def ysd (a : TaskK × Int) : List Blk := [.box [.r [] (.int .i64 a.2)]]
def yse (l : List SV) (b : List Blk) : Option (TaskK × Int) := match l, b with
  | [.agg [.r [] (.int .i64 w0), .r [] (.tok w1), .r [] (.int .i64 w2), .r [] (.int .i64 w3), .r [] (.int .i64 w4)], .ptr 0 0 0], [.box [.r [] (.int .i64 w5)]] => some ((⟨w0, w1, w2, w3, w4⟩ : TaskK), w5)
  | _, _ => none
def ysf (a : TaskK × Int) (r : Bool) : MOut := ⟨.r [] (.bool r), [some (.box [.r [] (.int .i64 a.2)])], []⟩
def ysg (a : TaskK × Int) (o : MOut) : Option (Bool) := match o with
  | ⟨.r [] (.bool z1), [some (.box [.r [] (.int .i64 z2)])], []⟩ => cond (@sameL Int _ z2 a.2) (some z1) none
  | _ => none
def ysh (k : Nat) : MG := fun _ l b K => (yse l b).bind fun a => (pI_Sched_drop_c1_m3 k a.1 a.2).bind fun r => K (ysf a r)
theorem ysi (k : Nat) (a : TaskK × Int) : ev (ys8 k) (ysb (Bool) k) 0 ysa (st0M Try.f229 (ysc a) (ysd a)) (finM Try.prog Try.f229 (.sc) [.box [.sc]] (ysg a)) = pI_Sched_drop_c1_m3 k a.1 a.2 := by kernel_rfl
theorem ysj (k : Nat) : MutOk Try.prog 229 (ysh k) :=
  mutOk_of_ev (ys9 k) Try.func229 (by kernel_rfl) (by kernel_rfl) ysc ysd yse
    (fun l b a h => by unfold yse at h; split at h <;> first | (cases h; exact ⟨rfl, rfl⟩) | cases h) (fun a => rfl) (lpgood_none (by kernel_rfl)) (fun a r => rfl)
    (fun a o r h => by unfold ysg at h; split at h <;> first | (obtain ⟨e0, hq⟩ := dec_chk1 h; clear h; subst e0; have h := hq; clear hq; cases h; rfl) | cases h) (ysi k)
def ysk (k : Nat) : Orc := mutOrc [.agg [(.int .i64), .tok, (.int .i64), (.int .i64), (.int .i64)], .keep] (ysh k)
theorem ysl (k : Nat) : OrcOk Try.prog 229 (ysk k) := mutOrc_ok (ysj k)
noncomputable def ysm (k : Nat) : Env := { P := Try.prog, tt := ttTask, orc := fun g => cond (Nat.beq g 229) (ysk k) (noOrc), wr := fun g => mem g [229], wt := true }
theorem ysn (k : Nat) : EnvOk (ysm k) := fun g => (orc_cond (ysl k) (noOrc_ok _ _))
noncomputable def yso : Code := (Try.f192.body).getD .skip
noncomputable def ysp : Code := ((loopsIn 0 yso).getD 0 (0, .skip)).2
def ysq : List Nat := [0, 1, 7, 8]
def ysr : List (Where × Co) := []
def yss : Ex → List Nat
  | .exit j => cond (Nat.beq j 0) [] []
  | .ret => [4]
  | .normal => []
def yst : Ex → List (Where × Co)
  | .exit j => cond (Nat.beq j 0) [] []
  | .ret => []
  | .normal => []
def ysu (pv : (List TaskK × Int × Int) × (Int)) : St := { slots := [(0, .r [] (.sl (.st .taskK) pv.1.1)), (1, .fn (.func 229) [] [.ptr 0 0 0]), (7, .r [] (.int .i64 pv.1.2.1)), (8, .r [] (.int .i64 pv.2))], heap := [(0, .box [.r [] (.int .i64 pv.1.2.2)])], nid := 1, n := 19, gh := [some 0] }
def ysv (nf : NF) : Option ((List TaskK × Int × Int) × (Int)) := match nf with
  | ([.r [] (.sl (.st .taskK) w0), .fn (.func 229) [] [.ptr 0 0 0], .r [] (.int .i64 w1), .r [] (.int .i64 w2)], [.box [.r [] (.int .i64 w3)]], [some 0]) => some ((w0, w1, w3), w2)
  | _ => none
theorem ysw (nf : NF) (v : (List TaskK × Int × Int) × (Int)) (h : ysv nf = some v) : denorm ysq 19 nf = ysu v := by
  unfold ysv at h
  split at h
  · cases h; rfl
  · cases h
def ysx (p : List TaskK × Int × Int) (x : Unit) : St := { slots := [], heap := [(0, .box [.r [] (.int .i64 p.2.2)])], nid := 1, n := 19, gh := [some 0] }
def ysy (p : List TaskK × Int × Int) (x : Int) : St := { slots := [(4, .r [] (.int .i64 x))], heap := [(0, .box [.r [] (.int .i64 p.2.2)])], nid := 1, n := 19, gh := [some 0] }
def ysz (ρ : Type) (k : Nat) : Nat → Ev ρ → Ev ρ := fun id f => cond (Nat.beq id 0) (loopOrc ysq ysr (fun n nf => cond (Nat.beq n 19) (ysv nf) none) fun pv K => iter (fun v next => slices_IndexFunc_lI_Task_I_Task_m5_g0 k pv.1 v next (fun x => K (.exit 0) (ysx pv.1 x)) (fun x => K .ret (ysy pv.1 x))) k pv.2) ((fun _ _ _ _ => none) id f)
theorem yt0 {ρ : Type} (k : Nat) (p : List TaskK × Int × Int) (v : Int) (K K1 : Ex → St → Option ρ) : ev (ysm k) (ysz ρ k) 0 ysp (ysu (p, v)) (fun e st' => match e with
    | .normal => (normC ysq ysr st').bind fun nf => K1 .normal (denorm ysq st'.n nf)
    | e => (normC (yss e) (yst e) st').bind fun nf => K e (denorm (yss e) st'.n nf)) = slices_IndexFunc_lI_Task_I_Task_m5_g0 k p v (fun v' => K1 .normal (ysu (p, v'))) (fun x => K (.exit 0) (ysx p x)) (fun x => K .ret (ysy p x)) := by kernel_rfl
theorem yt1 {ρ : Type} (k : Nat) : Sound Try.prog (.loop ysp) (ysz ρ k 0 fun st K => ev (ysm k) (ysz ρ k) 0 ysp st K) :=
  loop_ok (ev_sound (ysn k) ysp 0 (lpgood_none (by kernel_rfl))) yss yst k (g := fun p v next K => slices_IndexFunc_lI_Task_I_Task_m5_g0 k p v next (fun x => K (.exit 0) (ysx p x)) (fun x => K .ret (ysy p x))) (dec_at ysw) (fun p v K K1 => yt0 k p v K K1)
def yt2 (a : List TaskK × Int) : List SV := [.r [] (.sl (.st .taskK) a.1), .fn (.func 229) [] [.ptr 0 0 0]]
def yt3 (a : List TaskK × Int) : List Blk := [.box [.r [] (.int .i64 a.2)]]
def yt4 (l : List SV) (b : List Blk) : Option (List TaskK × Int) := match l, b with
  | [.r [] (.sl (.st .taskK) w0), .fn (.func 229) [] [.ptr 0 0 0]], [.box [.r [] (.int .i64 w1)]] => some (w0, w1)
  | _, _ => none
def yt5 (a : List TaskK × Int) (r : Int) : MOut := ⟨.r [] (.int .i64 r), [some (.box [.r [] (.int .i64 a.2)])], []⟩
def yt6 (a : List TaskK × Int) (o : MOut) : Option (Int) := match o with
  | ⟨.r [] (.int .i64 z1), [some (.box [.r [] (.int .i64 z2)])], []⟩ => cond (@sameL Int _ z2 a.2) (some z1) none
  | _ => none
def yt7 (k : Nat) : MG := fun _ l b K => (yt4 l b).bind fun a => (slices_IndexFunc_lI_Task_I_Task_m5 k a.1 a.2).bind fun r => K (yt5 a r)
theorem yt8 (k : Nat) (a : List TaskK × Int) : ev (ysm k) (ysz (Int) k) 0 yso (st0M Try.f192 (yt2 a) (yt3 a)) (finM Try.prog Try.f192 (.sc) [.box [.sc]] (yt6 a)) = slices_IndexFunc_lI_Task_I_Task_m5 k a.1 a.2 := by kernel_rfl
theorem yt9 (k : Nat) : MutOk Try.prog 192 (yt7 k) :=
  mutOk_of_ev (ysn k) Try.func192 (by kernel_rfl) (by kernel_rfl) yt2 yt3 yt4
    (fun l b a h => by unfold yt4 at h; split at h <;> first | (cases h; exact ⟨rfl, rfl⟩) | cases h) (fun a => rfl) (lpgood_of (l := [(0, ysp)]) (by kernel_rfl) ⟨yt1 k, trivial⟩) (fun a r => rfl)
    (fun a o r h => by unfold yt6 at h; split at h <;> first | (obtain ⟨e0, hq⟩ := dec_chk1 h; clear h; subst e0; have h := hq; clear hq; cases h; rfl) | cases h) (yt8 k)
def yta (k : Nat) : Orc := mutOrc [.one (.sl (.st .taskK)), .keep] (yt7 k)
theorem ytb (k : Nat) : OrcOk Try.prog 192 (yta k) := mutOrc_ok (yt9 k)
noncomputable def ytc (k : Nat) : Env := { P := Try.prog, tt := ttTask, orc := fun g => cond (Nat.beq g 192) (yta k) (cond (Nat.beq g 229) (ysk k) (noOrc)), wr := fun g => mem g [192, 229], wt := true }
theorem ytd (k : Nat) : EnvOk (ytc k) := fun g => (orc_cond (ytb k) (orc_cond (ysl k) (noOrc_ok _ _)))
noncomputable def yte : Code := (Try.f228.body).getD .skip
noncomputable def ytf : Code := ((loopsIn 0 yte).getD 0 (0, .skip)).2
def ytg : List Nat := [0, 1, 5, 6]
def yth : List (Where × Co) := []
def yti : Ex → List Nat
  | .exit j => cond (Nat.beq j 0) [0, 5] []
  | .ret => []
  | .normal => []
def ytj : Ex → List (Where × Co)
  | .exit j => cond (Nat.beq j 0) [] []
  | .ret => []
  | .normal => []
def ytk (pv : (Int) × (Int × Int × List TaskK)) : St := { slots := [(0, .own 0), (1, .fn (.func 229) [] [.ptr 1 0 0]), (5, .r [] (.int .i64 pv.2.1)), (6, .r [] (.int .i64 pv.2.2.1))], heap := [(0, .arr none (.st .taskK) pv.2.2.2), (1, .box [.r [] (.int .i64 pv.1)])], nid := 2, n := 42, gh := [some 0, some 1] }
def ytl (nf : NF) : Option ((Int) × (Int × Int × List TaskK)) := match nf with
  | ([.own 0, .fn (.func 229) [] [.ptr 1 0 0], .r [] (.int .i64 w0), .r [] (.int .i64 w1)], [.arr none (.st .taskK) w2, .box [.r [] (.int .i64 w3)]], [some 0, some 1]) => some (w3, (w0, w1, w2))
  | _ => none
theorem ytm (nf : NF) (v : (Int) × (Int × Int × List TaskK)) (h : ytl nf = some v) : denorm ytg 42 nf = ytk v := by
  unfold ytl at h
  split at h
  · cases h; rfl
  · cases h
def ytn (p : Int) (x : Int × List TaskK) : St := { slots := [(0, .own 0), (5, .r [] (.int .i64 x.1))], heap := [(0, .arr none (.st .taskK) x.2), (1, .box [.r [] (.int .i64 p)])], nid := 2, n := 42, gh := [some 0, some 1] }
def yto (ρ : Type) (k : Nat) : Nat → Ev ρ → Ev ρ := fun id f => cond (Nat.beq id 0) (loopOrc ytg yth (fun n nf => cond (Nat.beq n 42) (ytl nf) none) fun pv K => iter (fun v next => slices_DeleteFunc_lI_Task_I_Task_m4_g0 k pv.1 v next (fun x => K (.exit 0) (ytn pv.1 x))) k pv.2) ((fun _ _ _ _ => none) id f)
theorem ytp {ρ : Type} (k : Nat) (p : Int) (v : Int × Int × List TaskK) (K K1 : Ex → St → Option ρ) : ev (ytc k) (yto ρ k) 0 ytf (ytk (p, v)) (fun e st' => match e with
    | .normal => (normC ytg yth st').bind fun nf => K1 .normal (denorm ytg st'.n nf)
    | e => (normC (yti e) (ytj e) st').bind fun nf => K e (denorm (yti e) st'.n nf)) = slices_DeleteFunc_lI_Task_I_Task_m4_g0 k p v (fun v' => K1 .normal (ytk (p, v'))) (fun x => K (.exit 0) (ytn p x)) := by kernel_rfl
theorem ytq {ρ : Type} (k : Nat) : Sound Try.prog (.loop ytf) (yto ρ k 0 fun st K => ev (ytc k) (yto ρ k) 0 ytf st K) :=
  loop_ok (ev_sound (ytd k) ytf 0 (lpgood_none (by kernel_rfl))) yti ytj k (g := fun p v next K => slices_DeleteFunc_lI_Task_I_Task_m4_g0 k p v next (fun x => K (.exit 0) (ytn p x))) (dec_at ytm) (fun p v K K1 => ytp k p v K K1)
def ytr (a : List TaskK × Int) : List SV := [.own 0, .fn (.func 229) [] [.ptr 1 0 0]]
def yts (a : List TaskK × Int) : List Blk := [.arr none (.st .taskK) a.1, .box [.r [] (.int .i64 a.2)]]
def ytt (l : List SV) (b : List Blk) : Option (List TaskK × Int) := match l, b with
  | [.own 0, .fn (.func 229) [] [.ptr 1 0 0]], [.arr none (.st .taskK) w0, .box [.r [] (.int .i64 w1)]] => some (w0, w1)
  | _, _ => none
def ytu (a : List TaskK × Int) (r : List TaskK) : MOut := ⟨.own 2, [none, some (.box [.r [] (.int .i64 a.2)])], [.arr none (.st .taskK) r]⟩
def ytv (a : List TaskK × Int) (o : MOut) : Option (List TaskK) := match o with
  | ⟨.own 2, [none, some (.box [.r [] (.int .i64 z1)])], [.arr none (.st .taskK) z2]⟩ => cond (@sameL Int _ z1 a.2) (some z2) none
  | _ => none
def ytw (k : Nat) : MG := fun _ l b K => (ytt l b).bind fun a => (slices_DeleteFunc_lI_Task_I_Task_m4 k a.1 a.2).bind fun r => K (ytu a r)
theorem ytx (k : Nat) (a : List TaskK × Int) : ev (ytc k) (yto (List TaskK) k) 0 yte (st0M Try.f228 (ytr a) (yts a)) (finM Try.prog Try.f228 (.own (.st .taskK)) [.gone, .box [.sc]] (ytv a)) = slices_DeleteFunc_lI_Task_I_Task_m4 k a.1 a.2 := by kernel_rfl
theorem yty (k : Nat) : MutOk Try.prog 228 (ytw k) :=
  mutOk_of_ev (ytd k) Try.func228 (by kernel_rfl) (by kernel_rfl) ytr yts ytt
    (fun l b a h => by unfold ytt at h; split at h <;> first | (cases h; exact ⟨rfl, rfl⟩) | cases h) (fun a => rfl) (lpgood_of (l := [(0, ytf)]) (by kernel_rfl) ⟨ytq k, trivial⟩) (fun a r => rfl)
    (fun a o r h => by unfold ytv at h; split at h <;> first | (obtain ⟨e0, hq⟩ := dec_chk1 h; clear h; subst e0; have h := hq; clear hq; cases h; rfl) | cases h) (ytx k)
def ytz (k : Nat) : Orc := mutOrc [.keep, .keep] (ytw k)
theorem yu0 (k : Nat) : OrcOk Try.prog 228 (ytz k) := mutOrc_ok (yty k)
noncomputable def yu1 (k : Nat) : Env := { P := Try.prog, tt := ttTask, orc := fun g => cond (Nat.beq g 228) (ytz k) (noOrc), wr := fun g => mem g [228], wt := true }
theorem yu2 (k : Nat) : EnvOk (yu1 k) := fun g => (orc_cond (yu0 k) (noOrc_ok _ _))
noncomputable def yu3 : Code := (Try.f199.body).getD .skip
def yu4 (ρ : Type) (k : Nat) : Nat → Ev ρ → Ev ρ := fun _ _ _ _ => none
def yu5 (a : Int × Int × Int × List TaskK × Int × Int × Int × Int × Int) : List SV := [.ptr 0 0 0, .r [] (.int .i64 a.2.2.2.2.2.2.2.2)]
def yu6 (a : Int × Int × Int × List TaskK × Int × Int × Int × Int × Int) : List Blk := [.box [.r [] (.int .i64 a.1), .r [] (.int .i64 a.2.1), .r [] (.int .i64 a.2.2.1), .own 1, .r [] (.int .i64 a.2.2.2.2.1), .r [] (.int .i64 a.2.2.2.2.2.1), .r [] (.int .i64 a.2.2.2.2.2.2.1), .r [] (.int .i64 a.2.2.2.2.2.2.2.1)], .arr none (.st .taskK) a.2.2.2.1]
def yu7 (l : List SV) (b : List Blk) : Option (Int × Int × Int × List TaskK × Int × Int × Int × Int × Int) := match l, b with
  | [.ptr 0 0 0, .r [] (.int .i64 w0)], [.box [.r [] (.int .i64 w1), .r [] (.int .i64 w2), .r [] (.int .i64 w3), .own 1, .r [] (.int .i64 w4), .r [] (.int .i64 w5), .r [] (.int .i64 w6), .r [] (.int .i64 w7)], .arr none (.st .taskK) w8] => some (w1, w2, w3, w8, w4, w5, w6, w7, w0)
  | _, _ => none
def yu8 (a : Int × Int × Int × List TaskK × Int × Int × Int × Int × Int) (r : List TaskK × Int × Int) : MOut := ⟨.tup [], [some (.box [.r [] (.int .i64 a.1), .r [] (.int .i64 a.2.1), .r [] (.int .i64 a.2.2.1), .own 2, .r [] (.int .i64 r.2.1), .r [] (.int .i64 r.2.2), .r [] (.int .i64 a.2.2.2.2.2.2.1), .r [] (.int .i64 a.2.2.2.2.2.2.2.1)]), none], [.arr none (.st .taskK) r.1]⟩
def yu9 (a : Int × Int × Int × List TaskK × Int × Int × Int × Int × Int) (o : MOut) : Option (List TaskK × Int × Int) := match o with
  | ⟨.tup [], [some (.box [.r [] (.int .i64 z1), .r [] (.int .i64 z2), .r [] (.int .i64 z3), .own 2, .r [] (.int .i64 z4), .r [] (.int .i64 z5), .r [] (.int .i64 z6), .r [] (.int .i64 z7)]), none], [.arr none (.st .taskK) z8]⟩ => cond (@sameL Int _ z1 a.1) (cond (@sameL Int _ z2 a.2.1) (cond (@sameL Int _ z3 a.2.2.1) (cond (@sameL Int _ z6 a.2.2.2.2.2.2.1) (cond (@sameL Int _ z7 a.2.2.2.2.2.2.2.1) (some (z8, z4, z5)) none) none) none) none) none
  | _ => none
def yua (k : Nat) : MG := fun _ l b K => (yu7 l b).bind fun a => (pI_Sched_drop_m3 k a.1 a.2.1 a.2.2.1 a.2.2.2.1 a.2.2.2.2.1 a.2.2.2.2.2.1 a.2.2.2.2.2.2.1 a.2.2.2.2.2.2.2.1 a.2.2.2.2.2.2.2.2).bind fun r => K (yu8 a r)
theorem yub (k : Nat) (a : Int × Int × Int × List TaskK × Int × Int × Int × Int × Int) : ev (yu1 k) (yu4 (List TaskK × Int × Int) k) 0 yu3 (st0M Try.f199 (yu5 a) (yu6 a)) (finM Try.prog Try.f199 (.tup []) [.box [.sc, .sc, .sc, .own (.st .taskK), .sc, .sc, .sc, .sc], .gone] (yu9 a)) = pI_Sched_drop_m3 k a.1 a.2.1 a.2.2.1 a.2.2.2.1 a.2.2.2.2.1 a.2.2.2.2.2.1 a.2.2.2.2.2.2.1 a.2.2.2.2.2.2.2.1 a.2.2.2.2.2.2.2.2 := by kernel_rfl
theorem yuc (k : Nat) : MutOk Try.prog 199 (yua k) :=
  mutOk_of_ev (yu2 k) Try.func199 (by kernel_rfl) (by kernel_rfl) yu5 yu6 yu7
    (fun l b a h => by unfold yu7 at h; split at h <;> first | (cases h; exact ⟨rfl, rfl⟩) | cases h) (fun a => rfl) (lpgood_none (by kernel_rfl)) (fun a r => rfl)
    (fun a o r h => by unfold yu9 at h; split at h <;> first | (obtain ⟨e0, e1, e2, e3, e4, hq⟩ := dec_chk5 h; clear h; subst e0; subst e1; subst e2; subst e3; subst e4; have h := hq; clear hq; cases h; rfl) | cases h) (yub k)
noncomputable def yud (k : Nat) : Env := { P := Try.prog, tt := tt, orc := fun g => noOrc }
theorem yue (k : Nat) : EnvOk (yud k) := fun g => (noOrc_ok _ _)
noncomputable def yuf : Code := (Try.f268.body).getD .skip
def yug (ρ : Type) (k : Nat) : Nat → Ev ρ → Ev ρ := fun _ _ _ _ => none
def yuh (a : List Task) : List Arg := [.one (.sl (.st .task) a)]
def yui (l : List Arg) : Option (List Task) := match l with
  | [.one (.sl (.st .task) b0)] => some b0
  | _ => none
def yuj (r : List Task) : Out := (.own 0, [.arr (some []) (.st .task) r])
def yuk (o : Out) : Option (List Task) := match o with
  | (.own 0, [.arr (some []) (.st .task) z1]) => some z1
  | _ => none
def yul (k : Nat) : PG := fun _ l K => (yui l).bind fun a => (slices_Clone_lI_Task_I_Task k a).bind fun r => K (yuj r)
theorem yum (k : Nat) (a : List Task) : ev (yud k) (yug (List Task) k) 0 yuf (st0 Try.f268 (yuh a)) (fin Try.prog Try.f268 (.shl (.st .task)) yuk) = slices_Clone_lI_Task_I_Task k a := by kernel_rfl
theorem yun (k : Nat) : PureOk Try.prog 268 (yul k) :=
  pureOk_of_ev (yue k) Try.func268 (by kernel_rfl) (by kernel_rfl) yuh yui
    (fun l a h => by unfold yui at h; split at h <;> first | (cases h; rfl) | cases h) (fun a => rfl) (lpgood_none (by kernel_rfl))
    (fun o r h => by unfold yuk at h; split at h <;> first | (cases h; rfl) | cases h) (yum k)
def yuo (k : Nat) : Orc := pureOrc [.one (.sl (.st .task))] (yul k)
theorem yup (k : Nat) : OrcOk Try.prog 268 (yuo k) := pureOrc_ok (yun k)
noncomputable def yuq (k : Nat) : Env := { P := Try.prog, tt := tt, orc := fun g => cond (Nat.beq g 120) (ymz k) (noOrc) }
theorem yur (k : Nat) : EnvOk (yuq k) := fun g => (orc_cond (yn0 k) (noOrc_ok _ _))
noncomputable def yus : Code := (Try.f269.body).getD .skip
def yut (ρ : Type) (k : Nat) : Nat → Ev ρ → Ev ρ := fun _ _ _ _ => none
def yuu (a : Task × Sched) : List SV := [.agg [.r [] (.int .i64 a.1.id), .r [] (.sl (.int .i64) a.1.costs), .r [] (.int .i64 a.1.at_), .r [] (.int .i64 a.1.due), .r [] (.int .i64 a.1.born)], .ptr 0 0 0]
def yuv (a : Task × Sched) : List Blk := [.box [.fn (.func 120) [.agg [.r [] (.int .i64 a.2.now), .r [] (.int .i64 a.2.slack), .r [] (.int .i64 a.2.age), .r [] (.sl (.st .task) a.2.tasks), .r [] (.int .i64 a.2.run), .r [] (.int .i64 a.2.left), .r [] (.int .i64 a.2.turns), .r [] (.int .i64 a.2.next)]] []]]
def yuw (l : List SV) (b : List Blk) : Option (Task × Sched) := match l, b with
  | [.agg [.r [] (.int .i64 w0), .r [] (.sl (.int .i64) w1), .r [] (.int .i64 w2), .r [] (.int .i64 w3), .r [] (.int .i64 w4)], .ptr 0 0 0], [.box [.fn (.func 120) [.agg [.r [] (.int .i64 w5), .r [] (.int .i64 w6), .r [] (.int .i64 w7), .r [] (.sl (.st .task) w8), .r [] (.int .i64 w9), .r [] (.int .i64 w10), .r [] (.int .i64 w11), .r [] (.int .i64 w12)]] []]] => some ((⟨w0, w1, w2, w3, w4⟩ : Task), (⟨w5, w6, w7, w8, w9, w10, w11, w12⟩ : Sched))
  | _, _ => none
def yux (a : Task × Sched) (r : Bool) : MOut := ⟨.r [] (.bool r), [some (.box [.fn (.func 120) [.agg [.r [] (.int .i64 a.2.now), .r [] (.int .i64 a.2.slack), .r [] (.int .i64 a.2.age), .r [] (.sl (.st .task) a.2.tasks), .r [] (.int .i64 a.2.run), .r [] (.int .i64 a.2.left), .r [] (.int .i64 a.2.turns), .r [] (.int .i64 a.2.next)]] []])], []⟩
def yuy (a : Task × Sched) (o : MOut) : Option (Bool) := match o with
  | ⟨.r [] (.bool z1), [some (.box [.fn (.func 120) [.agg [.r [] (.int .i64 z2), .r [] (.int .i64 z3), .r [] (.int .i64 z4), .r [] (.sl (.st .task) z5), .r [] (.int .i64 z6), .r [] (.int .i64 z7), .r [] (.int .i64 z8), .r [] (.int .i64 z9)]] []])], []⟩ => cond (@sameL Int _ z2 a.2.now) (cond (@sameL Int _ z3 a.2.slack) (cond (@sameL Int _ z4 a.2.age) (cond (@sameL (List Task) _ z5 a.2.tasks) (cond (@sameL Int _ z6 a.2.run) (cond (@sameL Int _ z7 a.2.left) (cond (@sameL Int _ z8 a.2.turns) (cond (@sameL Int _ z9 a.2.next) (some z1) none) none) none) none) none) none) none) none
  | _ => none
def yuz (k : Nat) : MG := fun _ l b K => (yuw l b).bind fun a => (I_Sched_first_c1_m k a.1 a.2).bind fun r => K (yux a r)
theorem yv0 (k : Nat) (a : Task × Sched) : ev (yuq k) (yut (Bool) k) 0 yus (st0M Try.f269 (yuu a) (yuv a)) (finM Try.prog Try.f269 (.sc) [.box [.fn [.agg [.sc, .sc, .sc, .ro (.st .task), .sc, .sc, .sc, .sc]] []]] (yuy a)) = I_Sched_first_c1_m k a.1 a.2 := by kernel_rfl
theorem yv1 (k : Nat) : MutOk Try.prog 269 (yuz k) :=
  mutOk_of_ev (yur k) Try.func269 (by kernel_rfl) (by kernel_rfl) yuu yuv yuw
    (fun l b a h => by unfold yuw at h; split at h <;> first | (cases h; exact ⟨rfl, rfl⟩) | cases h) (fun a => rfl) (lpgood_none (by kernel_rfl)) (fun a r => rfl)
    (fun a o r h => by unfold yuy at h; split at h <;> first | (obtain ⟨e0, e1, e2, e3, e4, e5, e6, e7, hq⟩ := dec_chk8 h; clear h; subst e0; subst e1; subst e2; subst e3; subst e4; subst e5; subst e6; subst e7; have h := hq; clear hq; cases h; rfl) | cases h) (yv0 k)
def yv2 (k : Nat) : Orc := mutOrc [.agg [(.int .i64), (.sl (.int .i64)), (.int .i64), (.int .i64), (.int .i64)], .keep] (yuz k)
theorem yv3 (k : Nat) : OrcOk Try.prog 269 (yv2 k) := mutOrc_ok (yv1 k)
noncomputable def yv4 (k : Nat) : Env := { P := Try.prog, tt := tt, orc := fun g => cond (Nat.beq g 120) (ymz k) (noOrc) }
theorem yv5 (k : Nat) : EnvOk (yv4 k) := fun g => (orc_cond (yn0 k) (noOrc_ok _ _))
noncomputable def yv6 : Code := (Try.f269.body).getD .skip
def yv7 (ρ : Type) (k : Nat) : Nat → Ev ρ → Ev ρ := fun _ _ _ _ => none
def yv8 (a : Task × Sched) : List SV := [.agg [.r [] (.int .i64 a.1.id), .r [] (.sl (.int .i64) a.1.costs), .r [] (.int .i64 a.1.at_), .r [] (.int .i64 a.1.due), .r [] (.int .i64 a.1.born)], .ptr 0 0 0]
def yv9 (a : Task × Sched) : List Blk := [.box [.fn (.func 120) [.agg [.r [] (.int .i64 a.2.now), .r [] (.int .i64 a.2.slack), .r [] (.int .i64 a.2.age), .r [] (.sl (.st .task) a.2.tasks), .r [] (.int .i64 a.2.run), .r [] (.int .i64 a.2.left), .r [] (.int .i64 a.2.turns), .r [] (.int .i64 a.2.next)]] []]]
def yva (l : List SV) (b : List Blk) : Option (Task × Sched) := match l, b with
  | [.agg [.r [] (.int .i64 w0), .r [] (.sl (.int .i64) w1), .r [] (.int .i64 w2), .r [] (.int .i64 w3), .r [] (.int .i64 w4)], .ptr 0 0 0], [.box [.fn (.func 120) [.agg [.r [] (.int .i64 w5), .r [] (.int .i64 w6), .r [] (.int .i64 w7), .r [] (.sl (.st .task) w8), .r [] (.int .i64 w9), .r [] (.int .i64 w10), .r [] (.int .i64 w11), .r [] (.int .i64 w12)]] []]] => some ((⟨w0, w1, w2, w3, w4⟩ : Task), (⟨w5, w6, w7, w8, w9, w10, w11, w12⟩ : Sched))
  | _, _ => none
def yvb (a : Task × Sched) (r : Bool) : MOut := ⟨.r [] (.bool r), [some (.box [.fn (.func 120) [.agg [.r [] (.int .i64 a.2.now), .r [] (.int .i64 a.2.slack), .r [] (.int .i64 a.2.age), .r [] (.sl (.st .task) a.2.tasks), .r [] (.int .i64 a.2.run), .r [] (.int .i64 a.2.left), .r [] (.int .i64 a.2.turns), .r [] (.int .i64 a.2.next)]] []])], []⟩
def yvc (a : Task × Sched) (o : MOut) : Option (Bool) := match o with
  | ⟨.r [] (.bool z1), [some (.box [.fn (.func 120) [.agg [.r [] (.int .i64 z2), .r [] (.int .i64 z3), .r [] (.int .i64 z4), .r [] (.sl (.st .task) z5), .r [] (.int .i64 z6), .r [] (.int .i64 z7), .r [] (.int .i64 z8), .r [] (.int .i64 z9)]] []])], []⟩ => cond (@sameL Int _ z2 a.2.now) (cond (@sameL Int _ z3 a.2.slack) (cond (@sameL Int _ z4 a.2.age) (cond (@sameL (List Task) _ z5 a.2.tasks) (cond (@sameL Int _ z6 a.2.run) (cond (@sameL Int _ z7 a.2.left) (cond (@sameL Int _ z8 a.2.turns) (cond (@sameL Int _ z9 a.2.next) (some z1) none) none) none) none) none) none) none) none
  | _ => none
def yvd (k : Nat) : MG := fun _ l b K => (yva l b).bind fun a => (I_Sched_first_c1_m2 k a.1 a.2).bind fun r => K (yvb a r)
theorem yve (k : Nat) (a : Task × Sched) : ev (yv4 k) (yv7 (Bool) k) 0 yv6 (st0M Try.f269 (yv8 a) (yv9 a)) (finM Try.prog Try.f269 (.sc) [.box [.fn [.agg [.sc, .sc, .sc, .ro (.st .task), .sc, .sc, .sc, .sc]] []]] (yvc a)) = I_Sched_first_c1_m2 k a.1 a.2 := by kernel_rfl
theorem yvf (k : Nat) : MutOk Try.prog 269 (yvd k) :=
  mutOk_of_ev (yv5 k) Try.func269 (by kernel_rfl) (by kernel_rfl) yv8 yv9 yva
    (fun l b a h => by unfold yva at h; split at h <;> first | (cases h; exact ⟨rfl, rfl⟩) | cases h) (fun a => rfl) (lpgood_none (by kernel_rfl)) (fun a r => rfl)
    (fun a o r h => by unfold yvc at h; split at h <;> first | (obtain ⟨e0, e1, e2, e3, e4, e5, e6, e7, hq⟩ := dec_chk8 h; clear h; subst e0; subst e1; subst e2; subst e3; subst e4; subst e5; subst e6; subst e7; have h := hq; clear hq; cases h; rfl) | cases h) (yve k)
def yvg (k : Nat) : Orc := mutOrc [.keep, .keep] (yvd k)
theorem yvh (k : Nat) : OrcOk Try.prog 269 (yvg k) := mutOrc_ok (yvf k)
noncomputable def yvi (k : Nat) : Env := { P := Try.prog, tt := tt, orc := fun g => cond (Nat.beq g 269) (yv2 k) (noOrc), wr := fun g => mem g [269], wt := true }
theorem yvj (k : Nat) : EnvOk (yvi k) := fun g => (orc_cond (yv3 k) (noOrc_ok _ _))
noncomputable def yvk : Code := (Try.f192.body).getD .skip
noncomputable def yvl : Code := ((loopsIn 0 yvk).getD 0 (0, .skip)).2
def yvm : List Nat := [0, 1, 7, 8]
def yvn : List (Where × Co) := []
def yvo : Ex → List Nat
  | .exit j => cond (Nat.beq j 0) [] []
  | .ret => [4]
  | .normal => []
def yvp : Ex → List (Where × Co)
  | .exit j => cond (Nat.beq j 0) [] []
  | .ret => []
  | .normal => []
def yvq (pv : (Int × List Task × Int × Int × Int × List Task × Int × Int × Int × Int) × (Int)) : St := { slots := [(0, .own 0), (1, .fn (.func 269) [] [.ptr 1 0 0]), (7, .r [] (.int .i64 pv.1.1)), (8, .r [] (.int .i64 pv.2))], heap := [(0, .arr (some []) (.st .task) pv.1.2.1), (1, .box [.fn (.func 120) [.agg [.r [] (.int .i64 pv.1.2.2.1), .r [] (.int .i64 pv.1.2.2.2.1), .r [] (.int .i64 pv.1.2.2.2.2.1), .r [] (.sl (.st .task) pv.1.2.2.2.2.2.1), .r [] (.int .i64 pv.1.2.2.2.2.2.2.1), .r [] (.int .i64 pv.1.2.2.2.2.2.2.2.1), .r [] (.int .i64 pv.1.2.2.2.2.2.2.2.2.1), .r [] (.int .i64 pv.1.2.2.2.2.2.2.2.2.2)]] []])], nid := 2, n := 19, gh := [some 0, some 1] }
def yvr (nf : NF) : Option ((Int × List Task × Int × Int × Int × List Task × Int × Int × Int × Int) × (Int)) := match nf with
  | ([.own 0, .fn (.func 269) [] [.ptr 1 0 0], .r [] (.int .i64 w0), .r [] (.int .i64 w1)], [.arr (some []) (.st .task) w2, .box [.fn (.func 120) [.agg [.r [] (.int .i64 w3), .r [] (.int .i64 w4), .r [] (.int .i64 w5), .r [] (.sl (.st .task) w6), .r [] (.int .i64 w7), .r [] (.int .i64 w8), .r [] (.int .i64 w9), .r [] (.int .i64 w10)]] []]], [some 0, some 1]) => some ((w0, w2, w3, w4, w5, w6, w7, w8, w9, w10), w1)
  | _ => none
theorem yvs (nf : NF) (v : (Int × List Task × Int × Int × Int × List Task × Int × Int × Int × Int) × (Int)) (h : yvr nf = some v) : denorm yvm 19 nf = yvq v := by
  unfold yvr at h
  split at h
  · cases h; rfl
  · cases h
def yvt (p : Int × List Task × Int × Int × Int × List Task × Int × Int × Int × Int) (x : Unit) : St := { slots := [], heap := [(0, .arr (some []) (.st .task) p.2.1), (1, .box [.fn (.func 120) [.agg [.r [] (.int .i64 p.2.2.1), .r [] (.int .i64 p.2.2.2.1), .r [] (.int .i64 p.2.2.2.2.1), .r [] (.sl (.st .task) p.2.2.2.2.2.1), .r [] (.int .i64 p.2.2.2.2.2.2.1), .r [] (.int .i64 p.2.2.2.2.2.2.2.1), .r [] (.int .i64 p.2.2.2.2.2.2.2.2.1), .r [] (.int .i64 p.2.2.2.2.2.2.2.2.2)]] []])], nid := 2, n := 19, gh := [some 0, some 1] }
def yvu (p : Int × List Task × Int × Int × Int × List Task × Int × Int × Int × Int) (x : Int) : St := { slots := [(4, .r [] (.int .i64 x))], heap := [(0, .arr (some []) (.st .task) p.2.1), (1, .box [.fn (.func 120) [.agg [.r [] (.int .i64 p.2.2.1), .r [] (.int .i64 p.2.2.2.1), .r [] (.int .i64 p.2.2.2.2.1), .r [] (.sl (.st .task) p.2.2.2.2.2.1), .r [] (.int .i64 p.2.2.2.2.2.2.1), .r [] (.int .i64 p.2.2.2.2.2.2.2.1), .r [] (.int .i64 p.2.2.2.2.2.2.2.2.1), .r [] (.int .i64 p.2.2.2.2.2.2.2.2.2)]] []])], nid := 2, n := 19, gh := [some 0, some 1] }
def yvv (ρ : Type) (k : Nat) : Nat → Ev ρ → Ev ρ := fun id f => cond (Nat.beq id 0) (loopOrc yvm yvn (fun n nf => cond (Nat.beq n 19) (yvr nf) none) fun pv K => iter (fun v next => slices_IndexFunc_lI_Task_I_Task_m7_g0 k pv.1 v next (fun x => K (.exit 0) (yvt pv.1 x)) (fun x => K .ret (yvu pv.1 x))) k pv.2) ((fun _ _ _ _ => none) id f)
theorem yvw {ρ : Type} (k : Nat) (p : Int × List Task × Int × Int × Int × List Task × Int × Int × Int × Int) (v : Int) (K K1 : Ex → St → Option ρ) : ev (yvi k) (yvv ρ k) 0 yvl (yvq (p, v)) (fun e st' => match e with
    | .normal => (normC yvm yvn st').bind fun nf => K1 .normal (denorm yvm st'.n nf)
    | e => (normC (yvo e) (yvp e) st').bind fun nf => K e (denorm (yvo e) st'.n nf)) = slices_IndexFunc_lI_Task_I_Task_m7_g0 k p v (fun v' => K1 .normal (yvq (p, v'))) (fun x => K (.exit 0) (yvt p x)) (fun x => K .ret (yvu p x)) := by kernel_rfl
theorem yvx {ρ : Type} (k : Nat) : Sound Try.prog (.loop yvl) (yvv ρ k 0 fun st K => ev (yvi k) (yvv ρ k) 0 yvl st K) :=
  loop_ok (ev_sound (yvj k) yvl 0 (lpgood_none (by kernel_rfl))) yvo yvp k (g := fun p v next K => slices_IndexFunc_lI_Task_I_Task_m7_g0 k p v next (fun x => K (.exit 0) (yvt p x)) (fun x => K .ret (yvu p x))) (dec_at yvs) (fun p v K K1 => yvw k p v K K1)
def yvy (a : List Task × Sched) : List SV := [.own 0, .fn (.func 269) [] [.ptr 1 0 0]]
def yvz (a : List Task × Sched) : List Blk := [.arr (some []) (.st .task) a.1, .box [.fn (.func 120) [.agg [.r [] (.int .i64 a.2.now), .r [] (.int .i64 a.2.slack), .r [] (.int .i64 a.2.age), .r [] (.sl (.st .task) a.2.tasks), .r [] (.int .i64 a.2.run), .r [] (.int .i64 a.2.left), .r [] (.int .i64 a.2.turns), .r [] (.int .i64 a.2.next)]] []]]
def yw0 (l : List SV) (b : List Blk) : Option (List Task × Sched) := match l, b with
  | [.own 0, .fn (.func 269) [] [.ptr 1 0 0]], [.arr (some []) (.st .task) w0, .box [.fn (.func 120) [.agg [.r [] (.int .i64 w1), .r [] (.int .i64 w2), .r [] (.int .i64 w3), .r [] (.sl (.st .task) w4), .r [] (.int .i64 w5), .r [] (.int .i64 w6), .r [] (.int .i64 w7), .r [] (.int .i64 w8)]] []]] => some (w0, (⟨w1, w2, w3, w4, w5, w6, w7, w8⟩ : Sched))
  | _, _ => none
def yw1 (a : List Task × Sched) (r : Int) : MOut := ⟨.r [] (.int .i64 r), [some (.arr (some []) (.st .task) a.1), some (.box [.fn (.func 120) [.agg [.r [] (.int .i64 a.2.now), .r [] (.int .i64 a.2.slack), .r [] (.int .i64 a.2.age), .r [] (.sl (.st .task) a.2.tasks), .r [] (.int .i64 a.2.run), .r [] (.int .i64 a.2.left), .r [] (.int .i64 a.2.turns), .r [] (.int .i64 a.2.next)]] []])], []⟩
def yw2 (a : List Task × Sched) (o : MOut) : Option (Int) := match o with
  | ⟨.r [] (.int .i64 z1), [some (.arr (some []) (.st .task) z2), some (.box [.fn (.func 120) [.agg [.r [] (.int .i64 z3), .r [] (.int .i64 z4), .r [] (.int .i64 z5), .r [] (.sl (.st .task) z6), .r [] (.int .i64 z7), .r [] (.int .i64 z8), .r [] (.int .i64 z9), .r [] (.int .i64 z10)]] []])], []⟩ => cond (@sameL (List Task) _ z2 a.1) (cond (@sameL Int _ z3 a.2.now) (cond (@sameL Int _ z4 a.2.slack) (cond (@sameL Int _ z5 a.2.age) (cond (@sameL (List Task) _ z6 a.2.tasks) (cond (@sameL Int _ z7 a.2.run) (cond (@sameL Int _ z8 a.2.left) (cond (@sameL Int _ z9 a.2.turns) (cond (@sameL Int _ z10 a.2.next) (some z1) none) none) none) none) none) none) none) none) none
  | _ => none
def yw3 (k : Nat) : MG := fun _ l b K => (yw0 l b).bind fun a => (slices_IndexFunc_lI_Task_I_Task_m7 k a.1 a.2).bind fun r => K (yw1 a r)
theorem yw4 (k : Nat) (a : List Task × Sched) : ev (yvi k) (yvv (Int) k) 0 yvk (st0M Try.f192 (yvy a) (yvz a)) (finM Try.prog Try.f192 (.sc) [.arr, .box [.fn [.agg [.sc, .sc, .sc, .ro (.st .task), .sc, .sc, .sc, .sc]] []]] (yw2 a)) = slices_IndexFunc_lI_Task_I_Task_m7 k a.1 a.2 := by kernel_rfl
theorem yw5 (k : Nat) : MutOk Try.prog 192 (yw3 k) :=
  mutOk_of_ev (yvj k) Try.func192 (by kernel_rfl) (by kernel_rfl) yvy yvz yw0
    (fun l b a h => by unfold yw0 at h; split at h <;> first | (cases h; exact ⟨rfl, rfl⟩) | cases h) (fun a => rfl) (lpgood_of (l := [(0, yvl)]) (by kernel_rfl) ⟨yvx k, trivial⟩) (fun a r => rfl)
    (fun a o r h => by unfold yw2 at h; split at h <;> first | (obtain ⟨e0, e1, e2, e3, e4, e5, e6, e7, e8, hq⟩ := dec_chk9 h; clear h; subst e0; subst e1; subst e2; subst e3; subst e4; subst e5; subst e6; subst e7; subst e8; have h := hq; clear hq; cases h; rfl) | cases h) (yw4 k)
def yw6 (k : Nat) : Orc := mutOrc [.keep, .keep] (yw3 k)
theorem yw7 (k : Nat) : OrcOk Try.prog 192 (yw6 k) := mutOrc_ok (yw5 k)
noncomputable def yw8 (k : Nat) : Env := { P := Try.prog, tt := tt, orc := fun g => cond (Nat.beq g 192) (yw6 k) (cond (Nat.beq g 269) (yvg k) (noOrc)), wr := fun g => mem g [192, 269], wt := true }
theorem yw9 (k : Nat) : EnvOk (yw8 k) := fun g => (orc_cond (yw7 k) (orc_cond (yvh k) (noOrc_ok _ _)))
noncomputable def ywa : Code := (Try.f228.body).getD .skip
noncomputable def ywb : Code := ((loopsIn 0 ywa).getD 0 (0, .skip)).2
def ywc : List Nat := [0, 1, 5, 6]
def ywd : List (Where × Co) := []
def ywe : Ex → List Nat
  | .exit j => cond (Nat.beq j 0) [0, 5] []
  | .ret => []
  | .normal => []
def ywf : Ex → List (Where × Co)
  | .exit j => cond (Nat.beq j 0) [] []
  | .ret => []
  | .normal => []
def ywg (pv : (Int × Int × Int × List Task × Int × Int × Int × Int) × (Int × Int × List Task)) : St := { slots := [(0, .own 0), (1, .fn (.func 269) [] [.ptr 1 0 0]), (5, .r [] (.int .i64 pv.2.1)), (6, .r [] (.int .i64 pv.2.2.1))], heap := [(0, .arr (some []) (.st .task) pv.2.2.2), (1, .box [.fn (.func 120) [.agg [.r [] (.int .i64 pv.1.1), .r [] (.int .i64 pv.1.2.1), .r [] (.int .i64 pv.1.2.2.1), .r [] (.sl (.st .task) pv.1.2.2.2.1), .r [] (.int .i64 pv.1.2.2.2.2.1), .r [] (.int .i64 pv.1.2.2.2.2.2.1), .r [] (.int .i64 pv.1.2.2.2.2.2.2.1), .r [] (.int .i64 pv.1.2.2.2.2.2.2.2)]] []])], nid := 2, n := 42, gh := [some 0, some 1] }
def ywh (nf : NF) : Option ((Int × Int × Int × List Task × Int × Int × Int × Int) × (Int × Int × List Task)) := match nf with
  | ([.own 0, .fn (.func 269) [] [.ptr 1 0 0], .r [] (.int .i64 w0), .r [] (.int .i64 w1)], [.arr (some []) (.st .task) w2, .box [.fn (.func 120) [.agg [.r [] (.int .i64 w3), .r [] (.int .i64 w4), .r [] (.int .i64 w5), .r [] (.sl (.st .task) w6), .r [] (.int .i64 w7), .r [] (.int .i64 w8), .r [] (.int .i64 w9), .r [] (.int .i64 w10)]] []]], [some 0, some 1]) => some ((w3, w4, w5, w6, w7, w8, w9, w10), (w0, w1, w2))
  | _ => none
theorem ywi (nf : NF) (v : (Int × Int × Int × List Task × Int × Int × Int × Int) × (Int × Int × List Task)) (h : ywh nf = some v) : denorm ywc 42 nf = ywg v := by
  unfold ywh at h
  split at h
  · cases h; rfl
  · cases h
def ywj (p : Int × Int × Int × List Task × Int × Int × Int × Int) (x : Int × List Task) : St := { slots := [(0, .own 0), (5, .r [] (.int .i64 x.1))], heap := [(0, .arr (some []) (.st .task) x.2), (1, .box [.fn (.func 120) [.agg [.r [] (.int .i64 p.1), .r [] (.int .i64 p.2.1), .r [] (.int .i64 p.2.2.1), .r [] (.sl (.st .task) p.2.2.2.1), .r [] (.int .i64 p.2.2.2.2.1), .r [] (.int .i64 p.2.2.2.2.2.1), .r [] (.int .i64 p.2.2.2.2.2.2.1), .r [] (.int .i64 p.2.2.2.2.2.2.2)]] []])], nid := 2, n := 42, gh := [some 0, some 1] }
def ywk (ρ : Type) (k : Nat) : Nat → Ev ρ → Ev ρ := fun id f => cond (Nat.beq id 0) (loopOrc ywc ywd (fun n nf => cond (Nat.beq n 42) (ywh nf) none) fun pv K => iter (fun v next => slices_DeleteFunc_lI_Task_I_Task_m6_g0 k pv.1 v next (fun x => K (.exit 0) (ywj pv.1 x))) k pv.2) ((fun _ _ _ _ => none) id f)
theorem ywl {ρ : Type} (k : Nat) (p : Int × Int × Int × List Task × Int × Int × Int × Int) (v : Int × Int × List Task) (K K1 : Ex → St → Option ρ) : ev (yw8 k) (ywk ρ k) 0 ywb (ywg (p, v)) (fun e st' => match e with
    | .normal => (normC ywc ywd st').bind fun nf => K1 .normal (denorm ywc st'.n nf)
    | e => (normC (ywe e) (ywf e) st').bind fun nf => K e (denorm (ywe e) st'.n nf)) = slices_DeleteFunc_lI_Task_I_Task_m6_g0 k p v (fun v' => K1 .normal (ywg (p, v'))) (fun x => K (.exit 0) (ywj p x)) := by kernel_rfl
theorem ywm {ρ : Type} (k : Nat) : Sound Try.prog (.loop ywb) (ywk ρ k 0 fun st K => ev (yw8 k) (ywk ρ k) 0 ywb st K) :=
  loop_ok (ev_sound (yw9 k) ywb 0 (lpgood_none (by kernel_rfl))) ywe ywf k (g := fun p v next K => slices_DeleteFunc_lI_Task_I_Task_m6_g0 k p v next (fun x => K (.exit 0) (ywj p x))) (dec_at ywi) (fun p v K K1 => ywl k p v K K1)
def ywn (a : List Task × Sched) : List SV := [.own 0, .fn (.func 269) [] [.ptr 1 0 0]]
def ywo (a : List Task × Sched) : List Blk := [.arr (some []) (.st .task) a.1, .box [.fn (.func 120) [.agg [.r [] (.int .i64 a.2.now), .r [] (.int .i64 a.2.slack), .r [] (.int .i64 a.2.age), .r [] (.sl (.st .task) a.2.tasks), .r [] (.int .i64 a.2.run), .r [] (.int .i64 a.2.left), .r [] (.int .i64 a.2.turns), .r [] (.int .i64 a.2.next)]] []]]
def ywp (l : List SV) (b : List Blk) : Option (List Task × Sched) := match l, b with
  | [.own 0, .fn (.func 269) [] [.ptr 1 0 0]], [.arr (some []) (.st .task) w0, .box [.fn (.func 120) [.agg [.r [] (.int .i64 w1), .r [] (.int .i64 w2), .r [] (.int .i64 w3), .r [] (.sl (.st .task) w4), .r [] (.int .i64 w5), .r [] (.int .i64 w6), .r [] (.int .i64 w7), .r [] (.int .i64 w8)]] []]] => some (w0, (⟨w1, w2, w3, w4, w5, w6, w7, w8⟩ : Sched))
  | _, _ => none
def ywq (a : List Task × Sched) (r : List Task) : MOut := ⟨.own 2, [none, some (.box [.fn (.func 120) [.agg [.r [] (.int .i64 a.2.now), .r [] (.int .i64 a.2.slack), .r [] (.int .i64 a.2.age), .r [] (.sl (.st .task) a.2.tasks), .r [] (.int .i64 a.2.run), .r [] (.int .i64 a.2.left), .r [] (.int .i64 a.2.turns), .r [] (.int .i64 a.2.next)]] []])], [.arr (some []) (.st .task) r]⟩
def ywr (a : List Task × Sched) (o : MOut) : Option (List Task) := match o with
  | ⟨.own 2, [none, some (.box [.fn (.func 120) [.agg [.r [] (.int .i64 z1), .r [] (.int .i64 z2), .r [] (.int .i64 z3), .r [] (.sl (.st .task) z4), .r [] (.int .i64 z5), .r [] (.int .i64 z6), .r [] (.int .i64 z7), .r [] (.int .i64 z8)]] []])], [.arr (some []) (.st .task) z9]⟩ => cond (@sameL Int _ z1 a.2.now) (cond (@sameL Int _ z2 a.2.slack) (cond (@sameL Int _ z3 a.2.age) (cond (@sameL (List Task) _ z4 a.2.tasks) (cond (@sameL Int _ z5 a.2.run) (cond (@sameL Int _ z6 a.2.left) (cond (@sameL Int _ z7 a.2.turns) (cond (@sameL Int _ z8 a.2.next) (some z9) none) none) none) none) none) none) none) none
  | _ => none
def yws (k : Nat) : MG := fun _ l b K => (ywp l b).bind fun a => (slices_DeleteFunc_lI_Task_I_Task_m6 k a.1 a.2).bind fun r => K (ywq a r)
theorem ywt (k : Nat) (a : List Task × Sched) : ev (yw8 k) (ywk (List Task) k) 0 ywa (st0M Try.f228 (ywn a) (ywo a)) (finM Try.prog Try.f228 (.shl (.st .task)) [.gone, .box [.fn [.agg [.sc, .sc, .sc, .ro (.st .task), .sc, .sc, .sc, .sc]] []]] (ywr a)) = slices_DeleteFunc_lI_Task_I_Task_m6 k a.1 a.2 := by kernel_rfl
theorem ywu (k : Nat) : MutOk Try.prog 228 (yws k) :=
  mutOk_of_ev (yw9 k) Try.func228 (by kernel_rfl) (by kernel_rfl) ywn ywo ywp
    (fun l b a h => by unfold ywp at h; split at h <;> first | (cases h; exact ⟨rfl, rfl⟩) | cases h) (fun a => rfl) (lpgood_of (l := [(0, ywb)]) (by kernel_rfl) ⟨ywm k, trivial⟩) (fun a r => rfl)
    (fun a o r h => by unfold ywr at h; split at h <;> first | (obtain ⟨e0, e1, e2, e3, e4, e5, e6, e7, hq⟩ := dec_chk8 h; clear h; subst e0; subst e1; subst e2; subst e3; subst e4; subst e5; subst e6; subst e7; have h := hq; clear hq; cases h; rfl) | cases h) (ywt k)
def ywv (k : Nat) : Orc := mutOrc [.keep, .keep] (yws k)
theorem yww (k : Nat) : OrcOk Try.prog 228 (ywv k) := mutOrc_ok (ywu k)
noncomputable def ywx (k : Nat) : Env := { P := Try.prog, tt := tt, orc := fun g => noOrc }
theorem ywy (k : Nat) : EnvOk (ywx k) := fun g => (noOrc_ok _ _)
noncomputable def ywz : Code := (Try.f252.body).getD .skip
def yx0 (ρ : Type) (k : Nat) : Nat → Ev ρ → Ev ρ := fun _ _ _ _ => none
def yx1 (a : Task) : List Arg := [.agg [.int .i64 a.id, .sl (.int .i64) a.costs, .int .i64 a.at_, .int .i64 a.due, .int .i64 a.born]]
def yx2 (l : List Arg) : Option (Task) := match l with
  | [.agg [.int .i64 b0_0, .sl (.int .i64) b0_1, .int .i64 b0_2, .int .i64 b0_3, .int .i64 b0_4]] => some (⟨b0_0, b0_1, b0_2, b0_3, b0_4⟩ : Task)
  | _ => none
def yx3 (r : Int) : Out := (.r [] (.int .i64 r), [])
def yx4 (o : Out) : Option (Int) := match o with
  | (.r [] (.int .i64 z1), []) => some z1
  | _ => none
def yx5 (k : Nat) : PG := fun _ l K => (yx2 l).bind fun a => (I_Sched_pick_c1 k a).bind fun r => K (yx3 r)
theorem yx6 (k : Nat) (a : Task) : ev (ywx k) (yx0 (Int) k) 0 ywz (st0 Try.f252 (yx1 a)) (fin Try.prog Try.f252 (.sc) yx4) = I_Sched_pick_c1 k a := by kernel_rfl
theorem yx7 (k : Nat) : PureOk Try.prog 252 (yx5 k) :=
  pureOk_of_ev (ywy k) Try.func252 (by kernel_rfl) (by kernel_rfl) yx1 yx2
    (fun l a h => by unfold yx2 at h; split at h <;> first | (cases h; rfl) | cases h) (fun a => rfl) (lpgood_none (by kernel_rfl))
    (fun o r h => by unfold yx4 at h; split at h <;> first | (cases h; rfl) | cases h) (yx6 k)
def yx8 (k : Nat) : Orc := pureOrc [.agg [(.int .i64), (.sl (.int .i64)), (.int .i64), (.int .i64), (.int .i64)]] (yx5 k)
theorem yx9 (k : Nat) : OrcOk Try.prog 252 (yx8 k) := pureOrc_ok (yx7 k)
noncomputable def yxa (k : Nat) : Env := { P := Try.prog, tt := tt, orc := fun g => noOrc }
theorem yxb (k : Nat) : EnvOk (yxa k) := fun g => (noOrc_ok _ _)
noncomputable def yxc : Code := (Try.f215.body).getD .skip
def yxd (ρ : Type) (k : Nat) : Nat → Ev ρ → Ev ρ := fun _ _ _ _ => none
def yxe (a : Int) : List Arg := [.one (.int .i64 a)]
def yxf (l : List Arg) : Option (Int) := match l with
  | [.one (.int .i64 b0)] => some b0
  | _ => none
def yxg (r : Bool) : Out := (.r [] (.bool r), [])
def yxh (o : Out) : Option (Bool) := match o with
  | (.r [] (.bool z1), []) => some z1
  | _ => none
def yxi (k : Nat) : PG := fun _ l K => (yxf l).bind fun a => (cmp_isNaN_int k a).bind fun r => K (yxg r)
theorem yxj (k : Nat) (a : Int) : ev (yxa k) (yxd (Bool) k) 0 yxc (st0 Try.f215 (yxe a)) (fin Try.prog Try.f215 (.sc) yxh) = cmp_isNaN_int k a := by kernel_rfl
theorem yxk (k : Nat) : PureOk Try.prog 215 (yxi k) :=
  pureOk_of_ev (yxb k) Try.func215 (by kernel_rfl) (by kernel_rfl) yxe yxf
    (fun l a h => by unfold yxf at h; split at h <;> first | (cases h; rfl) | cases h) (fun a => rfl) (lpgood_none (by kernel_rfl))
    (fun o r h => by unfold yxh at h; split at h <;> first | (cases h; rfl) | cases h) (yxj k)
def yxl (k : Nat) : Orc := pureOrc [.one (.int .i64)] (yxi k)
theorem yxm (k : Nat) : OrcOk Try.prog 215 (yxl k) := pureOrc_ok (yxk k)
noncomputable def yxn (k : Nat) : Env := { P := Try.prog, tt := tt, orc := fun g => cond (Nat.beq g 215) (yxl k) (noOrc) }
theorem yxo (k : Nat) : EnvOk (yxn k) := fun g => (orc_cond (yxm k) (noOrc_ok _ _))
noncomputable def yxp : Code := (Try.f168.body).getD .skip
def yxq (ρ : Type) (k : Nat) : Nat → Ev ρ → Ev ρ := fun _ _ _ _ => none
def yxr (a : Int × Int) : List Arg := [.one (.int .i64 a.1), .one (.int .i64 a.2)]
def yxs (l : List Arg) : Option (Int × Int) := match l with
  | [.one (.int .i64 b0), .one (.int .i64 b1)] => some (b0, b1)
  | _ => none
def yxt (r : Int) : Out := (.r [] (.int .i64 r), [])
def yxu (o : Out) : Option (Int) := match o with
  | (.r [] (.int .i64 z1), []) => some z1
  | _ => none
def yxv (k : Nat) : PG := fun _ l K => (yxs l).bind fun a => (cmp_Compare_int k a.1 a.2).bind fun r => K (yxt r)
theorem yxw (k : Nat) (a : Int × Int) : ev (yxn k) (yxq (Int) k) 0 yxp (st0 Try.f168 (yxr a)) (fin Try.prog Try.f168 (.sc) yxu) = cmp_Compare_int k a.1 a.2 := by kernel_rfl
theorem yxx (k : Nat) : PureOk Try.prog 168 (yxv k) :=
  pureOk_of_ev (yxo k) Try.func168 (by kernel_rfl) (by kernel_rfl) yxr yxs
    (fun l a h => by unfold yxs at h; split at h <;> first | (cases h; rfl) | cases h) (fun a => rfl) (lpgood_none (by kernel_rfl))
    (fun o r h => by unfold yxu at h; split at h <;> first | (cases h; rfl) | cases h) (yxw k)
def yxy (k : Nat) : Orc := pureOrc [.one (.int .i64), .one (.int .i64)] (yxv k)
theorem yxz (k : Nat) : OrcOk Try.prog 168 (yxy k) := pureOrc_ok (yxx k)
noncomputable def yy0 (k : Nat) : Env := { P := Try.prog, tt := tt, orc := fun g => noOrc }
theorem yy1 (k : Nat) : EnvOk (yy0 k) := fun g => (noOrc_ok _ _)
noncomputable def yy2 : Code := (Try.f272.body).getD .skip
noncomputable def yy3 : Code := ((loopsIn 0 yy2).getD 0 (0, .skip)).2
def yy4 : List Nat := [3, 6, 7, 8]
def yy5 : List (Where × Co) := []
def yy6 : Ex → List Nat
  | .exit j => cond (Nat.beq j 0) [3] []
  | .ret => [2]
  | .normal => []
def yy7 : Ex → List (Where × Co)
  | .exit j => cond (Nat.beq j 0) [] []
  | .ret => []
  | .normal => []
def yy8 (pv : (Int × List Int × Int) × (Int)) : St := { slots := [(3, .r [] (.int .i64 pv.1.1)), (6, .r [] (.sl (.int .i64) pv.1.2.1)), (7, .r [] (.int .i64 pv.1.2.2)), (8, .r [] (.int .i64 pv.2))], heap := [], nid := 0, n := 18, gh := [] }
def yy9 (nf : NF) : Option ((Int × List Int × Int) × (Int)) := match nf with
  | ([.r [] (.int .i64 w0), .r [] (.sl (.int .i64) w1), .r [] (.int .i64 w2), .r [] (.int .i64 w3)], [], []) => some ((w0, w1, w2), w3)
  | _ => none
theorem yya (nf : NF) (v : (Int × List Int × Int) × (Int)) (h : yy9 nf = some v) : denorm yy4 18 nf = yy8 v := by
  unfold yy9 at h
  split at h
  · cases h; rfl
  · cases h
def yyb (p : Int × List Int × Int) (x : Unit) : St := { slots := [(3, .r [] (.int .i64 p.1))], heap := [], nid := 0, n := 18, gh := [] }
def yyc (p : Int × List Int × Int) (x : Int) : St := { slots := [(2, .r [] (.int .i64 x))], heap := [], nid := 0, n := 18, gh := [] }
def yyd (ρ : Type) (k : Nat) : Nat → Ev ρ → Ev ρ := fun id f => cond (Nat.beq id 0) (loopOrc yy4 yy5 (fun n nf => cond (Nat.beq n 18) (yy9 nf) none) fun pv K => iter (fun v next => cmp_Or_int_g0 k pv.1 v next (fun x => K (.exit 0) (yyb pv.1 x)) (fun x => K .ret (yyc pv.1 x))) k pv.2) ((fun _ _ _ _ => none) id f)
theorem yye {ρ : Type} (k : Nat) (p : Int × List Int × Int) (v : Int) (K K1 : Ex → St → Option ρ) : ev (yy0 k) (yyd ρ k) 0 yy3 (yy8 (p, v)) (fun e st' => match e with
    | .normal => (normC yy4 yy5 st').bind fun nf => K1 .normal (denorm yy4 st'.n nf)
    | e => (normC (yy6 e) (yy7 e) st').bind fun nf => K e (denorm (yy6 e) st'.n nf)) = cmp_Or_int_g0 k p v (fun v' => K1 .normal (yy8 (p, v'))) (fun x => K (.exit 0) (yyb p x)) (fun x => K .ret (yyc p x)) := by kernel_rfl
theorem yyf {ρ : Type} (k : Nat) : Sound Try.prog (.loop yy3) (yyd ρ k 0 fun st K => ev (yy0 k) (yyd ρ k) 0 yy3 st K) :=
  loop_ok (ev_sound (yy1 k) yy3 0 (lpgood_none (by kernel_rfl))) yy6 yy7 k (g := fun p v next K => cmp_Or_int_g0 k p v next (fun x => K (.exit 0) (yyb p x)) (fun x => K .ret (yyc p x))) (dec_at yya) (fun p v K K1 => yye k p v K K1)
def yyg (a : List Int) : List Arg := [.one (.sl (.int .i64) a)]
def yyh (l : List Arg) : Option (List Int) := match l with
  | [.one (.sl (.int .i64) b0)] => some b0
  | _ => none
def yyi (r : Int) : Out := (.r [] (.int .i64 r), [])
def yyj (o : Out) : Option (Int) := match o with
  | (.r [] (.int .i64 z1), []) => some z1
  | _ => none
def yyk (k : Nat) : PG := fun _ l K => (yyh l).bind fun a => (cmp_Or_int k a).bind fun r => K (yyi r)
theorem yyl (k : Nat) (a : List Int) : ev (yy0 k) (yyd (Int) k) 0 yy2 (st0 Try.f272 (yyg a)) (fin Try.prog Try.f272 (.sc) yyj) = cmp_Or_int k a := by kernel_rfl
theorem yym (k : Nat) : PureOk Try.prog 272 (yyk k) :=
  pureOk_of_ev (yy1 k) Try.func272 (by kernel_rfl) (by kernel_rfl) yyg yyh
    (fun l a h => by unfold yyh at h; split at h <;> first | (cases h; rfl) | cases h) (fun a => rfl) (lpgood_of (l := [(0, yy3)]) (by kernel_rfl) ⟨yyf k, trivial⟩)
    (fun o r h => by unfold yyj at h; split at h <;> first | (cases h; rfl) | cases h) (yyl k)
def yyn (k : Nat) : Orc := pureOrc [.one (.sl (.int .i64))] (yyk k)
theorem yyo (k : Nat) : OrcOk Try.prog 272 (yyn k) := pureOrc_ok (yym k)
noncomputable def yyp (k : Nat) : Env := { P := Try.prog, tt := tt, orc := fun g => cond (Nat.beq g 168) (yxy k) (cond (Nat.beq g 252) (yx8 k) (cond (Nat.beq g 272) (yyn k) (noOrc))) }
theorem yyq (k : Nat) : EnvOk (yyp k) := fun g => (orc_cond (yxz k) (orc_cond (yx9 k) (orc_cond (yyo k) (noOrc_ok _ _))))
noncomputable def yyr : Code := (Try.f271.body).getD .skip
def yys (ρ : Type) (k : Nat) : Nat → Ev ρ → Ev ρ := fun _ _ _ _ => none
def yyt (a : Task × Task) : List SV := [.agg [.r [] (.int .i64 a.1.id), .r [] (.sl (.int .i64) a.1.costs), .r [] (.int .i64 a.1.at_), .r [] (.int .i64 a.1.due), .r [] (.int .i64 a.1.born)], .agg [.r [] (.int .i64 a.2.id), .r [] (.sl (.int .i64) a.2.costs), .r [] (.int .i64 a.2.at_), .r [] (.int .i64 a.2.due), .r [] (.int .i64 a.2.born)], .ptr 0 0 0]
def yyu (a : Task × Task) : List Blk := [.box [.fn (.func 252) [] []]]
def yyv (l : List SV) (b : List Blk) : Option (Task × Task) := match l, b with
  | [.agg [.r [] (.int .i64 w0), .r [] (.sl (.int .i64) w1), .r [] (.int .i64 w2), .r [] (.int .i64 w3), .r [] (.int .i64 w4)], .agg [.r [] (.int .i64 w5), .r [] (.sl (.int .i64) w6), .r [] (.int .i64 w7), .r [] (.int .i64 w8), .r [] (.int .i64 w9)], .ptr 0 0 0], [.box [.fn (.func 252) [] []]] => some ((⟨w0, w1, w2, w3, w4⟩ : Task), (⟨w5, w6, w7, w8, w9⟩ : Task))
  | _, _ => none
def yyw (a : Task × Task) (r : Int) : MOut := ⟨.r [] (.int .i64 r), [some (.box [.fn (.func 252) [] []])], []⟩
def yyx (a : Task × Task) (o : MOut) : Option (Int) := match o with
  | ⟨.r [] (.int .i64 z1), [some (.box [.fn (.func 252) [] []])], []⟩ => some z1
  | _ => none
def yyy (k : Nat) : MG := fun _ l b K => (yyv l b).bind fun a => (I_Sched_first_c2_m k a.1 a.2).bind fun r => K (yyw a r)
theorem yyz (k : Nat) (a : Task × Task) : ev (yyp k) (yys (Int) k) 0 yyr (st0M Try.f271 (yyt a) (yyu a)) (finM Try.prog Try.f271 (.sc) [.box [.fn [] []]] (yyx a)) = I_Sched_first_c2_m k a.1 a.2 := by kernel_rfl
theorem yz0 (k : Nat) : MutOk Try.prog 271 (yyy k) :=
  mutOk_of_ev (yyq k) Try.func271 (by kernel_rfl) (by kernel_rfl) yyt yyu yyv
    (fun l b a h => by unfold yyv at h; split at h <;> first | (cases h; exact ⟨rfl, rfl⟩) | cases h) (fun a => rfl) (lpgood_none (by kernel_rfl)) (fun a r => rfl)
    (fun a o r h => by unfold yyx at h; split at h <;> first | (skip; cases h; rfl) | cases h) (yyz k)
def yz1 (k : Nat) : Orc := mutOrc [.agg [(.int .i64), (.sl (.int .i64)), (.int .i64), (.int .i64), (.int .i64)], .agg [(.int .i64), (.sl (.int .i64)), (.int .i64), (.int .i64), (.int .i64)], .keep] (yyy k)
theorem yz2 (k : Nat) : OrcOk Try.prog 271 (yz1 k) := mutOrc_ok (yz0 k)
noncomputable def yz3 (k : Nat) : Env := { P := Try.prog, tt := tt, orc := fun g => cond (Nat.beq g 271) (yz1 k) (noOrc), wr := fun g => mem g [271], wt := true }
theorem yz4 (k : Nat) : EnvOk (yz3 k) := fun g => (orc_cond (yz2 k) (noOrc_ok _ _))
noncomputable def yz5 : Code := (Try.f270.body).getD .skip
noncomputable def yz6 : Code := ((loopsIn 0 yz5).getD 0 (0, .skip)).2
def yz7 : List Nat := [0, 1, 4, 5, 6]
def yz8 : List (Where × Co) := []
def yz9 : Ex → List Nat
  | .exit j => cond (Nat.beq j 0) [4, 5] []
  | .ret => []
  | .normal => []
def yza : Ex → List (Where × Co)
  | .exit j => cond (Nat.beq j 0) [] []
  | .ret => []
  | .normal => []
def yzb (pv : (List Task × Int × Int × Int × Int) × (Int × Int × List Int × Int × Int × Int)) : St := { slots := [(0, .r [] (.sl (.st .task) pv.1.1)), (1, .fn (.func 271) [] [.ptr 0 0 0]), (4, .ptr 1 0 0), (5, .ptr 2 0 0), (6, .r [] (.int .i64 pv.2.1))], heap := [(0, .box [.fn (.func 252) [] []]), (1, .box [.r [] (.int .i64 pv.1.2.1), .nilS, .r [] (.int .i64 pv.1.2.2.1), .r [] (.int .i64 pv.1.2.2.2.1), .r [] (.int .i64 pv.1.2.2.2.2)]), (2, .box [.r [] (.int .i64 pv.2.2.1), .r [] (.sl (.int .i64) pv.2.2.2.1), .r [] (.int .i64 pv.2.2.2.2.1), .r [] (.int .i64 pv.2.2.2.2.2.1), .r [] (.int .i64 pv.2.2.2.2.2.2)])], nid := 3, n := 33, gh := [some 0] }
def yzc (nf : NF) : Option ((List Task × Int × Int × Int × Int) × (Int × Int × List Int × Int × Int × Int)) := match nf with
  | ([.r [] (.sl (.st .task) w0), .fn (.func 271) [] [.ptr 0 0 0], .ptr 1 0 0, .ptr 2 0 0, .r [] (.int .i64 w1)], [.box [.fn (.func 252) [] []], .box [.r [] (.int .i64 w2), .nilS, .r [] (.int .i64 w3), .r [] (.int .i64 w4), .r [] (.int .i64 w5)], .box [.r [] (.int .i64 w6), .r [] (.sl (.int .i64) w7), .r [] (.int .i64 w8), .r [] (.int .i64 w9), .r [] (.int .i64 w10)]], [some 0]) => some ((w0, w2, w3, w4, w5), (w1, w6, w7, w8, w9, w10))
  | _ => none
theorem yzd (nf : NF) (v : (List Task × Int × Int × Int × Int) × (Int × Int × List Int × Int × Int × Int)) (h : yzc nf = some v) : denorm yz7 33 nf = yzb v := by
  unfold yzc at h
  split at h
  · cases h; rfl
  · cases h
def yze (p : List Task × Int × Int × Int × Int) (x : Int × List Int × Int × Int × Int) : St := { slots := [(4, .ptr 0 0 0), (5, .ptr 1 0 0)], heap := [(0, .box [.r [] (.int .i64 p.2.1), .nilS, .r [] (.int .i64 p.2.2.1), .r [] (.int .i64 p.2.2.2.1), .r [] (.int .i64 p.2.2.2.2)]), (1, .box [.r [] (.int .i64 x.1), .r [] (.sl (.int .i64) x.2.1), .r [] (.int .i64 x.2.2.1), .r [] (.int .i64 x.2.2.2.1), .r [] (.int .i64 x.2.2.2.2)]), (2, .box [.fn (.func 252) [] []])], nid := 3, n := 33, gh := [some 2] }
def yzf (ρ : Type) (k : Nat) : Nat → Ev ρ → Ev ρ := fun id f => cond (Nat.beq id 0) (loopOrc yz7 yz8 (fun n nf => cond (Nat.beq n 33) (yzc nf) none) fun pv K => iter (fun v next => slices_MinFunc_lI_Task_I_Task_m_g0 k pv.1 v next (fun x => K (.exit 0) (yze pv.1 x))) k pv.2) ((fun _ _ _ _ => none) id f)
theorem yzg {ρ : Type} (k : Nat) (p : List Task × Int × Int × Int × Int) (v : Int × Int × List Int × Int × Int × Int) (K K1 : Ex → St → Option ρ) : ev (yz3 k) (yzf ρ k) 0 yz6 (yzb (p, v)) (fun e st' => match e with
    | .normal => (normC yz7 yz8 st').bind fun nf => K1 .normal (denorm yz7 st'.n nf)
    | e => (normC (yz9 e) (yza e) st').bind fun nf => K e (denorm (yz9 e) st'.n nf)) = slices_MinFunc_lI_Task_I_Task_m_g0 k p v (fun v' => K1 .normal (yzb (p, v'))) (fun x => K (.exit 0) (yze p x)) := by kernel_rfl
theorem yzh {ρ : Type} (k : Nat) : Sound Try.prog (.loop yz6) (yzf ρ k 0 fun st K => ev (yz3 k) (yzf ρ k) 0 yz6 st K) :=
  loop_ok (ev_sound (yz4 k) yz6 0 (lpgood_none (by kernel_rfl))) yz9 yza k (g := fun p v next K => slices_MinFunc_lI_Task_I_Task_m_g0 k p v next (fun x => K (.exit 0) (yze p x))) (dec_at yzd) (fun p v K K1 => yzg k p v K K1)
def yzi (a : List Task) : List SV := [.r [] (.sl (.st .task) a), .fn (.func 271) [] [.ptr 0 0 0]]
def yzj (a : List Task) : List Blk := [.box [.fn (.func 252) [] []]]
def yzk (l : List SV) (b : List Blk) : Option (List Task) := match l, b with
  | [.r [] (.sl (.st .task) w0), .fn (.func 271) [] [.ptr 0 0 0]], [.box [.fn (.func 252) [] []]] => some w0
  | _, _ => none
def yzl (a : List Task) (r : Task) : MOut := ⟨.agg [.r [] (.int .i64 r.id), .r [] (.sl (.int .i64) r.costs), .r [] (.int .i64 r.at_), .r [] (.int .i64 r.due), .r [] (.int .i64 r.born)], [some (.box [.fn (.func 252) [] []])], []⟩
def yzm (a : List Task) (o : MOut) : Option (Task) := match o with
  | ⟨.agg [.r [] (.int .i64 z1), .r [] (.sl (.int .i64) z2), .r [] (.int .i64 z3), .r [] (.int .i64 z4), .r [] (.int .i64 z5)], [some (.box [.fn (.func 252) [] []])], []⟩ => some (⟨z1, z2, z3, z4, z5⟩ : Task)
  | _ => none
def yzn (k : Nat) : MG := fun _ l b K => (yzk l b).bind fun a => (slices_MinFunc_lI_Task_I_Task_m k a).bind fun r => K (yzl a r)
theorem yzo (k : Nat) (a : List Task) : ev (yz3 k) (yzf (Task) k) 0 yz5 (st0M Try.f270 (yzi a) (yzj a)) (finM Try.prog Try.f270 (.agg [.sc, .ro (.int .i64), .sc, .sc, .sc]) [.box [.fn [] []]] (yzm a)) = slices_MinFunc_lI_Task_I_Task_m k a := by kernel_rfl
theorem yzp (k : Nat) : MutOk Try.prog 270 (yzn k) :=
  mutOk_of_ev (yz4 k) Try.func270 (by kernel_rfl) (by kernel_rfl) yzi yzj yzk
    (fun l b a h => by unfold yzk at h; split at h <;> first | (cases h; exact ⟨rfl, rfl⟩) | cases h) (fun a => rfl) (lpgood_of (l := [(0, yz6)]) (by kernel_rfl) ⟨yzh k, trivial⟩) (fun a r => rfl)
    (fun a o r h => by unfold yzm at h; split at h <;> first | (skip; cases h; rfl) | cases h) (yzo k)
def yzq (k : Nat) : Orc := mutOrc [.one (.sl (.st .task)), .keep] (yzn k)
theorem yzr (k : Nat) : OrcOk Try.prog 270 (yzq k) := mutOrc_ok (yzp k)
noncomputable def yzs (k : Nat) : Env := { P := Try.prog, tt := tt, orc := fun g => cond (Nat.beq g 228) (ywv k) (cond (Nat.beq g 268) (yuo k) (cond (Nat.beq g 270) (yzq k) (noOrc))), wr := fun g => mem g [228, 270], wt := true }
theorem yzt (k : Nat) : EnvOk (yzs k) := fun g => (orc_cond (yww k) (orc_cond (yup k) (orc_cond (yzr k) (noOrc_ok _ _))))
noncomputable def yzu : Code := (Try.f251.body).getD .skip
def yzv (ρ : Type) (k : Nat) : Nat → Ev ρ → Ev ρ := fun _ _ _ _ => none
def yzw (a : Sched × Sched) : List SV := [.agg [.r [] (.int .i64 a.1.now), .r [] (.int .i64 a.1.slack), .r [] (.int .i64 a.1.age), .r [] (.sl (.st .task) a.1.tasks), .r [] (.int .i64 a.1.run), .r [] (.int .i64 a.1.left), .r [] (.int .i64 a.1.turns), .r [] (.int .i64 a.1.next)], .fn (.func 120) [.agg [.r [] (.int .i64 a.2.now), .r [] (.int .i64 a.2.slack), .r [] (.int .i64 a.2.age), .r [] (.sl (.st .task) a.2.tasks), .r [] (.int .i64 a.2.run), .r [] (.int .i64 a.2.left), .r [] (.int .i64 a.2.turns), .r [] (.int .i64 a.2.next)]] [], .fn (.func 252) [] []]
def yzx (a : Sched × Sched) : List Blk := []
def yzy (l : List SV) (b : List Blk) : Option (Sched × Sched) := match l, b with
  | [.agg [.r [] (.int .i64 w0), .r [] (.int .i64 w1), .r [] (.int .i64 w2), .r [] (.sl (.st .task) w3), .r [] (.int .i64 w4), .r [] (.int .i64 w5), .r [] (.int .i64 w6), .r [] (.int .i64 w7)], .fn (.func 120) [.agg [.r [] (.int .i64 w8), .r [] (.int .i64 w9), .r [] (.int .i64 w10), .r [] (.sl (.st .task) w11), .r [] (.int .i64 w12), .r [] (.int .i64 w13), .r [] (.int .i64 w14), .r [] (.int .i64 w15)]] [], .fn (.func 252) [] []], [] => some ((⟨w0, w1, w2, w3, w4, w5, w6, w7⟩ : Sched), (⟨w8, w9, w10, w11, w12, w13, w14, w15⟩ : Sched))
  | _, _ => none
def yzz (a : Sched × Sched) (r : Int) : MOut := ⟨.r [] (.int .i64 r), [], []⟩
def y101 (a : Sched × Sched) (o : MOut) : Option (Int) := match o with
  | ⟨.r [] (.int .i64 z1), [], []⟩ => some z1
  | _ => none
def y102 (k : Nat) : MG := fun _ l b K => (yzy l b).bind fun a => (I_Sched_first_m k a.1 a.2).bind fun r => K (yzz a r)
theorem y103 (k : Nat) (a : Sched × Sched) : ev (yzs k) (yzv (Int) k) 0 yzu (st0M Try.f251 (yzw a) (yzx a)) (finM Try.prog Try.f251 (.sc) [] (y101 a)) = I_Sched_first_m k a.1 a.2 := by kernel_rfl
theorem y104 (k : Nat) : MutOk Try.prog 251 (y102 k) :=
  mutOk_of_ev (yzt k) Try.func251 (by kernel_rfl) (by kernel_rfl) yzw yzx yzy
    (fun l b a h => by unfold yzy at h; split at h <;> first | (cases h; exact ⟨rfl, rfl⟩) | cases h) (fun a => rfl) (lpgood_none (by kernel_rfl)) (fun a r => rfl)
    (fun a o r h => by unfold y101 at h; split at h <;> first | (skip; cases h; rfl) | cases h) (y103 k)
def y105 (k : Nat) : Orc := mutOrc [.agg [(.int .i64), (.int .i64), (.int .i64), (.sl (.st .task)), (.int .i64), (.int .i64), (.int .i64), (.int .i64)], .keep, .keep] (y102 k)
theorem y106 (k : Nat) : OrcOk Try.prog 251 (y105 k) := mutOrc_ok (y104 k)
noncomputable def y107 (k : Nat) : Env := { P := Try.prog, tt := tt, orc := fun g => cond (Nat.beq g 120) (ymz k) (noOrc) }
theorem y108 (k : Nat) : EnvOk (y107 k) := fun g => (orc_cond (yn0 k) (noOrc_ok _ _))
noncomputable def y109 : Code := (Try.f253.body).getD .skip
def y10a (ρ : Type) (k : Nat) : Nat → Ev ρ → Ev ρ := fun _ _ _ _ => none
def y10b (a : Task × Sched) : List SV := [.agg [.r [] (.int .i64 a.1.id), .r [] (.sl (.int .i64) a.1.costs), .r [] (.int .i64 a.1.at_), .r [] (.int .i64 a.1.due), .r [] (.int .i64 a.1.born)], .ptr 0 0 0]
def y10c (a : Task × Sched) : List Blk := [.box [.r [] (.int .i64 a.2.now), .r [] (.int .i64 a.2.slack), .r [] (.int .i64 a.2.age), .r [] (.sl (.st .task) a.2.tasks), .r [] (.int .i64 a.2.run), .r [] (.int .i64 a.2.left), .r [] (.int .i64 a.2.turns), .r [] (.int .i64 a.2.next)]]
def y10d (l : List SV) (b : List Blk) : Option (Task × Sched) := match l, b with
  | [.agg [.r [] (.int .i64 w0), .r [] (.sl (.int .i64) w1), .r [] (.int .i64 w2), .r [] (.int .i64 w3), .r [] (.int .i64 w4)], .ptr 0 0 0], [.box [.r [] (.int .i64 w5), .r [] (.int .i64 w6), .r [] (.int .i64 w7), .r [] (.sl (.st .task) w8), .r [] (.int .i64 w9), .r [] (.int .i64 w10), .r [] (.int .i64 w11), .r [] (.int .i64 w12)]] => some ((⟨w0, w1, w2, w3, w4⟩ : Task), (⟨w5, w6, w7, w8, w9, w10, w11, w12⟩ : Sched))
  | _, _ => none
def y10e (a : Task × Sched) (r : Bool) : MOut := ⟨.r [] (.bool r), [some (.box [.r [] (.int .i64 a.2.now), .r [] (.int .i64 a.2.slack), .r [] (.int .i64 a.2.age), .r [] (.sl (.st .task) a.2.tasks), .r [] (.int .i64 a.2.run), .r [] (.int .i64 a.2.left), .r [] (.int .i64 a.2.turns), .r [] (.int .i64 a.2.next)])], []⟩
def y10f (a : Task × Sched) (o : MOut) : Option (Bool) := match o with
  | ⟨.r [] (.bool z1), [some (.box [.r [] (.int .i64 z2), .r [] (.int .i64 z3), .r [] (.int .i64 z4), .r [] (.sl (.st .task) z5), .r [] (.int .i64 z6), .r [] (.int .i64 z7), .r [] (.int .i64 z8), .r [] (.int .i64 z9)])], []⟩ => cond (@sameL Int _ z2 a.2.now) (cond (@sameL Int _ z3 a.2.slack) (cond (@sameL Int _ z4 a.2.age) (cond (@sameL (List Task) _ z5 a.2.tasks) (cond (@sameL Int _ z6 a.2.run) (cond (@sameL Int _ z7 a.2.left) (cond (@sameL Int _ z8 a.2.turns) (cond (@sameL Int _ z9 a.2.next) (some z1) none) none) none) none) none) none) none) none
  | _ => none
def y10g (k : Nat) : MG := fun _ l b K => (y10d l b).bind fun a => (I_Sched_pick_c2_m k a.1 a.2).bind fun r => K (y10e a r)
theorem y10h (k : Nat) (a : Task × Sched) : ev (y107 k) (y10a (Bool) k) 0 y109 (st0M Try.f253 (y10b a) (y10c a)) (finM Try.prog Try.f253 (.sc) [.box [.sc, .sc, .sc, .ro (.st .task), .sc, .sc, .sc, .sc]] (y10f a)) = I_Sched_pick_c2_m k a.1 a.2 := by kernel_rfl
theorem y10i (k : Nat) : MutOk Try.prog 253 (y10g k) :=
  mutOk_of_ev (y108 k) Try.func253 (by kernel_rfl) (by kernel_rfl) y10b y10c y10d
    (fun l b a h => by unfold y10d at h; split at h <;> first | (cases h; exact ⟨rfl, rfl⟩) | cases h) (fun a => rfl) (lpgood_none (by kernel_rfl)) (fun a r => rfl)
    (fun a o r h => by unfold y10f at h; split at h <;> first | (obtain ⟨e0, e1, e2, e3, e4, e5, e6, e7, hq⟩ := dec_chk8 h; clear h; subst e0; subst e1; subst e2; subst e3; subst e4; subst e5; subst e6; subst e7; have h := hq; clear hq; cases h; rfl) | cases h) (y10h k)
def y10j (k : Nat) : Orc := mutOrc [.agg [(.int .i64), (.sl (.int .i64)), (.int .i64), (.int .i64), (.int .i64)], .keep] (y10g k)
theorem y10k (k : Nat) : OrcOk Try.prog 253 (y10j k) := mutOrc_ok (y10i k)
noncomputable def y10l (k : Nat) : Env := { P := Try.prog, tt := tt, orc := fun g => cond (Nat.beq g 253) (y10j k) (noOrc), wr := fun g => mem g [253], wt := true }
theorem y10m (k : Nat) : EnvOk (y10l k) := fun g => (orc_cond (y10k k) (noOrc_ok _ _))
noncomputable def y10n : Code := (Try.f269.body).getD .skip
def y10o (ρ : Type) (k : Nat) : Nat → Ev ρ → Ev ρ := fun _ _ _ _ => none
def y10p (a : Task × Sched) : List SV := [.agg [.r [] (.int .i64 a.1.id), .r [] (.sl (.int .i64) a.1.costs), .r [] (.int .i64 a.1.at_), .r [] (.int .i64 a.1.due), .r [] (.int .i64 a.1.born)], .ptr 0 0 0]
def y10q (a : Task × Sched) : List Blk := [.box [.fn (.func 253) [] [.ptr 1 0 0]], .box [.r [] (.int .i64 a.2.now), .r [] (.int .i64 a.2.slack), .r [] (.int .i64 a.2.age), .r [] (.sl (.st .task) a.2.tasks), .r [] (.int .i64 a.2.run), .r [] (.int .i64 a.2.left), .r [] (.int .i64 a.2.turns), .r [] (.int .i64 a.2.next)]]
def y10r (l : List SV) (b : List Blk) : Option (Task × Sched) := match l, b with
  | [.agg [.r [] (.int .i64 w0), .r [] (.sl (.int .i64) w1), .r [] (.int .i64 w2), .r [] (.int .i64 w3), .r [] (.int .i64 w4)], .ptr 0 0 0], [.box [.fn (.func 253) [] [.ptr 1 0 0]], .box [.r [] (.int .i64 w5), .r [] (.int .i64 w6), .r [] (.int .i64 w7), .r [] (.sl (.st .task) w8), .r [] (.int .i64 w9), .r [] (.int .i64 w10), .r [] (.int .i64 w11), .r [] (.int .i64 w12)]] => some ((⟨w0, w1, w2, w3, w4⟩ : Task), (⟨w5, w6, w7, w8, w9, w10, w11, w12⟩ : Sched))
  | _, _ => none
def y10s (a : Task × Sched) (r : Bool) : MOut := ⟨.r [] (.bool r), [some (.box [.fn (.func 253) [] [.ptr 1 0 0]]), some (.box [.r [] (.int .i64 a.2.now), .r [] (.int .i64 a.2.slack), .r [] (.int .i64 a.2.age), .r [] (.sl (.st .task) a.2.tasks), .r [] (.int .i64 a.2.run), .r [] (.int .i64 a.2.left), .r [] (.int .i64 a.2.turns), .r [] (.int .i64 a.2.next)])], []⟩
def y10t (a : Task × Sched) (o : MOut) : Option (Bool) := match o with
  | ⟨.r [] (.bool z1), [some (.box [.fn (.func 253) [] [.ptr 1 0 0]]), some (.box [.r [] (.int .i64 z2), .r [] (.int .i64 z3), .r [] (.int .i64 z4), .r [] (.sl (.st .task) z5), .r [] (.int .i64 z6), .r [] (.int .i64 z7), .r [] (.int .i64 z8), .r [] (.int .i64 z9)])], []⟩ => cond (@sameL Int _ z2 a.2.now) (cond (@sameL Int _ z3 a.2.slack) (cond (@sameL Int _ z4 a.2.age) (cond (@sameL (List Task) _ z5 a.2.tasks) (cond (@sameL Int _ z6 a.2.run) (cond (@sameL Int _ z7 a.2.left) (cond (@sameL Int _ z8 a.2.turns) (cond (@sameL Int _ z9 a.2.next) (some z1) none) none) none) none) none) none) none) none
  | _ => none
def y10u (k : Nat) : MG := fun _ l b K => (y10r l b).bind fun a => (I_Sched_first_c1_m3 k a.1 a.2).bind fun r => K (y10s a r)
theorem y10v (k : Nat) (a : Task × Sched) : ev (y10l k) (y10o (Bool) k) 0 y10n (st0M Try.f269 (y10p a) (y10q a)) (finM Try.prog Try.f269 (.sc) [.box [.fn [] [.ptr]], .box [.sc, .sc, .sc, .ro (.st .task), .sc, .sc, .sc, .sc]] (y10t a)) = I_Sched_first_c1_m3 k a.1 a.2 := by kernel_rfl
theorem y10w (k : Nat) : MutOk Try.prog 269 (y10u k) :=
  mutOk_of_ev (y10m k) Try.func269 (by kernel_rfl) (by kernel_rfl) y10p y10q y10r
    (fun l b a h => by unfold y10r at h; split at h <;> first | (cases h; exact ⟨rfl, rfl⟩) | cases h) (fun a => rfl) (lpgood_none (by kernel_rfl)) (fun a r => rfl)
    (fun a o r h => by unfold y10t at h; split at h <;> first | (obtain ⟨e0, e1, e2, e3, e4, e5, e6, e7, hq⟩ := dec_chk8 h; clear h; subst e0; subst e1; subst e2; subst e3; subst e4; subst e5; subst e6; subst e7; have h := hq; clear hq; cases h; rfl) | cases h) (y10v k)
def y10x (k : Nat) : Orc := mutOrc [.agg [(.int .i64), (.sl (.int .i64)), (.int .i64), (.int .i64), (.int .i64)], .keep] (y10u k)
theorem y10y (k : Nat) : OrcOk Try.prog 269 (y10x k) := mutOrc_ok (y10w k)
noncomputable def y10z (k : Nat) : Env := { P := Try.prog, tt := tt, orc := fun g => cond (Nat.beq g 253) (y10j k) (noOrc), wr := fun g => mem g [253], wt := true }
theorem y110 (k : Nat) : EnvOk (y10z k) := fun g => (orc_cond (y10k k) (noOrc_ok _ _))
noncomputable def y111 : Code := (Try.f269.body).getD .skip
def y112 (ρ : Type) (k : Nat) : Nat → Ev ρ → Ev ρ := fun _ _ _ _ => none
def y113 (a : Task × Sched) : List SV := [.agg [.r [] (.int .i64 a.1.id), .r [] (.sl (.int .i64) a.1.costs), .r [] (.int .i64 a.1.at_), .r [] (.int .i64 a.1.due), .r [] (.int .i64 a.1.born)], .ptr 0 0 0]
def y114 (a : Task × Sched) : List Blk := [.box [.fn (.func 253) [] [.ptr 1 0 0]], .box [.r [] (.int .i64 a.2.now), .r [] (.int .i64 a.2.slack), .r [] (.int .i64 a.2.age), .r [] (.sl (.st .task) a.2.tasks), .r [] (.int .i64 a.2.run), .r [] (.int .i64 a.2.left), .r [] (.int .i64 a.2.turns), .r [] (.int .i64 a.2.next)]]
def y115 (l : List SV) (b : List Blk) : Option (Task × Sched) := match l, b with
  | [.agg [.r [] (.int .i64 w0), .r [] (.sl (.int .i64) w1), .r [] (.int .i64 w2), .r [] (.int .i64 w3), .r [] (.int .i64 w4)], .ptr 0 0 0], [.box [.fn (.func 253) [] [.ptr 1 0 0]], .box [.r [] (.int .i64 w5), .r [] (.int .i64 w6), .r [] (.int .i64 w7), .r [] (.sl (.st .task) w8), .r [] (.int .i64 w9), .r [] (.int .i64 w10), .r [] (.int .i64 w11), .r [] (.int .i64 w12)]] => some ((⟨w0, w1, w2, w3, w4⟩ : Task), (⟨w5, w6, w7, w8, w9, w10, w11, w12⟩ : Sched))
  | _, _ => none
def y116 (a : Task × Sched) (r : Bool) : MOut := ⟨.r [] (.bool r), [some (.box [.fn (.func 253) [] [.ptr 1 0 0]]), some (.box [.r [] (.int .i64 a.2.now), .r [] (.int .i64 a.2.slack), .r [] (.int .i64 a.2.age), .r [] (.sl (.st .task) a.2.tasks), .r [] (.int .i64 a.2.run), .r [] (.int .i64 a.2.left), .r [] (.int .i64 a.2.turns), .r [] (.int .i64 a.2.next)])], []⟩
def y117 (a : Task × Sched) (o : MOut) : Option (Bool) := match o with
  | ⟨.r [] (.bool z1), [some (.box [.fn (.func 253) [] [.ptr 1 0 0]]), some (.box [.r [] (.int .i64 z2), .r [] (.int .i64 z3), .r [] (.int .i64 z4), .r [] (.sl (.st .task) z5), .r [] (.int .i64 z6), .r [] (.int .i64 z7), .r [] (.int .i64 z8), .r [] (.int .i64 z9)])], []⟩ => cond (@sameL Int _ z2 a.2.now) (cond (@sameL Int _ z3 a.2.slack) (cond (@sameL Int _ z4 a.2.age) (cond (@sameL (List Task) _ z5 a.2.tasks) (cond (@sameL Int _ z6 a.2.run) (cond (@sameL Int _ z7 a.2.left) (cond (@sameL Int _ z8 a.2.turns) (cond (@sameL Int _ z9 a.2.next) (some z1) none) none) none) none) none) none) none) none
  | _ => none
def y118 (k : Nat) : MG := fun _ l b K => (y115 l b).bind fun a => (I_Sched_first_c1_m4 k a.1 a.2).bind fun r => K (y116 a r)
theorem y119 (k : Nat) (a : Task × Sched) : ev (y10z k) (y112 (Bool) k) 0 y111 (st0M Try.f269 (y113 a) (y114 a)) (finM Try.prog Try.f269 (.sc) [.box [.fn [] [.ptr]], .box [.sc, .sc, .sc, .ro (.st .task), .sc, .sc, .sc, .sc]] (y117 a)) = I_Sched_first_c1_m4 k a.1 a.2 := by kernel_rfl
theorem y11a (k : Nat) : MutOk Try.prog 269 (y118 k) :=
  mutOk_of_ev (y110 k) Try.func269 (by kernel_rfl) (by kernel_rfl) y113 y114 y115
    (fun l b a h => by unfold y115 at h; split at h <;> first | (cases h; exact ⟨rfl, rfl⟩) | cases h) (fun a => rfl) (lpgood_none (by kernel_rfl)) (fun a r => rfl)
    (fun a o r h => by unfold y117 at h; split at h <;> first | (obtain ⟨e0, e1, e2, e3, e4, e5, e6, e7, hq⟩ := dec_chk8 h; clear h; subst e0; subst e1; subst e2; subst e3; subst e4; subst e5; subst e6; subst e7; have h := hq; clear hq; cases h; rfl) | cases h) (y119 k)
def y11b (k : Nat) : Orc := mutOrc [.keep, .keep] (y118 k)
theorem y11c (k : Nat) : OrcOk Try.prog 269 (y11b k) := mutOrc_ok (y11a k)
noncomputable def y11d (k : Nat) : Env := { P := Try.prog, tt := tt, orc := fun g => cond (Nat.beq g 269) (y10x k) (noOrc), wr := fun g => mem g [269], wt := true }
theorem y11e (k : Nat) : EnvOk (y11d k) := fun g => (orc_cond (y10y k) (noOrc_ok _ _))
noncomputable def y11f : Code := (Try.f192.body).getD .skip
noncomputable def y11g : Code := ((loopsIn 0 y11f).getD 0 (0, .skip)).2
def y11h : List Nat := [0, 1, 7, 8]
def y11i : List (Where × Co) := []
def y11j : Ex → List Nat
  | .exit j => cond (Nat.beq j 0) [] []
  | .ret => [4]
  | .normal => []
def y11k : Ex → List (Where × Co)
  | .exit j => cond (Nat.beq j 0) [] []
  | .ret => []
  | .normal => []
def y11l (pv : (Int × List Task × Int × Int × Int × List Task × Int × Int × Int × Int) × (Int)) : St := { slots := [(0, .own 0), (1, .fn (.func 269) [] [.ptr 1 0 0]), (7, .r [] (.int .i64 pv.1.1)), (8, .r [] (.int .i64 pv.2))], heap := [(0, .arr (some []) (.st .task) pv.1.2.1), (1, .box [.fn (.func 253) [] [.ptr 2 0 0]]), (2, .box [.r [] (.int .i64 pv.1.2.2.1), .r [] (.int .i64 pv.1.2.2.2.1), .r [] (.int .i64 pv.1.2.2.2.2.1), .r [] (.sl (.st .task) pv.1.2.2.2.2.2.1), .r [] (.int .i64 pv.1.2.2.2.2.2.2.1), .r [] (.int .i64 pv.1.2.2.2.2.2.2.2.1), .r [] (.int .i64 pv.1.2.2.2.2.2.2.2.2.1), .r [] (.int .i64 pv.1.2.2.2.2.2.2.2.2.2)])], nid := 3, n := 19, gh := [some 0, some 1, some 2] }
def y11m (nf : NF) : Option ((Int × List Task × Int × Int × Int × List Task × Int × Int × Int × Int) × (Int)) := match nf with
  | ([.own 0, .fn (.func 269) [] [.ptr 1 0 0], .r [] (.int .i64 w0), .r [] (.int .i64 w1)], [.arr (some []) (.st .task) w2, .box [.fn (.func 253) [] [.ptr 2 0 0]], .box [.r [] (.int .i64 w3), .r [] (.int .i64 w4), .r [] (.int .i64 w5), .r [] (.sl (.st .task) w6), .r [] (.int .i64 w7), .r [] (.int .i64 w8), .r [] (.int .i64 w9), .r [] (.int .i64 w10)]], [some 0, some 1, some 2]) => some ((w0, w2, w3, w4, w5, w6, w7, w8, w9, w10), w1)
  | _ => none
theorem y11n (nf : NF) (v : (Int × List Task × Int × Int × Int × List Task × Int × Int × Int × Int) × (Int)) (h : y11m nf = some v) : denorm y11h 19 nf = y11l v := by
  unfold y11m at h
  split at h
  · cases h; rfl
  · cases h
def y11o (p : Int × List Task × Int × Int × Int × List Task × Int × Int × Int × Int) (x : Unit) : St := { slots := [], heap := [(0, .arr (some []) (.st .task) p.2.1), (1, .box [.fn (.func 253) [] [.ptr 2 0 0]]), (2, .box [.r [] (.int .i64 p.2.2.1), .r [] (.int .i64 p.2.2.2.1), .r [] (.int .i64 p.2.2.2.2.1), .r [] (.sl (.st .task) p.2.2.2.2.2.1), .r [] (.int .i64 p.2.2.2.2.2.2.1), .r [] (.int .i64 p.2.2.2.2.2.2.2.1), .r [] (.int .i64 p.2.2.2.2.2.2.2.2.1), .r [] (.int .i64 p.2.2.2.2.2.2.2.2.2)])], nid := 3, n := 19, gh := [some 0, some 1, some 2] }
def y11p (p : Int × List Task × Int × Int × Int × List Task × Int × Int × Int × Int) (x : Int) : St := { slots := [(4, .r [] (.int .i64 x))], heap := [(0, .arr (some []) (.st .task) p.2.1), (1, .box [.fn (.func 253) [] [.ptr 2 0 0]]), (2, .box [.r [] (.int .i64 p.2.2.1), .r [] (.int .i64 p.2.2.2.1), .r [] (.int .i64 p.2.2.2.2.1), .r [] (.sl (.st .task) p.2.2.2.2.2.1), .r [] (.int .i64 p.2.2.2.2.2.2.1), .r [] (.int .i64 p.2.2.2.2.2.2.2.1), .r [] (.int .i64 p.2.2.2.2.2.2.2.2.1), .r [] (.int .i64 p.2.2.2.2.2.2.2.2.2)])], nid := 3, n := 19, gh := [some 0, some 1, some 2] }
def y11q (ρ : Type) (k : Nat) : Nat → Ev ρ → Ev ρ := fun id f => cond (Nat.beq id 0) (loopOrc y11h y11i (fun n nf => cond (Nat.beq n 19) (y11m nf) none) fun pv K => iter (fun v next => slices_IndexFunc_lI_Task_I_Task_m9_g0 k pv.1 v next (fun x => K (.exit 0) (y11o pv.1 x)) (fun x => K .ret (y11p pv.1 x))) k pv.2) ((fun _ _ _ _ => none) id f)
theorem y11r {ρ : Type} (k : Nat) (p : Int × List Task × Int × Int × Int × List Task × Int × Int × Int × Int) (v : Int) (K K1 : Ex → St → Option ρ) : ev (y11d k) (y11q ρ k) 0 y11g (y11l (p, v)) (fun e st' => match e with
    | .normal => (normC y11h y11i st').bind fun nf => K1 .normal (denorm y11h st'.n nf)
    | e => (normC (y11j e) (y11k e) st').bind fun nf => K e (denorm (y11j e) st'.n nf)) = slices_IndexFunc_lI_Task_I_Task_m9_g0 k p v (fun v' => K1 .normal (y11l (p, v'))) (fun x => K (.exit 0) (y11o p x)) (fun x => K .ret (y11p p x)) := by kernel_rfl
theorem y11s {ρ : Type} (k : Nat) : Sound Try.prog (.loop y11g) (y11q ρ k 0 fun st K => ev (y11d k) (y11q ρ k) 0 y11g st K) :=
  loop_ok (ev_sound (y11e k) y11g 0 (lpgood_none (by kernel_rfl))) y11j y11k k (g := fun p v next K => slices_IndexFunc_lI_Task_I_Task_m9_g0 k p v next (fun x => K (.exit 0) (y11o p x)) (fun x => K .ret (y11p p x))) (dec_at y11n) (fun p v K K1 => y11r k p v K K1)
def y11t (a : List Task × Sched) : List SV := [.own 0, .fn (.func 269) [] [.ptr 1 0 0]]
def y11u (a : List Task × Sched) : List Blk := [.arr (some []) (.st .task) a.1, .box [.fn (.func 253) [] [.ptr 2 0 0]], .box [.r [] (.int .i64 a.2.now), .r [] (.int .i64 a.2.slack), .r [] (.int .i64 a.2.age), .r [] (.sl (.st .task) a.2.tasks), .r [] (.int .i64 a.2.run), .r [] (.int .i64 a.2.left), .r [] (.int .i64 a.2.turns), .r [] (.int .i64 a.2.next)]]
def y11v (l : List SV) (b : List Blk) : Option (List Task × Sched) := match l, b with
  | [.own 0, .fn (.func 269) [] [.ptr 1 0 0]], [.arr (some []) (.st .task) w0, .box [.fn (.func 253) [] [.ptr 2 0 0]], .box [.r [] (.int .i64 w1), .r [] (.int .i64 w2), .r [] (.int .i64 w3), .r [] (.sl (.st .task) w4), .r [] (.int .i64 w5), .r [] (.int .i64 w6), .r [] (.int .i64 w7), .r [] (.int .i64 w8)]] => some (w0, (⟨w1, w2, w3, w4, w5, w6, w7, w8⟩ : Sched))
  | _, _ => none
def y11w (a : List Task × Sched) (r : Int) : MOut := ⟨.r [] (.int .i64 r), [some (.arr (some []) (.st .task) a.1), some (.box [.fn (.func 253) [] [.ptr 2 0 0]]), some (.box [.r [] (.int .i64 a.2.now), .r [] (.int .i64 a.2.slack), .r [] (.int .i64 a.2.age), .r [] (.sl (.st .task) a.2.tasks), .r [] (.int .i64 a.2.run), .r [] (.int .i64 a.2.left), .r [] (.int .i64 a.2.turns), .r [] (.int .i64 a.2.next)])], []⟩
def y11x (a : List Task × Sched) (o : MOut) : Option (Int) := match o with
  | ⟨.r [] (.int .i64 z1), [some (.arr (some []) (.st .task) z2), some (.box [.fn (.func 253) [] [.ptr 2 0 0]]), some (.box [.r [] (.int .i64 z3), .r [] (.int .i64 z4), .r [] (.int .i64 z5), .r [] (.sl (.st .task) z6), .r [] (.int .i64 z7), .r [] (.int .i64 z8), .r [] (.int .i64 z9), .r [] (.int .i64 z10)])], []⟩ => cond (@sameL (List Task) _ z2 a.1) (cond (@sameL Int _ z3 a.2.now) (cond (@sameL Int _ z4 a.2.slack) (cond (@sameL Int _ z5 a.2.age) (cond (@sameL (List Task) _ z6 a.2.tasks) (cond (@sameL Int _ z7 a.2.run) (cond (@sameL Int _ z8 a.2.left) (cond (@sameL Int _ z9 a.2.turns) (cond (@sameL Int _ z10 a.2.next) (some z1) none) none) none) none) none) none) none) none) none
  | _ => none
def y11y (k : Nat) : MG := fun _ l b K => (y11v l b).bind fun a => (slices_IndexFunc_lI_Task_I_Task_m9 k a.1 a.2).bind fun r => K (y11w a r)
theorem y11z (k : Nat) (a : List Task × Sched) : ev (y11d k) (y11q (Int) k) 0 y11f (st0M Try.f192 (y11t a) (y11u a)) (finM Try.prog Try.f192 (.sc) [.arr, .box [.fn [] [.ptr]], .box [.sc, .sc, .sc, .ro (.st .task), .sc, .sc, .sc, .sc]] (y11x a)) = slices_IndexFunc_lI_Task_I_Task_m9 k a.1 a.2 := by kernel_rfl
theorem y120 (k : Nat) : MutOk Try.prog 192 (y11y k) :=
  mutOk_of_ev (y11e k) Try.func192 (by kernel_rfl) (by kernel_rfl) y11t y11u y11v
    (fun l b a h => by unfold y11v at h; split at h <;> first | (cases h; exact ⟨rfl, rfl⟩) | cases h) (fun a => rfl) (lpgood_of (l := [(0, y11g)]) (by kernel_rfl) ⟨y11s k, trivial⟩) (fun a r => rfl)
    (fun a o r h => by unfold y11x at h; split at h <;> first | (obtain ⟨e0, e1, e2, e3, e4, e5, e6, e7, e8, hq⟩ := dec_chk9 h; clear h; subst e0; subst e1; subst e2; subst e3; subst e4; subst e5; subst e6; subst e7; subst e8; have h := hq; clear hq; cases h; rfl) | cases h) (y11z k)
def y121 (k : Nat) : Orc := mutOrc [.keep, .keep] (y11y k)
theorem y122 (k : Nat) : OrcOk Try.prog 192 (y121 k) := mutOrc_ok (y120 k)
noncomputable def y123 (k : Nat) : Env := { P := Try.prog, tt := tt, orc := fun g => cond (Nat.beq g 192) (y121 k) (cond (Nat.beq g 269) (y11b k) (noOrc)), wr := fun g => mem g [192, 269], wt := true }
theorem y124 (k : Nat) : EnvOk (y123 k) := fun g => (orc_cond (y122 k) (orc_cond (y11c k) (noOrc_ok _ _)))
noncomputable def y125 : Code := (Try.f228.body).getD .skip
noncomputable def y126 : Code := ((loopsIn 0 y125).getD 0 (0, .skip)).2
def y127 : List Nat := [0, 1, 5, 6]
def y128 : List (Where × Co) := []
def y129 : Ex → List Nat
  | .exit j => cond (Nat.beq j 0) [0, 5] []
  | .ret => []
  | .normal => []
def y12a : Ex → List (Where × Co)
  | .exit j => cond (Nat.beq j 0) [] []
  | .ret => []
  | .normal => []
def y12b (pv : (Int × Int × Int × List Task × Int × Int × Int × Int) × (Int × Int × List Task)) : St := { slots := [(0, .own 0), (1, .fn (.func 269) [] [.ptr 1 0 0]), (5, .r [] (.int .i64 pv.2.1)), (6, .r [] (.int .i64 pv.2.2.1))], heap := [(0, .arr (some []) (.st .task) pv.2.2.2), (1, .box [.fn (.func 253) [] [.ptr 2 0 0]]), (2, .box [.r [] (.int .i64 pv.1.1), .r [] (.int .i64 pv.1.2.1), .r [] (.int .i64 pv.1.2.2.1), .r [] (.sl (.st .task) pv.1.2.2.2.1), .r [] (.int .i64 pv.1.2.2.2.2.1), .r [] (.int .i64 pv.1.2.2.2.2.2.1), .r [] (.int .i64 pv.1.2.2.2.2.2.2.1), .r [] (.int .i64 pv.1.2.2.2.2.2.2.2)])], nid := 3, n := 42, gh := [some 0, some 1, some 2] }
def y12c (nf : NF) : Option ((Int × Int × Int × List Task × Int × Int × Int × Int) × (Int × Int × List Task)) := match nf with
  | ([.own 0, .fn (.func 269) [] [.ptr 1 0 0], .r [] (.int .i64 w0), .r [] (.int .i64 w1)], [.arr (some []) (.st .task) w2, .box [.fn (.func 253) [] [.ptr 2 0 0]], .box [.r [] (.int .i64 w3), .r [] (.int .i64 w4), .r [] (.int .i64 w5), .r [] (.sl (.st .task) w6), .r [] (.int .i64 w7), .r [] (.int .i64 w8), .r [] (.int .i64 w9), .r [] (.int .i64 w10)]], [some 0, some 1, some 2]) => some ((w3, w4, w5, w6, w7, w8, w9, w10), (w0, w1, w2))
  | _ => none
theorem y12d (nf : NF) (v : (Int × Int × Int × List Task × Int × Int × Int × Int) × (Int × Int × List Task)) (h : y12c nf = some v) : denorm y127 42 nf = y12b v := by
  unfold y12c at h
  split at h
  · cases h; rfl
  · cases h
def y12e (p : Int × Int × Int × List Task × Int × Int × Int × Int) (x : Int × List Task) : St := { slots := [(0, .own 0), (5, .r [] (.int .i64 x.1))], heap := [(0, .arr (some []) (.st .task) x.2), (1, .box [.fn (.func 253) [] [.ptr 2 0 0]]), (2, .box [.r [] (.int .i64 p.1), .r [] (.int .i64 p.2.1), .r [] (.int .i64 p.2.2.1), .r [] (.sl (.st .task) p.2.2.2.1), .r [] (.int .i64 p.2.2.2.2.1), .r [] (.int .i64 p.2.2.2.2.2.1), .r [] (.int .i64 p.2.2.2.2.2.2.1), .r [] (.int .i64 p.2.2.2.2.2.2.2)])], nid := 3, n := 42, gh := [some 0, some 1, some 2] }
def y12f (ρ : Type) (k : Nat) : Nat → Ev ρ → Ev ρ := fun id f => cond (Nat.beq id 0) (loopOrc y127 y128 (fun n nf => cond (Nat.beq n 42) (y12c nf) none) fun pv K => iter (fun v next => slices_DeleteFunc_lI_Task_I_Task_m8_g0 k pv.1 v next (fun x => K (.exit 0) (y12e pv.1 x))) k pv.2) ((fun _ _ _ _ => none) id f)
theorem y12g {ρ : Type} (k : Nat) (p : Int × Int × Int × List Task × Int × Int × Int × Int) (v : Int × Int × List Task) (K K1 : Ex → St → Option ρ) : ev (y123 k) (y12f ρ k) 0 y126 (y12b (p, v)) (fun e st' => match e with
    | .normal => (normC y127 y128 st').bind fun nf => K1 .normal (denorm y127 st'.n nf)
    | e => (normC (y129 e) (y12a e) st').bind fun nf => K e (denorm (y129 e) st'.n nf)) = slices_DeleteFunc_lI_Task_I_Task_m8_g0 k p v (fun v' => K1 .normal (y12b (p, v'))) (fun x => K (.exit 0) (y12e p x)) := by kernel_rfl
theorem y12h {ρ : Type} (k : Nat) : Sound Try.prog (.loop y126) (y12f ρ k 0 fun st K => ev (y123 k) (y12f ρ k) 0 y126 st K) :=
  loop_ok (ev_sound (y124 k) y126 0 (lpgood_none (by kernel_rfl))) y129 y12a k (g := fun p v next K => slices_DeleteFunc_lI_Task_I_Task_m8_g0 k p v next (fun x => K (.exit 0) (y12e p x))) (dec_at y12d) (fun p v K K1 => y12g k p v K K1)
def y12i (a : List Task × Sched) : List SV := [.own 0, .fn (.func 269) [] [.ptr 1 0 0]]
def y12j (a : List Task × Sched) : List Blk := [.arr (some []) (.st .task) a.1, .box [.fn (.func 253) [] [.ptr 2 0 0]], .box [.r [] (.int .i64 a.2.now), .r [] (.int .i64 a.2.slack), .r [] (.int .i64 a.2.age), .r [] (.sl (.st .task) a.2.tasks), .r [] (.int .i64 a.2.run), .r [] (.int .i64 a.2.left), .r [] (.int .i64 a.2.turns), .r [] (.int .i64 a.2.next)]]
def y12k (l : List SV) (b : List Blk) : Option (List Task × Sched) := match l, b with
  | [.own 0, .fn (.func 269) [] [.ptr 1 0 0]], [.arr (some []) (.st .task) w0, .box [.fn (.func 253) [] [.ptr 2 0 0]], .box [.r [] (.int .i64 w1), .r [] (.int .i64 w2), .r [] (.int .i64 w3), .r [] (.sl (.st .task) w4), .r [] (.int .i64 w5), .r [] (.int .i64 w6), .r [] (.int .i64 w7), .r [] (.int .i64 w8)]] => some (w0, (⟨w1, w2, w3, w4, w5, w6, w7, w8⟩ : Sched))
  | _, _ => none
def y12l (a : List Task × Sched) (r : List Task) : MOut := ⟨.own 3, [none, some (.box [.fn (.func 253) [] [.ptr 2 0 0]]), some (.box [.r [] (.int .i64 a.2.now), .r [] (.int .i64 a.2.slack), .r [] (.int .i64 a.2.age), .r [] (.sl (.st .task) a.2.tasks), .r [] (.int .i64 a.2.run), .r [] (.int .i64 a.2.left), .r [] (.int .i64 a.2.turns), .r [] (.int .i64 a.2.next)])], [.arr (some []) (.st .task) r]⟩
def y12m (a : List Task × Sched) (o : MOut) : Option (List Task) := match o with
  | ⟨.own 3, [none, some (.box [.fn (.func 253) [] [.ptr 2 0 0]]), some (.box [.r [] (.int .i64 z1), .r [] (.int .i64 z2), .r [] (.int .i64 z3), .r [] (.sl (.st .task) z4), .r [] (.int .i64 z5), .r [] (.int .i64 z6), .r [] (.int .i64 z7), .r [] (.int .i64 z8)])], [.arr (some []) (.st .task) z9]⟩ => cond (@sameL Int _ z1 a.2.now) (cond (@sameL Int _ z2 a.2.slack) (cond (@sameL Int _ z3 a.2.age) (cond (@sameL (List Task) _ z4 a.2.tasks) (cond (@sameL Int _ z5 a.2.run) (cond (@sameL Int _ z6 a.2.left) (cond (@sameL Int _ z7 a.2.turns) (cond (@sameL Int _ z8 a.2.next) (some z9) none) none) none) none) none) none) none) none
  | _ => none
def y12n (k : Nat) : MG := fun _ l b K => (y12k l b).bind fun a => (slices_DeleteFunc_lI_Task_I_Task_m8 k a.1 a.2).bind fun r => K (y12l a r)
theorem y12o (k : Nat) (a : List Task × Sched) : ev (y123 k) (y12f (List Task) k) 0 y125 (st0M Try.f228 (y12i a) (y12j a)) (finM Try.prog Try.f228 (.shl (.st .task)) [.gone, .box [.fn [] [.ptr]], .box [.sc, .sc, .sc, .ro (.st .task), .sc, .sc, .sc, .sc]] (y12m a)) = slices_DeleteFunc_lI_Task_I_Task_m8 k a.1 a.2 := by kernel_rfl
theorem y12p (k : Nat) : MutOk Try.prog 228 (y12n k) :=
  mutOk_of_ev (y124 k) Try.func228 (by kernel_rfl) (by kernel_rfl) y12i y12j y12k
    (fun l b a h => by unfold y12k at h; split at h <;> first | (cases h; exact ⟨rfl, rfl⟩) | cases h) (fun a => rfl) (lpgood_of (l := [(0, y126)]) (by kernel_rfl) ⟨y12h k, trivial⟩) (fun a r => rfl)
    (fun a o r h => by unfold y12m at h; split at h <;> first | (obtain ⟨e0, e1, e2, e3, e4, e5, e6, e7, hq⟩ := dec_chk8 h; clear h; subst e0; subst e1; subst e2; subst e3; subst e4; subst e5; subst e6; subst e7; have h := hq; clear hq; cases h; rfl) | cases h) (y12o k)
def y12q (k : Nat) : Orc := mutOrc [.keep, .keep] (y12n k)
theorem y12r (k : Nat) : OrcOk Try.prog 228 (y12q k) := mutOrc_ok (y12p k)
noncomputable def y12s (k : Nat) : Env := { P := Try.prog, tt := tt, orc := fun g => noOrc }
theorem y12t (k : Nat) : EnvOk (y12s k) := fun g => (noOrc_ok _ _)
noncomputable def y12u : Code := (Try.f254.body).getD .skip
def y12v (ρ : Type) (k : Nat) : Nat → Ev ρ → Ev ρ := fun _ _ _ _ => none
def y12w (a : Task) : List Arg := [.agg [.int .i64 a.id, .sl (.int .i64) a.costs, .int .i64 a.at_, .int .i64 a.due, .int .i64 a.born]]
def y12x (l : List Arg) : Option (Task) := match l with
  | [.agg [.int .i64 b0_0, .sl (.int .i64) b0_1, .int .i64 b0_2, .int .i64 b0_3, .int .i64 b0_4]] => some (⟨b0_0, b0_1, b0_2, b0_3, b0_4⟩ : Task)
  | _ => none
def y12y (r : Int) : Out := (.r [] (.int .i64 r), [])
def y12z (o : Out) : Option (Int) := match o with
  | (.r [] (.int .i64 z1), []) => some z1
  | _ => none
def y130 (k : Nat) : PG := fun _ l K => (y12x l).bind fun a => (I_Sched_pick_c3 k a).bind fun r => K (y12y r)
theorem y131 (k : Nat) (a : Task) : ev (y12s k) (y12v (Int) k) 0 y12u (st0 Try.f254 (y12w a)) (fin Try.prog Try.f254 (.sc) y12z) = I_Sched_pick_c3 k a := by kernel_rfl
theorem y132 (k : Nat) : PureOk Try.prog 254 (y130 k) :=
  pureOk_of_ev (y12t k) Try.func254 (by kernel_rfl) (by kernel_rfl) y12w y12x
    (fun l a h => by unfold y12x at h; split at h <;> first | (cases h; rfl) | cases h) (fun a => rfl) (lpgood_none (by kernel_rfl))
    (fun o r h => by unfold y12z at h; split at h <;> first | (cases h; rfl) | cases h) (y131 k)
def y133 (k : Nat) : Orc := pureOrc [.agg [(.int .i64), (.sl (.int .i64)), (.int .i64), (.int .i64), (.int .i64)]] (y130 k)
theorem y134 (k : Nat) : OrcOk Try.prog 254 (y133 k) := pureOrc_ok (y132 k)
noncomputable def y135 (k : Nat) : Env := { P := Try.prog, tt := tt, orc := fun g => cond (Nat.beq g 168) (yxy k) (cond (Nat.beq g 254) (y133 k) (cond (Nat.beq g 272) (yyn k) (noOrc))) }
theorem y136 (k : Nat) : EnvOk (y135 k) := fun g => (orc_cond (yxz k) (orc_cond (y134 k) (orc_cond (yyo k) (noOrc_ok _ _))))
noncomputable def y137 : Code := (Try.f271.body).getD .skip
def y138 (ρ : Type) (k : Nat) : Nat → Ev ρ → Ev ρ := fun _ _ _ _ => none
def y139 (a : Task × Task) : List SV := [.agg [.r [] (.int .i64 a.1.id), .r [] (.sl (.int .i64) a.1.costs), .r [] (.int .i64 a.1.at_), .r [] (.int .i64 a.1.due), .r [] (.int .i64 a.1.born)], .agg [.r [] (.int .i64 a.2.id), .r [] (.sl (.int .i64) a.2.costs), .r [] (.int .i64 a.2.at_), .r [] (.int .i64 a.2.due), .r [] (.int .i64 a.2.born)], .ptr 0 0 0]
def y13a (a : Task × Task) : List Blk := [.box [.fn (.func 254) [] []]]
def y13b (l : List SV) (b : List Blk) : Option (Task × Task) := match l, b with
  | [.agg [.r [] (.int .i64 w0), .r [] (.sl (.int .i64) w1), .r [] (.int .i64 w2), .r [] (.int .i64 w3), .r [] (.int .i64 w4)], .agg [.r [] (.int .i64 w5), .r [] (.sl (.int .i64) w6), .r [] (.int .i64 w7), .r [] (.int .i64 w8), .r [] (.int .i64 w9)], .ptr 0 0 0], [.box [.fn (.func 254) [] []]] => some ((⟨w0, w1, w2, w3, w4⟩ : Task), (⟨w5, w6, w7, w8, w9⟩ : Task))
  | _, _ => none
def y13c (a : Task × Task) (r : Int) : MOut := ⟨.r [] (.int .i64 r), [some (.box [.fn (.func 254) [] []])], []⟩
def y13d (a : Task × Task) (o : MOut) : Option (Int) := match o with
  | ⟨.r [] (.int .i64 z1), [some (.box [.fn (.func 254) [] []])], []⟩ => some z1
  | _ => none
def y13e (k : Nat) : MG := fun _ l b K => (y13b l b).bind fun a => (I_Sched_first_c2_m2 k a.1 a.2).bind fun r => K (y13c a r)
theorem y13f (k : Nat) (a : Task × Task) : ev (y135 k) (y138 (Int) k) 0 y137 (st0M Try.f271 (y139 a) (y13a a)) (finM Try.prog Try.f271 (.sc) [.box [.fn [] []]] (y13d a)) = I_Sched_first_c2_m2 k a.1 a.2 := by kernel_rfl
theorem y13g (k : Nat) : MutOk Try.prog 271 (y13e k) :=
  mutOk_of_ev (y136 k) Try.func271 (by kernel_rfl) (by kernel_rfl) y139 y13a y13b
    (fun l b a h => by unfold y13b at h; split at h <;> first | (cases h; exact ⟨rfl, rfl⟩) | cases h) (fun a => rfl) (lpgood_none (by kernel_rfl)) (fun a r => rfl)
    (fun a o r h => by unfold y13d at h; split at h <;> first | (skip; cases h; rfl) | cases h) (y13f k)
def y13h (k : Nat) : Orc := mutOrc [.agg [(.int .i64), (.sl (.int .i64)), (.int .i64), (.int .i64), (.int .i64)], .agg [(.int .i64), (.sl (.int .i64)), (.int .i64), (.int .i64), (.int .i64)], .keep] (y13e k)
theorem y13i (k : Nat) : OrcOk Try.prog 271 (y13h k) := mutOrc_ok (y13g k)
noncomputable def y13j (k : Nat) : Env := { P := Try.prog, tt := tt, orc := fun g => cond (Nat.beq g 271) (y13h k) (noOrc), wr := fun g => mem g [271], wt := true }
theorem y13k (k : Nat) : EnvOk (y13j k) := fun g => (orc_cond (y13i k) (noOrc_ok _ _))
noncomputable def y13l : Code := (Try.f270.body).getD .skip
noncomputable def y13m : Code := ((loopsIn 0 y13l).getD 0 (0, .skip)).2
def y13n : List Nat := [0, 1, 4, 5, 6]
def y13o : List (Where × Co) := []
def y13p : Ex → List Nat
  | .exit j => cond (Nat.beq j 0) [4, 5] []
  | .ret => []
  | .normal => []
def y13q : Ex → List (Where × Co)
  | .exit j => cond (Nat.beq j 0) [] []
  | .ret => []
  | .normal => []
def y13r (pv : (List Task × Int × Int × Int × Int) × (Int × Int × List Int × Int × Int × Int)) : St := { slots := [(0, .r [] (.sl (.st .task) pv.1.1)), (1, .fn (.func 271) [] [.ptr 0 0 0]), (4, .ptr 1 0 0), (5, .ptr 2 0 0), (6, .r [] (.int .i64 pv.2.1))], heap := [(0, .box [.fn (.func 254) [] []]), (1, .box [.r [] (.int .i64 pv.1.2.1), .nilS, .r [] (.int .i64 pv.1.2.2.1), .r [] (.int .i64 pv.1.2.2.2.1), .r [] (.int .i64 pv.1.2.2.2.2)]), (2, .box [.r [] (.int .i64 pv.2.2.1), .r [] (.sl (.int .i64) pv.2.2.2.1), .r [] (.int .i64 pv.2.2.2.2.1), .r [] (.int .i64 pv.2.2.2.2.2.1), .r [] (.int .i64 pv.2.2.2.2.2.2)])], nid := 3, n := 33, gh := [some 0] }
def y13s (nf : NF) : Option ((List Task × Int × Int × Int × Int) × (Int × Int × List Int × Int × Int × Int)) := match nf with
  | ([.r [] (.sl (.st .task) w0), .fn (.func 271) [] [.ptr 0 0 0], .ptr 1 0 0, .ptr 2 0 0, .r [] (.int .i64 w1)], [.box [.fn (.func 254) [] []], .box [.r [] (.int .i64 w2), .nilS, .r [] (.int .i64 w3), .r [] (.int .i64 w4), .r [] (.int .i64 w5)], .box [.r [] (.int .i64 w6), .r [] (.sl (.int .i64) w7), .r [] (.int .i64 w8), .r [] (.int .i64 w9), .r [] (.int .i64 w10)]], [some 0]) => some ((w0, w2, w3, w4, w5), (w1, w6, w7, w8, w9, w10))
  | _ => none
theorem y13t (nf : NF) (v : (List Task × Int × Int × Int × Int) × (Int × Int × List Int × Int × Int × Int)) (h : y13s nf = some v) : denorm y13n 33 nf = y13r v := by
  unfold y13s at h
  split at h
  · cases h; rfl
  · cases h
def y13u (p : List Task × Int × Int × Int × Int) (x : Int × List Int × Int × Int × Int) : St := { slots := [(4, .ptr 0 0 0), (5, .ptr 1 0 0)], heap := [(0, .box [.r [] (.int .i64 p.2.1), .nilS, .r [] (.int .i64 p.2.2.1), .r [] (.int .i64 p.2.2.2.1), .r [] (.int .i64 p.2.2.2.2)]), (1, .box [.r [] (.int .i64 x.1), .r [] (.sl (.int .i64) x.2.1), .r [] (.int .i64 x.2.2.1), .r [] (.int .i64 x.2.2.2.1), .r [] (.int .i64 x.2.2.2.2)]), (2, .box [.fn (.func 254) [] []])], nid := 3, n := 33, gh := [some 2] }
def y13v (ρ : Type) (k : Nat) : Nat → Ev ρ → Ev ρ := fun id f => cond (Nat.beq id 0) (loopOrc y13n y13o (fun n nf => cond (Nat.beq n 33) (y13s nf) none) fun pv K => iter (fun v next => slices_MinFunc_lI_Task_I_Task_m2_g0 k pv.1 v next (fun x => K (.exit 0) (y13u pv.1 x))) k pv.2) ((fun _ _ _ _ => none) id f)
theorem y13w {ρ : Type} (k : Nat) (p : List Task × Int × Int × Int × Int) (v : Int × Int × List Int × Int × Int × Int) (K K1 : Ex → St → Option ρ) : ev (y13j k) (y13v ρ k) 0 y13m (y13r (p, v)) (fun e st' => match e with
    | .normal => (normC y13n y13o st').bind fun nf => K1 .normal (denorm y13n st'.n nf)
    | e => (normC (y13p e) (y13q e) st').bind fun nf => K e (denorm (y13p e) st'.n nf)) = slices_MinFunc_lI_Task_I_Task_m2_g0 k p v (fun v' => K1 .normal (y13r (p, v'))) (fun x => K (.exit 0) (y13u p x)) := by kernel_rfl
theorem y13x {ρ : Type} (k : Nat) : Sound Try.prog (.loop y13m) (y13v ρ k 0 fun st K => ev (y13j k) (y13v ρ k) 0 y13m st K) :=
  loop_ok (ev_sound (y13k k) y13m 0 (lpgood_none (by kernel_rfl))) y13p y13q k (g := fun p v next K => slices_MinFunc_lI_Task_I_Task_m2_g0 k p v next (fun x => K (.exit 0) (y13u p x))) (dec_at y13t) (fun p v K K1 => y13w k p v K K1)
def y13y (a : List Task) : List SV := [.r [] (.sl (.st .task) a), .fn (.func 271) [] [.ptr 0 0 0]]
def y13z (a : List Task) : List Blk := [.box [.fn (.func 254) [] []]]
def y140 (l : List SV) (b : List Blk) : Option (List Task) := match l, b with
  | [.r [] (.sl (.st .task) w0), .fn (.func 271) [] [.ptr 0 0 0]], [.box [.fn (.func 254) [] []]] => some w0
  | _, _ => none
def y141 (a : List Task) (r : Task) : MOut := ⟨.agg [.r [] (.int .i64 r.id), .r [] (.sl (.int .i64) r.costs), .r [] (.int .i64 r.at_), .r [] (.int .i64 r.due), .r [] (.int .i64 r.born)], [some (.box [.fn (.func 254) [] []])], []⟩
def y142 (a : List Task) (o : MOut) : Option (Task) := match o with
  | ⟨.agg [.r [] (.int .i64 z1), .r [] (.sl (.int .i64) z2), .r [] (.int .i64 z3), .r [] (.int .i64 z4), .r [] (.int .i64 z5)], [some (.box [.fn (.func 254) [] []])], []⟩ => some (⟨z1, z2, z3, z4, z5⟩ : Task)
  | _ => none
def y143 (k : Nat) : MG := fun _ l b K => (y140 l b).bind fun a => (slices_MinFunc_lI_Task_I_Task_m2 k a).bind fun r => K (y141 a r)
theorem y144 (k : Nat) (a : List Task) : ev (y13j k) (y13v (Task) k) 0 y13l (st0M Try.f270 (y13y a) (y13z a)) (finM Try.prog Try.f270 (.agg [.sc, .ro (.int .i64), .sc, .sc, .sc]) [.box [.fn [] []]] (y142 a)) = slices_MinFunc_lI_Task_I_Task_m2 k a := by kernel_rfl
theorem y145 (k : Nat) : MutOk Try.prog 270 (y143 k) :=
  mutOk_of_ev (y13k k) Try.func270 (by kernel_rfl) (by kernel_rfl) y13y y13z y140
    (fun l b a h => by unfold y140 at h; split at h <;> first | (cases h; exact ⟨rfl, rfl⟩) | cases h) (fun a => rfl) (lpgood_of (l := [(0, y13m)]) (by kernel_rfl) ⟨y13x k, trivial⟩) (fun a r => rfl)
    (fun a o r h => by unfold y142 at h; split at h <;> first | (skip; cases h; rfl) | cases h) (y144 k)
def y146 (k : Nat) : Orc := mutOrc [.one (.sl (.st .task)), .keep] (y143 k)
theorem y147 (k : Nat) : OrcOk Try.prog 270 (y146 k) := mutOrc_ok (y145 k)
noncomputable def y148 (k : Nat) : Env := { P := Try.prog, tt := tt, orc := fun g => cond (Nat.beq g 228) (y12q k) (cond (Nat.beq g 268) (yuo k) (cond (Nat.beq g 270) (y146 k) (noOrc))), wr := fun g => mem g [228, 270], wt := true }
theorem y149 (k : Nat) : EnvOk (y148 k) := fun g => (orc_cond (y12r k) (orc_cond (yup k) (orc_cond (y147 k) (noOrc_ok _ _))))
noncomputable def y14a : Code := (Try.f251.body).getD .skip
def y14b (ρ : Type) (k : Nat) : Nat → Ev ρ → Ev ρ := fun _ _ _ _ => none
def y14c (a : Sched × Sched) : List SV := [.agg [.r [] (.int .i64 a.1.now), .r [] (.int .i64 a.1.slack), .r [] (.int .i64 a.1.age), .r [] (.sl (.st .task) a.1.tasks), .r [] (.int .i64 a.1.run), .r [] (.int .i64 a.1.left), .r [] (.int .i64 a.1.turns), .r [] (.int .i64 a.1.next)], .fn (.func 253) [] [.ptr 0 0 0], .fn (.func 254) [] []]
def y14d (a : Sched × Sched) : List Blk := [.box [.r [] (.int .i64 a.2.now), .r [] (.int .i64 a.2.slack), .r [] (.int .i64 a.2.age), .r [] (.sl (.st .task) a.2.tasks), .r [] (.int .i64 a.2.run), .r [] (.int .i64 a.2.left), .r [] (.int .i64 a.2.turns), .r [] (.int .i64 a.2.next)]]
def y14e (l : List SV) (b : List Blk) : Option (Sched × Sched) := match l, b with
  | [.agg [.r [] (.int .i64 w0), .r [] (.int .i64 w1), .r [] (.int .i64 w2), .r [] (.sl (.st .task) w3), .r [] (.int .i64 w4), .r [] (.int .i64 w5), .r [] (.int .i64 w6), .r [] (.int .i64 w7)], .fn (.func 253) [] [.ptr 0 0 0], .fn (.func 254) [] []], [.box [.r [] (.int .i64 w8), .r [] (.int .i64 w9), .r [] (.int .i64 w10), .r [] (.sl (.st .task) w11), .r [] (.int .i64 w12), .r [] (.int .i64 w13), .r [] (.int .i64 w14), .r [] (.int .i64 w15)]] => some ((⟨w0, w1, w2, w3, w4, w5, w6, w7⟩ : Sched), (⟨w8, w9, w10, w11, w12, w13, w14, w15⟩ : Sched))
  | _, _ => none
def y14f (a : Sched × Sched) (r : Int) : MOut := ⟨.r [] (.int .i64 r), [some (.box [.r [] (.int .i64 a.2.now), .r [] (.int .i64 a.2.slack), .r [] (.int .i64 a.2.age), .r [] (.sl (.st .task) a.2.tasks), .r [] (.int .i64 a.2.run), .r [] (.int .i64 a.2.left), .r [] (.int .i64 a.2.turns), .r [] (.int .i64 a.2.next)])], []⟩
def y14g (a : Sched × Sched) (o : MOut) : Option (Int) := match o with
  | ⟨.r [] (.int .i64 z1), [some (.box [.r [] (.int .i64 z2), .r [] (.int .i64 z3), .r [] (.int .i64 z4), .r [] (.sl (.st .task) z5), .r [] (.int .i64 z6), .r [] (.int .i64 z7), .r [] (.int .i64 z8), .r [] (.int .i64 z9)])], []⟩ => cond (@sameL Int _ z2 a.2.now) (cond (@sameL Int _ z3 a.2.slack) (cond (@sameL Int _ z4 a.2.age) (cond (@sameL (List Task) _ z5 a.2.tasks) (cond (@sameL Int _ z6 a.2.run) (cond (@sameL Int _ z7 a.2.left) (cond (@sameL Int _ z8 a.2.turns) (cond (@sameL Int _ z9 a.2.next) (some z1) none) none) none) none) none) none) none) none
  | _ => none
def y14h (k : Nat) : MG := fun _ l b K => (y14e l b).bind fun a => (I_Sched_first_m2 k a.1 a.2).bind fun r => K (y14f a r)
theorem y14i (k : Nat) (a : Sched × Sched) : ev (y148 k) (y14b (Int) k) 0 y14a (st0M Try.f251 (y14c a) (y14d a)) (finM Try.prog Try.f251 (.sc) [.box [.sc, .sc, .sc, .ro (.st .task), .sc, .sc, .sc, .sc]] (y14g a)) = I_Sched_first_m2 k a.1 a.2 := by kernel_rfl
theorem y14j (k : Nat) : MutOk Try.prog 251 (y14h k) :=
  mutOk_of_ev (y149 k) Try.func251 (by kernel_rfl) (by kernel_rfl) y14c y14d y14e
    (fun l b a h => by unfold y14e at h; split at h <;> first | (cases h; exact ⟨rfl, rfl⟩) | cases h) (fun a => rfl) (lpgood_none (by kernel_rfl)) (fun a r => rfl)
    (fun a o r h => by unfold y14g at h; split at h <;> first | (obtain ⟨e0, e1, e2, e3, e4, e5, e6, e7, hq⟩ := dec_chk8 h; clear h; subst e0; subst e1; subst e2; subst e3; subst e4; subst e5; subst e6; subst e7; have h := hq; clear hq; cases h; rfl) | cases h) (y14i k)
def y14k (k : Nat) : Orc := mutOrc [.agg [(.int .i64), (.int .i64), (.int .i64), (.sl (.st .task)), (.int .i64), (.int .i64), (.int .i64), (.int .i64)], .keep, .keep] (y14h k)
theorem y14l (k : Nat) : OrcOk Try.prog 251 (y14k k) := mutOrc_ok (y14j k)
noncomputable def y14m (k : Nat) : Env := { P := Try.prog, tt := tt, orc := fun g => cond (Nat.beq g 251) (altB (mutT [.agg [(.int .i64), (.int .i64), (.int .i64), (.sl (.st .task)), (.int .i64), (.int .i64), (.int .i64), (.int .i64)], .keep, .keep] y14e) (y14k k) (y105 k)) (noOrc), wr := fun g => mem g [251], wt := true }
theorem y14n (k : Nat) : EnvOk (y14m k) := fun g => (orc_cond (altB_ok (y14l k) (y106 k)) (noOrc_ok _ _))
noncomputable def y14o : Code := (Try.f227.body).getD .skip
def y14p (ρ : Type) (k : Nat) : Nat → Ev ρ → Ev ρ := fun _ _ _ _ => none
def y14q (a : Sched) : List Arg := [.agg [.int .i64 a.now, .int .i64 a.slack, .int .i64 a.age, .sl (.st .task) a.tasks, .int .i64 a.run, .int .i64 a.left, .int .i64 a.turns, .int .i64 a.next]]
def y14r (l : List Arg) : Option (Sched) := match l with
  | [.agg [.int .i64 b0_0, .int .i64 b0_1, .int .i64 b0_2, .sl (.st .task) b0_3, .int .i64 b0_4, .int .i64 b0_5, .int .i64 b0_6, .int .i64 b0_7]] => some (⟨b0_0, b0_1, b0_2, b0_3, b0_4, b0_5, b0_6, b0_7⟩ : Sched)
  | _ => none
def y14s (r : Int) : Out := (.r [] (.int .i64 r), [])
def y14t (o : Out) : Option (Int) := match o with
  | (.r [] (.int .i64 z1), []) => some z1
  | _ => none
def y14u (k : Nat) : PG := fun _ l K => (y14r l).bind fun a => (I_Sched_pick k a).bind fun r => K (y14s r)
theorem y14v (k : Nat) (a : Sched) : ev (y14m k) (y14p (Int) k) 0 y14o (st0 Try.f227 (y14q a)) (fin Try.prog Try.f227 (.sc) y14t) = I_Sched_pick k a := by kernel_rfl
theorem y14w (k : Nat) : PureOk Try.prog 227 (y14u k) :=
  pureOk_of_ev (y14n k) Try.func227 (by kernel_rfl) (by kernel_rfl) y14q y14r
    (fun l a h => by unfold y14r at h; split at h <;> first | (cases h; rfl) | cases h) (fun a => rfl) (lpgood_none (by kernel_rfl))
    (fun o r h => by unfold y14t at h; split at h <;> first | (cases h; rfl) | cases h) (y14v k)
def y14x (k : Nat) : Orc := pureOrc [.agg [(.int .i64), (.int .i64), (.int .i64), (.sl (.st .task)), (.int .i64), (.int .i64), (.int .i64), (.int .i64)]] (y14u k)
theorem y14y (k : Nat) : OrcOk Try.prog 227 (y14x k) := pureOrc_ok (y14w k)
noncomputable def y14z (k : Nat) : Env := { P := Try.prog, tt := tt, orc := fun g => cond (Nat.beq g 134) (ym9 k) (cond (Nat.beq g 227) (y14x k) (noOrc)) }
theorem y150 (k : Nat) : EnvOk (y14z k) := fun g => (orc_cond (yma k) (orc_cond (y14y k) (noOrc_ok _ _)))
noncomputable def y151 : Code := (Try.f198.body).getD .skip
def y152 (ρ : Type) (k : Nat) : Nat → Ev ρ → Ev ρ := fun _ _ _ _ => none
def y153 (a : Sched) : List SV := [.ptr 0 0 0]
def y154 (a : Sched) : List Blk := [.box [.r [] (.int .i64 a.now), .r [] (.int .i64 a.slack), .r [] (.int .i64 a.age), .own 1, .r [] (.int .i64 a.run), .r [] (.int .i64 a.left), .r [] (.int .i64 a.turns), .r [] (.int .i64 a.next)], .arr none (.st .task) a.tasks]
def y155 (l : List SV) (b : List Blk) : Option (Sched) := match l, b with
  | [.ptr 0 0 0], [.box [.r [] (.int .i64 w0), .r [] (.int .i64 w1), .r [] (.int .i64 w2), .own 1, .r [] (.int .i64 w3), .r [] (.int .i64 w4), .r [] (.int .i64 w5), .r [] (.int .i64 w6)], .arr none (.st .task) w7] => some (⟨w0, w1, w2, w7, w3, w4, w5, w6⟩ : Sched)
  | _, _ => none
def y156 (a : Sched) (r : Bool × Int × Int × Int) : MOut := ⟨.r [] (.bool r.1), [some (.box [.r [] (.int .i64 a.now), .r [] (.int .i64 a.slack), .r [] (.int .i64 a.age), .own 2, .r [] (.int .i64 r.2.1), .r [] (.int .i64 r.2.2.1), .r [] (.int .i64 r.2.2.2), .r [] (.int .i64 a.next)]), none], [.arr none (.st .task) a.tasks]⟩
def y157 (a : Sched) (o : MOut) : Option (Bool × Int × Int × Int) := match o with
  | ⟨.r [] (.bool z1), [some (.box [.r [] (.int .i64 z2), .r [] (.int .i64 z3), .r [] (.int .i64 z4), .own 2, .r [] (.int .i64 z5), .r [] (.int .i64 z6), .r [] (.int .i64 z7), .r [] (.int .i64 z8)]), none], [.arr none (.st .task) z9]⟩ => cond (@sameL Int _ z2 a.now) (cond (@sameL Int _ z3 a.slack) (cond (@sameL Int _ z4 a.age) (cond (@sameL (List Task) _ z9 a.tasks) (cond (@sameL Int _ z8 a.next) (some (z1, z5, z6, z7)) none) none) none) none) none
  | _ => none
def y158 (k : Nat) : MG := fun _ l b K => (y155 l b).bind fun a => (pI_Sched_start_m k a).bind fun r => K (y156 a r)
theorem y159 (k : Nat) (a : Sched) : ev (y14z k) (y152 (Bool × Int × Int × Int) k) 0 y151 (st0M Try.f198 (y153 a) (y154 a)) (finM Try.prog Try.f198 (.sc) [.box [.sc, .sc, .sc, .own (.st .task), .sc, .sc, .sc, .sc], .gone] (y157 a)) = pI_Sched_start_m k a := by kernel_rfl
theorem y15a (k : Nat) : MutOk Try.prog 198 (y158 k) :=
  mutOk_of_ev (y150 k) Try.func198 (by kernel_rfl) (by kernel_rfl) y153 y154 y155
    (fun l b a h => by unfold y155 at h; split at h <;> first | (cases h; exact ⟨rfl, rfl⟩) | cases h) (fun a => rfl) (lpgood_none (by kernel_rfl)) (fun a r => rfl)
    (fun a o r h => by unfold y157 at h; split at h <;> first | (obtain ⟨e0, e1, e2, e3, e4, hq⟩ := dec_chk5 h; clear h; subst e0; subst e1; subst e2; subst e3; subst e4; have h := hq; clear hq; cases h; rfl) | cases h) (y159 k)
def y15b (k : Nat) : Orc := mutOrc [.keep] (y158 k)
theorem y15c (k : Nat) : OrcOk Try.prog 198 (y15b k) := mutOrc_ok (y15a k)
noncomputable def y15d (k : Nat) : Env := { P := Try.prog, tt := tt, orc := fun g => cond (Nat.beq g 134) (ym9 k) (cond (Nat.beq g 198) (y15b k) (cond (Nat.beq g 199) (mutOrc [.keep, .one (.int .i64)] (numG .task .taskK 1 (yua k))) (noOrc))), wr := fun g => mem g [198, 199], wt := true }
theorem y15e (k : Nat) : EnvOk (y15d k) := fun g => (orc_cond (yma k) (orc_cond (y15c k) (orc_cond (mutOrc_ok (numOk (s := .task) (s' := .taskK) rfl rfl rfl 1 (fun _ _ _ _ => by simp only [yua, Option.bind_assoc, Option.bind_some]) (fun T => @yuc T k))) (noOrc_ok _ _))))
noncomputable def y15f : Code := (Try.f138.body).getD .skip
def y15g (ρ : Type) (k : Nat) : Nat → Ev ρ → Ev ρ := fun _ _ _ _ => none
def y15h (a : Sched × Bool) : List SV := [.ptr 0 0 0, .r [] (.bool a.2)]
def y15i (a : Sched × Bool) : List Blk := [.box [.r [] (.int .i64 a.1.now), .r [] (.int .i64 a.1.slack), .r [] (.int .i64 a.1.age), .own 1, .r [] (.int .i64 a.1.run), .r [] (.int .i64 a.1.left), .r [] (.int .i64 a.1.turns), .r [] (.int .i64 a.1.next)], .arr none (.st .task) a.1.tasks]
def y15j (l : List SV) (b : List Blk) : Option (Sched × Bool) := match l, b with
  | [.ptr 0 0 0, .r [] (.bool w0)], [.box [.r [] (.int .i64 w1), .r [] (.int .i64 w2), .r [] (.int .i64 w3), .own 1, .r [] (.int .i64 w4), .r [] (.int .i64 w5), .r [] (.int .i64 w6), .r [] (.int .i64 w7)], .arr none (.st .task) w8] => some ((⟨w1, w2, w3, w8, w4, w5, w6, w7⟩ : Sched), w0)
  | _, _ => none
def y15k (a : Sched × Bool) (r : (Int × Bool) × Int × List Task × Int × Int × Int) : MOut := ⟨.tup [.r [] (.int .i64 r.1.1), .r [] (.bool r.1.2)], [some (.box [.r [] (.int .i64 r.2.1), .r [] (.int .i64 a.1.slack), .r [] (.int .i64 a.1.age), .own 2, .r [] (.int .i64 r.2.2.2.1), .r [] (.int .i64 r.2.2.2.2.1), .r [] (.int .i64 r.2.2.2.2.2), .r [] (.int .i64 a.1.next)]), none], [.arr none (.st .task) r.2.2.1]⟩
def y15l (a : Sched × Bool) (o : MOut) : Option ((Int × Bool) × Int × List Task × Int × Int × Int) := match o with
  | ⟨.tup [.r [] (.int .i64 z1), .r [] (.bool z2)], [some (.box [.r [] (.int .i64 z3), .r [] (.int .i64 z4), .r [] (.int .i64 z5), .own 2, .r [] (.int .i64 z6), .r [] (.int .i64 z7), .r [] (.int .i64 z8), .r [] (.int .i64 z9)]), none], [.arr none (.st .task) z10]⟩ => cond (@sameL Int _ z4 a.1.slack) (cond (@sameL Int _ z5 a.1.age) (cond (@sameL Int _ z9 a.1.next) (some ((z1, z2), z3, z10, z6, z7, z8)) none) none) none
  | _ => none
def y15m (k : Nat) : MG := fun _ l b K => (y15j l b).bind fun a => (pI_Sched_tick_m k a.1 a.2).bind fun r => K (y15k a r)
theorem y15n (k : Nat) (a : Sched × Bool) : ev (y15d k) (y15g ((Int × Bool) × Int × List Task × Int × Int × Int) k) 0 y15f (st0M Try.f138 (y15h a) (y15i a)) (finM Try.prog Try.f138 (.tup [.sc, .sc]) [.box [.sc, .sc, .sc, .own (.st .task), .sc, .sc, .sc, .sc], .gone] (y15l a)) = pI_Sched_tick_m k a.1 a.2 := by kernel_rfl
theorem y15o (k : Nat) : MutOk Try.prog 138 (y15m k) :=
  mutOk_of_ev (y15e k) Try.func138 (by kernel_rfl) (by kernel_rfl) y15h y15i y15j
    (fun l b a h => by unfold y15j at h; split at h <;> first | (cases h; exact ⟨rfl, rfl⟩) | cases h) (fun a => rfl) (lpgood_none (by kernel_rfl)) (fun a r => rfl)
    (fun a o r h => by unfold y15l at h; split at h <;> first | (obtain ⟨e0, e1, e2, hq⟩ := dec_chk3 h; clear h; subst e0; subst e1; subst e2; have h := hq; clear hq; cases h; rfl) | cases h) (y15n k)
def y15p (k : Nat) : Orc := mutOrc [.keep, .one .bool] (y15m k)
theorem y15q (k : Nat) : OrcOk Try.prog 138 (y15p k) := mutOrc_ok (y15o k)
noncomputable def y15r (k : Nat) : Env := { P := Try.prog, tt := tt, orc := fun g => cond (Nat.beq g 40) (ymm k) (cond (Nat.beq g 116) (ys6 k) (cond (Nat.beq g 138) (y15p k) (noOrc))), wr := fun g => mem g [138], wt := true }
theorem y15s (k : Nat) : EnvOk (y15r k) := fun g => (orc_cond (ymn k) (orc_cond (ys7 k) (orc_cond (y15q k) (noOrc_ok _ _))))
noncomputable def y15t : Code := (Try.f42.body).getD .skip
def y15u (ρ : Type) (k : Nat) : Nat → Ev ρ → Ev ρ := fun _ _ _ _ => none
def y15v (a : Sched × Bool) : List Arg := [.agg [.int .i64 a.1.now, .int .i64 a.1.slack, .int .i64 a.1.age, .sl (.st .task) a.1.tasks, .int .i64 a.1.run, .int .i64 a.1.left, .int .i64 a.1.turns, .int .i64 a.1.next], .one (.bool a.2)]
def y15w (l : List Arg) : Option (Sched × Bool) := match l with
  | [.agg [.int .i64 b0_0, .int .i64 b0_1, .int .i64 b0_2, .sl (.st .task) b0_3, .int .i64 b0_4, .int .i64 b0_5, .int .i64 b0_6, .int .i64 b0_7], .one (.bool b1)] => some ((⟨b0_0, b0_1, b0_2, b0_3, b0_4, b0_5, b0_6, b0_7⟩ : Sched), b1)
  | _ => none
def y15x (r : Sched × Int × Bool) : Out := (.tup [.agg [.r [] (.int .i64 r.1.now), .r [] (.int .i64 r.1.slack), .r [] (.int .i64 r.1.age), .own 0, .r [] (.int .i64 r.1.run), .r [] (.int .i64 r.1.left), .r [] (.int .i64 r.1.turns), .r [] (.int .i64 r.1.next)], .r [] (.int .i64 r.2.1), .r [] (.bool r.2.2)], [.arr none (.st .task) r.1.tasks])
def y15y (o : Out) : Option (Sched × Int × Bool) := match o with
  | (.tup [.agg [.r [] (.int .i64 z1), .r [] (.int .i64 z2), .r [] (.int .i64 z3), .own 0, .r [] (.int .i64 z5), .r [] (.int .i64 z6), .r [] (.int .i64 z7), .r [] (.int .i64 z8)], .r [] (.int .i64 z9), .r [] (.bool z10)], [.arr none (.st .task) z4]) => some ((⟨z1, z2, z3, z4, z5, z6, z7, z8⟩ : Sched), z9, z10)
  | _ => none
def y15z (k : Nat) : PG := fun _ l K => (y15w l).bind fun a => (I_TickSched k a.1 a.2).bind fun r => K (y15x r)
theorem y160 (k : Nat) (a : Sched × Bool) : ev (y15r k) (y15u (Sched × Int × Bool) k) 0 y15t (st0 Try.f42 (y15v a)) (fin Try.prog Try.f42 (.tup [.agg [.sc, .sc, .sc, .own (.st .task), .sc, .sc, .sc, .sc], .sc, .sc]) y15y) = I_TickSched k a.1 a.2 := by kernel_rfl
theorem y161 (k : Nat) : PureOk Try.prog 42 (y15z k) :=
  pureOk_of_ev (y15s k) Try.func42 (by kernel_rfl) (by kernel_rfl) y15v y15w
    (fun l a h => by unfold y15w at h; split at h <;> first | (cases h; rfl) | cases h) (fun a => rfl) (lpgood_none (by kernel_rfl))
    (fun o r h => by unfold y15y at h; split at h <;> first | (cases h; rfl) | cases h) (y160 k)
def y162 (k : Nat) : Orc := pureOrc [.agg [(.int .i64), (.int .i64), (.int .i64), (.sl (.st .task)), (.int .i64), (.int .i64), (.int .i64), (.int .i64)], .one .bool] (y15z k)
theorem y163 (k : Nat) : OrcOk Try.prog 42 (y162 k) := pureOrc_ok (y161 k)
noncomputable def y164 (k : Nat) : Env := { P := Try.prog, tt := tt, orc := fun g => cond (Nat.beq g 40) (ymm k) (cond (Nat.beq g 120) (ymz k) (noOrc)) }
theorem y165 (k : Nat) : EnvOk (y164 k) := fun g => (orc_cond (ymn k) (orc_cond (yn0 k) (noOrc_ok _ _)))
noncomputable def y166 : Code := (Try.f46.body).getD .skip
noncomputable def y167 : Code := ((loopsIn 0 y166).getD 0 (0, .skip)).2
def y168 : List Nat := [1, 3, 12, 13, 14]
def y169 : List (Where × Co) := []
def y16a : Ex → List Nat
  | .exit j => cond (Nat.beq j 0) [3] []
  | .ret => []
  | .normal => []
def y16b : Ex → List (Where × Co)
  | .exit j => cond (Nat.beq j 0) [] []
  | .ret => []
  | .normal => []
def y16c (pv : (List Task × Int × Int × Int × Int × List Task × Int × Int × Int × Int) × (Int × List Int)) : St := { slots := [(1, .ptr 0 0 0), (3, .own 1), (12, .r [] (.sl (.st .task) pv.1.1)), (13, .r [] (.int .i64 pv.1.2.1)), (14, .r [] (.int .i64 pv.2.1))], heap := [(0, .box [.r [] (.int .i64 pv.1.2.2.1), .r [] (.int .i64 pv.1.2.2.2.1), .r [] (.int .i64 pv.1.2.2.2.2.1), .r [] (.sl (.st .task) pv.1.2.2.2.2.2.1), .r [] (.int .i64 pv.1.2.2.2.2.2.2.1), .r [] (.int .i64 pv.1.2.2.2.2.2.2.2.1), .r [] (.int .i64 pv.1.2.2.2.2.2.2.2.2.1), .r [] (.int .i64 pv.1.2.2.2.2.2.2.2.2.2)]), (1, .arr none (.int .i64) pv.2.2)], nid := 2, n := 28, gh := [] }
def y16d (nf : NF) : Option ((List Task × Int × Int × Int × Int × List Task × Int × Int × Int × Int) × (Int × List Int)) := match nf with
  | ([.ptr 0 0 0, .own 1, .r [] (.sl (.st .task) w0), .r [] (.int .i64 w1), .r [] (.int .i64 w2)], [.box [.r [] (.int .i64 w3), .r [] (.int .i64 w4), .r [] (.int .i64 w5), .r [] (.sl (.st .task) w6), .r [] (.int .i64 w7), .r [] (.int .i64 w8), .r [] (.int .i64 w9), .r [] (.int .i64 w10)], .arr none (.int .i64) w11], []) => some ((w0, w1, w3, w4, w5, w6, w7, w8, w9, w10), (w2, w11))
  | _ => none
theorem y16e (nf : NF) (v : (List Task × Int × Int × Int × Int × List Task × Int × Int × Int × Int) × (Int × List Int)) (h : y16d nf = some v) : denorm y168 28 nf = y16c v := by
  unfold y16d at h
  split at h
  · cases h; rfl
  · cases h
def y16f (p : List Task × Int × Int × Int × Int × List Task × Int × Int × Int × Int) (x : List Int) : St := { slots := [(3, .own 0)], heap := [(0, .arr none (.int .i64) x)], nid := 1, n := 28, gh := [] }
def y16g (ρ : Type) (k : Nat) : Nat → Ev ρ → Ev ρ := fun id f => cond (Nat.beq id 0) (loopOrc y168 y169 (fun n nf => cond (Nat.beq n 28) (y16d nf) none) fun pv K => iter (fun v next => I_LateOf_g0 k pv.1 v next (fun x => K (.exit 0) (y16f pv.1 x))) k pv.2) ((fun _ _ _ _ => none) id f)
theorem y16h {ρ : Type} (k : Nat) (p : List Task × Int × Int × Int × Int × List Task × Int × Int × Int × Int) (v : Int × List Int) (K K1 : Ex → St → Option ρ) : ev (y164 k) (y16g ρ k) 0 y167 (y16c (p, v)) (fun e st' => match e with
    | .normal => (normC y168 y169 st').bind fun nf => K1 .normal (denorm y168 st'.n nf)
    | e => (normC (y16a e) (y16b e) st').bind fun nf => K e (denorm (y16a e) st'.n nf)) = I_LateOf_g0 k p v (fun v' => K1 .normal (y16c (p, v'))) (fun x => K (.exit 0) (y16f p x)) := by kernel_rfl
theorem y16i {ρ : Type} (k : Nat) : Sound Try.prog (.loop y167) (y16g ρ k 0 fun st K => ev (y164 k) (y16g ρ k) 0 y167 st K) :=
  loop_ok (ev_sound (y165 k) y167 0 (lpgood_none (by kernel_rfl))) y16a y16b k (g := fun p v next K => I_LateOf_g0 k p v next (fun x => K (.exit 0) (y16f p x))) (dec_at y16e) (fun p v K K1 => y16h k p v K K1)
def y16j (a : Sched) : List Arg := [.agg [.int .i64 a.now, .int .i64 a.slack, .int .i64 a.age, .sl (.st .task) a.tasks, .int .i64 a.run, .int .i64 a.left, .int .i64 a.turns, .int .i64 a.next]]
def y16k (l : List Arg) : Option (Sched) := match l with
  | [.agg [.int .i64 b0_0, .int .i64 b0_1, .int .i64 b0_2, .sl (.st .task) b0_3, .int .i64 b0_4, .int .i64 b0_5, .int .i64 b0_6, .int .i64 b0_7]] => some (⟨b0_0, b0_1, b0_2, b0_3, b0_4, b0_5, b0_6, b0_7⟩ : Sched)
  | _ => none
def y16l (r : List Int) : Out := (.own 0, [.arr none (.int .i64) r])
def y16m (o : Out) : Option (List Int) := match o with
  | (.own 0, [.arr none (.int .i64) z1]) => some z1
  | _ => none
def y16n (k : Nat) : PG := fun _ l K => (y16k l).bind fun a => (I_LateOf k a).bind fun r => K (y16l r)
theorem y16o (k : Nat) (a : Sched) : ev (y164 k) (y16g (List Int) k) 0 y166 (st0 Try.f46 (y16j a)) (fin Try.prog Try.f46 (.own (.int .i64)) y16m) = I_LateOf k a := by kernel_rfl
theorem y16p (k : Nat) : PureOk Try.prog 46 (y16n k) :=
  pureOk_of_ev (y165 k) Try.func46 (by kernel_rfl) (by kernel_rfl) y16j y16k
    (fun l a h => by unfold y16k at h; split at h <;> first | (cases h; rfl) | cases h) (fun a => rfl) (lpgood_of (l := [(0, y167)]) (by kernel_rfl) ⟨y16i k, trivial⟩)
    (fun o r h => by unfold y16m at h; split at h <;> first | (cases h; rfl) | cases h) (y16o k)
def y16q (k : Nat) : Orc := pureOrc [.agg [(.int .i64), (.int .i64), (.int .i64), (.sl (.st .task)), (.int .i64), (.int .i64), (.int .i64), (.int .i64)]] (y16n k)
theorem y16r (k : Nat) : OrcOk Try.prog 46 (y16q k) := pureOrc_ok (y16p k)
noncomputable def y16s (k : Nat) : Env := { P := Try.prog, tt := tt, orc := fun g => cond (Nat.beq g 29) (yj k) (cond (Nat.beq g 33) (yqw k) (cond (Nat.beq g 42) (y162 k) (cond (Nat.beq g 43) (yhp k) (cond (Nat.beq g 44) (yci k) (cond (Nat.beq g 45) (o_L_at k) (cond (Nat.beq g 46) (y16q k) (noOrc))))))), fz := fun r => cond (Nat.beq r 11) [(false, 3, [3])] ([]) }
theorem y16t (k : Nat) : EnvOk (y16s k) := fun g => (orc_cond (yk k) (orc_cond (yqx k) (orc_cond (y163 k) (orc_cond (yhq k) (orc_cond (ycj k) (orc_cond (yr6 k) (orc_cond (y16r k) (noOrc_ok _ _))))))))
noncomputable def y16u : Code := (Try.f7.body).getD .skip
noncomputable def y16v : Code := ((loopsIn 0 y16u).getD 0 (0, .skip)).2
noncomputable def y16w : Code := ((loopsIn 0 y16v).getD 0 (0, .skip)).2
def y16x : List Nat := [0, 3, 5, 6, 7, 9, 10, 12]
def y16y : List (Where × Co) := []
def y16z : Ex → List Nat
  | .exit j => cond (Nat.beq j 2) [0, 3, 5, 6, 7, 9] []
  | .ret => [2]
  | .normal => []
def y170 : Ex → List (Where × Co)
  | .exit j => cond (Nat.beq j 2) [] []
  | .ret => []
  | .normal => []
def y171 (pv : (List Int × Int × List Task × Int × Int × Int × Int × Int × List Task × Int × Int × Int × Int × Int × Int × Int × Int × Int × Int × Int × List Task) × (Int)) : St := { slots := [(0, .r [] (.sl (.int .u8) pv.1.1)), (3, .ptr 0 0 0), (5, .r [] (.int .i64 pv.1.2.1)), (6, .r [] (.sl (.st .task) pv.1.2.2.1)), (7, .r [] (.int .i64 pv.1.2.2.2.1)), (9, .ptr 1 0 0), (10, .r [] (.int .i64 pv.1.2.2.2.2.1)), (12, .r [] (.int .i64 pv.2))], heap := [(0, .box [.r [] (.int .i64 pv.1.2.2.2.2.2.1), .r [] (.int .i64 pv.1.2.2.2.2.2.2.1), .r [] (.int .i64 pv.1.2.2.2.2.2.2.2.1), .r [] (.sl (.st .task) pv.1.2.2.2.2.2.2.2.2.1), .r [] (.int .i64 pv.1.2.2.2.2.2.2.2.2.2.1), .r [] (.int .i64 pv.1.2.2.2.2.2.2.2.2.2.2.1), .r [] (.int .i64 pv.1.2.2.2.2.2.2.2.2.2.2.2.1), .r [] (.int .i64 pv.1.2.2.2.2.2.2.2.2.2.2.2.2.1)]), (1, .box [.r [] (.int .i64 pv.1.2.2.2.2.2.2.2.2.2.2.2.2.2.1), .r [] (.int .i64 pv.1.2.2.2.2.2.2.2.2.2.2.2.2.2.2.1), .r [] (.int .i64 pv.1.2.2.2.2.2.2.2.2.2.2.2.2.2.2.2.1), .own 2, .r [] (.int .i64 pv.1.2.2.2.2.2.2.2.2.2.2.2.2.2.2.2.2.1), .r [] (.int .i64 pv.1.2.2.2.2.2.2.2.2.2.2.2.2.2.2.2.2.2.1), .r [] (.int .i64 pv.1.2.2.2.2.2.2.2.2.2.2.2.2.2.2.2.2.2.2.1), .r [] (.int .i64 pv.1.2.2.2.2.2.2.2.2.2.2.2.2.2.2.2.2.2.2.2.1)]), (2, .arr none (.st .task) pv.1.2.2.2.2.2.2.2.2.2.2.2.2.2.2.2.2.2.2.2.2)], nid := 3, n := 92, gh := [] }
def y172 (nf : NF) : Option ((List Int × Int × List Task × Int × Int × Int × Int × Int × List Task × Int × Int × Int × Int × Int × Int × Int × Int × Int × Int × Int × List Task) × (Int)) := match nf with
  | ([.r [] (.sl (.int .u8) w0), .ptr 0 0 0, .r [] (.int .i64 w1), .r [] (.sl (.st .task) w2), .r [] (.int .i64 w3), .ptr 1 0 0, .r [] (.int .i64 w4), .r [] (.int .i64 w5)], [.box [.r [] (.int .i64 w6), .r [] (.int .i64 w7), .r [] (.int .i64 w8), .r [] (.sl (.st .task) w9), .r [] (.int .i64 w10), .r [] (.int .i64 w11), .r [] (.int .i64 w12), .r [] (.int .i64 w13)], .box [.r [] (.int .i64 w14), .r [] (.int .i64 w15), .r [] (.int .i64 w16), .own 2, .r [] (.int .i64 w17), .r [] (.int .i64 w18), .r [] (.int .i64 w19), .r [] (.int .i64 w20)], .arr none (.st .task) w21], []) => some ((w0, w1, w2, w3, w4, w6, w7, w8, w9, w10, w11, w12, w13, w14, w15, w16, w17, w18, w19, w20, w21), w5)
  | _ => none
theorem y173 (nf : NF) (v : (List Int × Int × List Task × Int × Int × Int × Int × Int × List Task × Int × Int × Int × Int × Int × Int × Int × Int × Int × Int × Int × List Task) × (Int)) (h : y172 nf = some v) : denorm y16x 92 nf = y171 v := by
  unfold y172 at h
  split at h
  · cases h; rfl
  · cases h
def y174 (p : List Int × Int × List Task × Int × Int × Int × Int × Int × List Task × Int × Int × Int × Int × Int × Int × Int × Int × Int × Int × Int × List Task) (x : Unit) : St := { slots := [(0, .r [] (.sl (.int .u8) p.1)), (3, .ptr 0 0 0), (5, .r [] (.int .i64 p.2.1)), (6, .r [] (.sl (.st .task) p.2.2.1)), (7, .r [] (.int .i64 p.2.2.2.1)), (9, .ptr 1 0 0)], heap := [(0, .box [.r [] (.int .i64 p.2.2.2.2.2.1), .r [] (.int .i64 p.2.2.2.2.2.2.1), .r [] (.int .i64 p.2.2.2.2.2.2.2.1), .r [] (.sl (.st .task) p.2.2.2.2.2.2.2.2.1), .r [] (.int .i64 p.2.2.2.2.2.2.2.2.2.1), .r [] (.int .i64 p.2.2.2.2.2.2.2.2.2.2.1), .r [] (.int .i64 p.2.2.2.2.2.2.2.2.2.2.2.1), .r [] (.int .i64 p.2.2.2.2.2.2.2.2.2.2.2.2.1)]), (1, .box [.r [] (.int .i64 p.2.2.2.2.2.2.2.2.2.2.2.2.2.1), .r [] (.int .i64 p.2.2.2.2.2.2.2.2.2.2.2.2.2.2.1), .r [] (.int .i64 p.2.2.2.2.2.2.2.2.2.2.2.2.2.2.2.1), .own 2, .r [] (.int .i64 p.2.2.2.2.2.2.2.2.2.2.2.2.2.2.2.2.1), .r [] (.int .i64 p.2.2.2.2.2.2.2.2.2.2.2.2.2.2.2.2.2.1), .r [] (.int .i64 p.2.2.2.2.2.2.2.2.2.2.2.2.2.2.2.2.2.2.1), .r [] (.int .i64 p.2.2.2.2.2.2.2.2.2.2.2.2.2.2.2.2.2.2.2.1)]), (2, .arr none (.st .task) p.2.2.2.2.2.2.2.2.2.2.2.2.2.2.2.2.2.2.2.2)], nid := 3, n := 92, gh := [] }
def y175 (p : List Int × Int × List Task × Int × Int × Int × Int × Int × List Task × Int × Int × Int × Int × Int × Int × Int × Int × Int × Int × Int × List Task) (x : Bool) : St := { slots := [(2, .r [] (.bool x))], heap := [], nid := 0, n := 92, gh := [] }
def y176 : List Nat := [0, 3, 5, 6, 7]
def y177 : List (Where × Co) := [((.pbox 3 3), (.ro (.st .task)))]
def y178 : Ex → List Nat
  | .exit j => cond (Nat.beq j 0) [] []
  | .ret => [2]
  | .normal => []
def y179 : Ex → List (Where × Co)
  | .exit j => cond (Nat.beq j 0) [] []
  | .ret => []
  | .normal => []
def y17a (pv : (List Int × List Task) × (Int × Int × Int × Int × Int × List Task × Int × Int × Int × Int)) : St := { slots := [(0, .r [] (.sl (.int .u8) pv.1.1)), (3, .ptr 0 0 0), (5, .r [] (.int .i64 pv.2.1)), (6, .r [] (.sl (.st .task) pv.1.2)), (7, .r [] (.int .i64 pv.2.2.1))], heap := [(0, .box [.r [] (.int .i64 pv.2.2.2.1), .r [] (.int .i64 pv.2.2.2.2.1), .r [] (.int .i64 pv.2.2.2.2.2.1), .r [] (.sl (.st .task) pv.2.2.2.2.2.2.1), .r [] (.int .i64 pv.2.2.2.2.2.2.2.1), .r [] (.int .i64 pv.2.2.2.2.2.2.2.2.1), .r [] (.int .i64 pv.2.2.2.2.2.2.2.2.2.1), .r [] (.int .i64 pv.2.2.2.2.2.2.2.2.2.2)])], nid := 1, n := 92, gh := [] }
def y17b (nf : NF) : Option ((List Int × List Task) × (Int × Int × Int × Int × Int × List Task × Int × Int × Int × Int)) := match nf with
  | ([.r [] (.sl (.int .u8) w0), .ptr 0 0 0, .r [] (.int .i64 w1), .r [] (.sl (.st .task) w2), .r [] (.int .i64 w3)], [.box [.r [] (.int .i64 w4), .r [] (.int .i64 w5), .r [] (.int .i64 w6), .r [] (.sl (.st .task) w7), .r [] (.int .i64 w8), .r [] (.int .i64 w9), .r [] (.int .i64 w10), .r [] (.int .i64 w11)]], []) => some ((w0, w2), (w1, w3, w4, w5, w6, w7, w8, w9, w10, w11))
  | _ => none
theorem y17c (nf : NF) (v : (List Int × List Task) × (Int × Int × Int × Int × Int × List Task × Int × Int × Int × Int)) (h : y17b nf = some v) : denorm y176 92 nf = y17a v := by
  unfold y17b at h
  split at h
  · cases h; rfl
  · cases h
def y17d (p : List Int × List Task) (x : Unit) : St := { slots := [], heap := [], nid := 0, n := 92, gh := [] }
def y17e (p : List Int × List Task) (x : Bool) : St := { slots := [(2, .r [] (.bool x))], heap := [], nid := 0, n := 92, gh := [] }
def y17f (ρ : Type) (k : Nat) : Nat → Ev ρ → Ev ρ := fun id f => cond (Nat.beq id 0) (loopOrc y176 y177 (fun n nf => cond (Nat.beq n 92) (y17b nf) none) fun pv K => iter (fun v next => L_FnFits_g0 k pv.1 v next (fun x => K (.exit 0) (y17d pv.1 x)) (fun x => K .ret (y17e pv.1 x))) k pv.2) ((fun id f => cond (Nat.beq id 2) (loopOrc y16x y16y (fun n nf => cond (Nat.beq n 92) (y172 nf) none) fun pv K => iter (fun v next => L_FnFits_g1 k pv.1 v next (fun x => K (.exit 2) (y174 pv.1 x)) (fun x => K .ret (y175 pv.1 x))) k pv.2) ((fun _ _ _ _ => none) id f)) id f)
theorem y17g {ρ : Type} (k : Nat) (p : List Int × Int × List Task × Int × Int × Int × Int × Int × List Task × Int × Int × Int × Int × Int × Int × Int × Int × Int × Int × Int × List Task) (v : Int) (K K1 : Ex → St → Option ρ) : ev (y16s k) (y17f ρ k) 2 y16w (y171 (p, v)) (fun e st' => match e with
    | .normal => (normC y16x y16y st').bind fun nf => K1 .normal (denorm y16x st'.n nf)
    | e => (normC (y16z e) (y170 e) st').bind fun nf => K e (denorm (y16z e) st'.n nf)) = L_FnFits_g1 k p v (fun v' => K1 .normal (y171 (p, v'))) (fun x => K (.exit 2) (y174 p x)) (fun x => K .ret (y175 p x)) := by kernel_rfl
theorem y17h {ρ : Type} (k : Nat) : Sound Try.prog (.loop y16w) (y17f ρ k 2 fun st K => ev (y16s k) (y17f ρ k) 2 y16w st K) :=
  loop_ok (ev_sound (y16t k) y16w 2 (lpgood_none (by kernel_rfl))) y16z y170 k (g := fun p v next K => L_FnFits_g1 k p v next (fun x => K (.exit 2) (y174 p x)) (fun x => K .ret (y175 p x))) (dec_at y173) (fun p v K K1 => y17g k p v K K1)
theorem y17i {ρ : Type} (k : Nat) (p : List Int × List Task) (v : Int × Int × Int × Int × Int × List Task × Int × Int × Int × Int) (K K1 : Ex → St → Option ρ) : ev (y16s k) (y17f ρ k) 0 y16v (y17a (p, v)) (fun e st' => match e with
    | .normal => (normC y176 y177 st').bind fun nf => K1 .normal (denorm y176 st'.n nf)
    | e => (normC (y178 e) (y179 e) st').bind fun nf => K e (denorm (y178 e) st'.n nf)) = L_FnFits_g0 k p v (fun v' => K1 .normal (y17a (p, v'))) (fun x => K (.exit 0) (y17d p x)) (fun x => K .ret (y17e p x)) := by kernel_rfl
theorem y17j {ρ : Type} (k : Nat) : Sound Try.prog (.loop y16v) (y17f ρ k 0 fun st K => ev (y16s k) (y17f ρ k) 0 y16v st K) :=
  loop_ok (ev_sound (y16t k) y16v 0 (lpgood_of (l := [(2, y16w)]) (by kernel_rfl) ⟨y17h k, trivial⟩)) y178 y179 k (g := fun p v next K => L_FnFits_g0 k p v next (fun x => K (.exit 0) (y17d p x)) (fun x => K .ret (y17e p x))) (dec_at y17c) (fun p v K K1 => y17i k p v K K1)
def y17k (a : List Int) : List Arg := [.one (.sl (.int .u8) a)]
def y17l (l : List Arg) : Option (List Int) := match l with
  | [.one (.sl (.int .u8) b0)] => some b0
  | _ => none
def y17m (r : Bool) : Out := (.r [] (.bool r), [])
def y17n (o : Out) : Option (Bool) := match o with
  | (.r [] (.bool z1), []) => some z1
  | _ => none
def y17o (k : Nat) : PG := fun _ l K => (y17l l).bind fun a => (L_FnFits k a).bind fun r => K (y17m r)
theorem y17p (k : Nat) (a : List Int) : ev (y16s k) (y17f (Bool) k) 0 y16u (st0 Try.f7 (y17k a)) (fin Try.prog Try.f7 (.sc) y17n) = L_FnFits k a := by kernel_rfl
theorem y17q (k : Nat) : PureOk Try.prog 7 (y17o k) :=
  pureOk_of_ev (y16t k) Try.func7 (by kernel_rfl) (by kernel_rfl) y17k y17l
    (fun l a h => by unfold y17l at h; split at h <;> first | (cases h; rfl) | cases h) (fun a => rfl) (lpgood_of (l := [(0, y16v)]) (by kernel_rfl) ⟨y17j k, trivial⟩)
    (fun o r h => by unfold y17n at h; split at h <;> first | (cases h; rfl) | cases h) (y17p k)
end
end Go.Proofs.Ev
