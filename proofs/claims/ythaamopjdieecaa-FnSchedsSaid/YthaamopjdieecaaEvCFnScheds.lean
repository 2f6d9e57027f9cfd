/- Text of this claim. -/
import Derived.Test.YthaamopjdieecaaEvK6
import Derived.Test.YthaamopjdieecaaProg
import Derived.Test.YthaamopjdieecaaEvD1
import Derived.Test.YthaamopjdieecaaEvD11
import Derived.Test.YthaamopjdieecaaEvD13
import Derived.Test.YthaamopjdieecaaEvD3
import Derived.Test.YthaamopjdieecaaEvD6
import Derived.Test.YthaamopjdieecaaEvD7
import Derived.Test.YthaamopjdieecaaEvD8
import Derived.Test.YthaamopjdieecaaEvXCFnScheds
set_option linter.unusedVariables false
set_option linter.unusedSimpArgs false
set_option linter.unusedVariables false
set_option linter.unusedSimpArgs false
set_option maxRecDepth 100000
set_option maxHeartbeats 4000000
namespace Go.Proofs.Ev
noncomputable section
variable [Tok]
set_option linter.unusedSectionVars false
theorem ynh {ρ : Type} (k : Nat) : Sound Try.prog (.loop yn6) (ynf ρ k 0 fun st K => ev (yn3 k) (ynf ρ k) 0 yn6 st K) :=
  loop_ok (ev_sound (yn4 k) yn6 0 (lpgood_none (by kernel_rfl))) yn9 yna k (g := fun p v next K => I_Sched_demand_g0 k p v next (fun x => K (.exit 0) (yne p x))) (dec_at ynd) (fun p v K K1 => yng k p v K K1)
def yni (a : Sched × Int) : List Arg := [.agg [.int .i64 a.1.now, .int .i64 a.1.slack, .int .i64 a.1.age, .sl (.st .task) a.1.tasks, .int .i64 a.1.run, .int .i64 a.1.left, .int .i64 a.1.turns, .int .i64 a.1.next], .one (.int .i64 a.2)]
def ynj (l : List Arg) : Option (Sched × Int) := match l with
  | [.agg [.int .i64 b0_0, .int .i64 b0_1, .int .i64 b0_2, .sl (.st .task) b0_3, .int .i64 b0_4, .int .i64 b0_5, .int .i64 b0_6, .int .i64 b0_7], .one (.int .i64 b1)] => some ((⟨b0_0, b0_1, b0_2, b0_3, b0_4, b0_5, b0_6, b0_7⟩ : Sched), b1)
  | _ => none
def ynk (r : Int) : Out := (.r [] (.int .i64 r), [])
def ynl (o : Out) : Option (Int) := match o with
  | (.r [] (.int .i64 z1), []) => some z1
  | _ => none
def ynm (k : Nat) : PG := fun _ l K => (ynj l).bind fun a => (I_Sched_demand k a.1 a.2).bind fun r => K (ynk r)
theorem ynn (k : Nat) (a : Sched × Int) : ev (yn3 k) (ynf (Int) k) 0 yn5 (st0 Try.f121 (yni a)) (fin Try.prog Try.f121 (.sc) ynl) = I_Sched_demand k a.1 a.2 := by kernel_rfl
theorem yno (k : Nat) : PureOk Try.prog 121 (ynm k) :=
  pureOk_of_ev (yn4 k) Try.func121 (by kernel_rfl) (by kernel_rfl) yni ynj
    (fun l a h => by unfold ynj at h; split at h <;> first | (cases h; rfl) | cases h) (fun a => rfl) (lpgood_of (l := [(0, yn6)]) (by kernel_rfl) ⟨ynh k, trivial⟩)
    (fun o r h => by unfold ynl at h; split at h <;> first | (cases h; rfl) | cases h) (ynn k)
def ynp (k : Nat) : Orc := pureOrc [.agg [(.int .i64), (.int .i64), (.int .i64), (.sl (.st .task)), (.int .i64), (.int .i64), (.int .i64), (.int .i64)], .one (.int .i64)] (ynm k)
theorem ynq (k : Nat) : OrcOk Try.prog 121 (ynp k) := pureOrc_ok (yno k)
noncomputable def ynr (k : Nat) : Env := { P := Try.prog, tt := tt, orc := fun g => cond (Nat.beq g 134) (yjw k) (noOrc) }
theorem yns (k : Nat) : EnvOk (ynr k) := fun g => (orc_cond (yjx k) (noOrc_ok _ _))
noncomputable def ynt : Code := (Try.f122.body).getD .skip
def ynu (ρ : Type) (k : Nat) : Nat → Ev ρ → Ev ρ := fun _ _ _ _ => none
def ynv (a : Sched × Int) : List Arg := [.agg [.int .i64 a.1.now, .int .i64 a.1.slack, .int .i64 a.1.age, .sl (.st .task) a.1.tasks, .int .i64 a.1.run, .int .i64 a.1.left, .int .i64 a.1.turns, .int .i64 a.1.next], .one (.int .i64 a.2)]
def ynw (l : List Arg) : Option (Sched × Int) := match l with
  | [.agg [.int .i64 b0_0, .int .i64 b0_1, .int .i64 b0_2, .sl (.st .task) b0_3, .int .i64 b0_4, .int .i64 b0_5, .int .i64 b0_6, .int .i64 b0_7], .one (.int .i64 b1)] => some ((⟨b0_0, b0_1, b0_2, b0_3, b0_4, b0_5, b0_6, b0_7⟩ : Sched), b1)
  | _ => none
def ynx (r : Int) : Out := (.r [] (.int .i64 r), [])
def yny (o : Out) : Option (Int) := match o with
  | (.r [] (.int .i64 z1), []) => some z1
  | _ => none
def ynz (k : Nat) : PG := fun _ l K => (ynw l).bind fun a => (I_Sched_block k a.1 a.2).bind fun r => K (ynx r)
theorem yo0 (k : Nat) (a : Sched × Int) : ev (ynr k) (ynu (Int) k) 0 ynt (st0 Try.f122 (ynv a)) (fin Try.prog Try.f122 (.sc) yny) = I_Sched_block k a.1 a.2 := by kernel_rfl
theorem yo1 (k : Nat) : PureOk Try.prog 122 (ynz k) :=
  pureOk_of_ev (yns k) Try.func122 (by kernel_rfl) (by kernel_rfl) ynv ynw
    (fun l a h => by unfold ynw at h; split at h <;> first | (cases h; rfl) | cases h) (fun a => rfl) (lpgood_none (by kernel_rfl))
    (fun o r h => by unfold yny at h; split at h <;> first | (cases h; rfl) | cases h) (yo0 k)
def yo2 (k : Nat) : Orc := pureOrc [.agg [(.int .i64), (.int .i64), (.int .i64), (.sl (.st .task)), (.int .i64), (.int .i64), (.int .i64), (.int .i64)], .one (.int .i64)] (ynz k)
theorem yo3 (k : Nat) : OrcOk Try.prog 122 (yo2 k) := pureOrc_ok (yo1 k)
noncomputable def yo4 (k : Nat) : Env := { P := Try.prog, tt := tt, orc := fun g => cond (Nat.beq g 120) (ym0 k) (cond (Nat.beq g 121) (ynp k) (cond (Nat.beq g 122) (yo2 k) (noOrc))) }
theorem yo5 (k : Nat) : EnvOk (yo4 k) := fun g => (orc_cond (ym1 k) (orc_cond (ynq k) (orc_cond (yo3 k) (noOrc_ok _ _))))
noncomputable def yo6 : Code := (Try.f119.body).getD .skip
def yo7 (ρ : Type) (k : Nat) : Nat → Ev ρ → Ev ρ := fun _ _ _ _ => none
def yo8 (a : Task × Sched) : List SV := [.agg [.r [] (.int .i64 a.1.id), .r [] (.sl (.int .i64) a.1.costs), .r [] (.int .i64 a.1.at_), .r [] (.int .i64 a.1.due), .r [] (.int .i64 a.1.born)], .ptr 0 0 0]
def yo9 (a : Task × Sched) : List Blk := [.box [.r [] (.int .i64 a.2.now), .r [] (.int .i64 a.2.slack), .r [] (.int .i64 a.2.age), .r [] (.sl (.st .task) a.2.tasks), .r [] (.int .i64 a.2.run), .r [] (.int .i64 a.2.left), .r [] (.int .i64 a.2.turns), .r [] (.int .i64 a.2.next)]]
def yoa (l : List SV) (b : List Blk) : Option (Task × Sched) := match l, b with
  | [.agg [.r [] (.int .i64 w0), .r [] (.sl (.int .i64) w1), .r [] (.int .i64 w2), .r [] (.int .i64 w3), .r [] (.int .i64 w4)], .ptr 0 0 0], [.box [.r [] (.int .i64 w5), .r [] (.int .i64 w6), .r [] (.int .i64 w7), .r [] (.sl (.st .task) w8), .r [] (.int .i64 w9), .r [] (.int .i64 w10), .r [] (.int .i64 w11), .r [] (.int .i64 w12)]] => some ((⟨w0, w1, w2, w3, w4⟩ : Task), (⟨w5, w6, w7, w8, w9, w10, w11, w12⟩ : Sched))
  | _, _ => none
def yob (a : Task × Sched) (r : Bool) : MOut := ⟨.r [] (.bool r), [some (.box [.r [] (.int .i64 a.2.now), .r [] (.int .i64 a.2.slack), .r [] (.int .i64 a.2.age), .r [] (.sl (.st .task) a.2.tasks), .r [] (.int .i64 a.2.run), .r [] (.int .i64 a.2.left), .r [] (.int .i64 a.2.turns), .r [] (.int .i64 a.2.next)])], []⟩
def yoc (a : Task × Sched) (o : MOut) : Option (Bool) := match o with
  | ⟨.r [] (.bool z1), [some (.box [.r [] (.int .i64 z2), .r [] (.int .i64 z3), .r [] (.int .i64 z4), .r [] (.sl (.st .task) z5), .r [] (.int .i64 z6), .r [] (.int .i64 z7), .r [] (.int .i64 z8), .r [] (.int .i64 z9)])], []⟩ => cond (@sameL Int _ z2 a.2.now) (cond (@sameL Int _ z3 a.2.slack) (cond (@sameL Int _ z4 a.2.age) (cond (@sameL (List Task) _ z5 a.2.tasks) (cond (@sameL Int _ z6 a.2.run) (cond (@sameL Int _ z7 a.2.left) (cond (@sameL Int _ z8 a.2.turns) (cond (@sameL Int _ z9 a.2.next) (some z1) none) none) none) none) none) none) none) none
  | _ => none
def yod (k : Nat) : MG := fun _ l b K => (yoa l b).bind fun a => (I_FitsIn_c1_m k a.1 a.2).bind fun r => K (yob a r)
theorem yoe (k : Nat) (a : Task × Sched) : ev (yo4 k) (yo7 (Bool) k) 0 yo6 (st0M Try.f119 (yo8 a) (yo9 a)) (finM Try.prog Try.f119 (.sc) [.box [.sc, .sc, .sc, .ro (.st .task), .sc, .sc, .sc, .sc]] (yoc a)) = I_FitsIn_c1_m k a.1 a.2 := by kernel_rfl
theorem yof (k : Nat) : MutOk Try.prog 119 (yod k) :=
  mutOk_of_ev (yo5 k) Try.func119 (by kernel_rfl) (by kernel_rfl) yo8 yo9 yoa
    (fun l b a h => by unfold yoa at h; split at h <;> first | (cases h; exact ⟨rfl, rfl⟩) | cases h) (fun a => rfl) (lpgood_none (by kernel_rfl)) (fun a r => rfl)
    (fun a o r h => by unfold yoc at h; split at h <;> first | (obtain ⟨e0, e1, e2, e3, e4, e5, e6, e7, hq⟩ := dec_chk8 h; clear h; subst e0; subst e1; subst e2; subst e3; subst e4; subst e5; subst e6; subst e7; have h := hq; clear hq; cases h; rfl) | cases h) (yoe k)
def yog (k : Nat) : Orc := mutOrc [.agg [(.int .i64), (.sl (.int .i64)), (.int .i64), (.int .i64), (.int .i64)], .keep] (yod k)
theorem yoh (k : Nat) : OrcOk Try.prog 119 (yog k) := mutOrc_ok (yof k)
noncomputable def yoi (k : Nat) : Env := { P := Try.prog, tt := tt, orc := fun g => cond (Nat.beq g 119) (yog k) (noOrc), wr := fun g => mem g [119], wt := true }
theorem yoj (k : Nat) : EnvOk (yoi k) := fun g => (orc_cond (yoh k) (noOrc_ok _ _))
noncomputable def yok : Code := (Try.f192.body).getD .skip
noncomputable def yol : Code := ((loopsIn 0 yok).getD 0 (0, .skip)).2
def yom : List Nat := [0, 1, 7, 8]
def yon : List (Where × Co) := []
def yoo : Ex → List Nat
  | .exit j => cond (Nat.beq j 0) [] []
  | .ret => [4]
  | .normal => []
def yop : Ex → List (Where × Co)
  | .exit j => cond (Nat.beq j 0) [] []
  | .ret => []
  | .normal => []
def yoq (pv : (List Task × Int × Int × Int × Int × List Task × Int × Int × Int × Int) × (Int)) : St := { slots := [(0, .r [] (.sl (.st .task) pv.1.1)), (1, .fn (.func 119) [] [.ptr 0 0 0]), (7, .r [] (.int .i64 pv.1.2.1)), (8, .r [] (.int .i64 pv.2))], heap := [(0, .box [.r [] (.int .i64 pv.1.2.2.1), .r [] (.int .i64 pv.1.2.2.2.1), .r [] (.int .i64 pv.1.2.2.2.2.1), .r [] (.sl (.st .task) pv.1.2.2.2.2.2.1), .r [] (.int .i64 pv.1.2.2.2.2.2.2.1), .r [] (.int .i64 pv.1.2.2.2.2.2.2.2.1), .r [] (.int .i64 pv.1.2.2.2.2.2.2.2.2.1), .r [] (.int .i64 pv.1.2.2.2.2.2.2.2.2.2)])], nid := 1, n := 19, gh := [some 0] }
def yor (nf : NF) : Option ((List Task × Int × Int × Int × Int × List Task × Int × Int × Int × Int) × (Int)) := match nf with
  | ([.r [] (.sl (.st .task) w0), .fn (.func 119) [] [.ptr 0 0 0], .r [] (.int .i64 w1), .r [] (.int .i64 w2)], [.box [.r [] (.int .i64 w3), .r [] (.int .i64 w4), .r [] (.int .i64 w5), .r [] (.sl (.st .task) w6), .r [] (.int .i64 w7), .r [] (.int .i64 w8), .r [] (.int .i64 w9), .r [] (.int .i64 w10)]], [some 0]) => some ((w0, w1, w3, w4, w5, w6, w7, w8, w9, w10), w2)
  | _ => none
theorem yos (nf : NF) (v : (List Task × Int × Int × Int × Int × List Task × Int × Int × Int × Int) × (Int)) (h : yor nf = some v) : denorm yom 19 nf = yoq v := by
  unfold yor at h
  split at h
  · cases h; rfl
  · cases h
def yot (p : List Task × Int × Int × Int × Int × List Task × Int × Int × Int × Int) (x : Unit) : St := { slots := [], heap := [(0, .box [.r [] (.int .i64 p.2.2.1), .r [] (.int .i64 p.2.2.2.1), .r [] (.int .i64 p.2.2.2.2.1), .r [] (.sl (.st .task) p.2.2.2.2.2.1), .r [] (.int .i64 p.2.2.2.2.2.2.1), .r [] (.int .i64 p.2.2.2.2.2.2.2.1), .r [] (.int .i64 p.2.2.2.2.2.2.2.2.1), .r [] (.int .i64 p.2.2.2.2.2.2.2.2.2)])], nid := 1, n := 19, gh := [some 0] }
def you (p : List Task × Int × Int × Int × Int × List Task × Int × Int × Int × Int) (x : Int) : St := { slots := [(4, .r [] (.int .i64 x))], heap := [(0, .box [.r [] (.int .i64 p.2.2.1), .r [] (.int .i64 p.2.2.2.1), .r [] (.int .i64 p.2.2.2.2.1), .r [] (.sl (.st .task) p.2.2.2.2.2.1), .r [] (.int .i64 p.2.2.2.2.2.2.1), .r [] (.int .i64 p.2.2.2.2.2.2.2.1), .r [] (.int .i64 p.2.2.2.2.2.2.2.2.1), .r [] (.int .i64 p.2.2.2.2.2.2.2.2.2)])], nid := 1, n := 19, gh := [some 0] }
def yov (ρ : Type) (k : Nat) : Nat → Ev ρ → Ev ρ := fun id f => cond (Nat.beq id 0) (loopOrc yom yon (fun n nf => cond (Nat.beq n 19) (yor nf) none) fun pv K => iter (fun v next => slices_IndexFunc_lI_Task_I_Task_m2_g0 k pv.1 v next (fun x => K (.exit 0) (yot pv.1 x)) (fun x => K .ret (you pv.1 x))) k pv.2) ((fun _ _ _ _ => none) id f)
theorem yow {ρ : Type} (k : Nat) (p : List Task × Int × Int × Int × Int × List Task × Int × Int × Int × Int) (v : Int) (K K1 : Ex → St → Option ρ) : ev (yoi k) (yov ρ k) 0 yol (yoq (p, v)) (fun e st' => match e with
    | .normal => (normC yom yon st').bind fun nf => K1 .normal (denorm yom st'.n nf)
    | e => (normC (yoo e) (yop e) st').bind fun nf => K e (denorm (yoo e) st'.n nf)) = slices_IndexFunc_lI_Task_I_Task_m2_g0 k p v (fun v' => K1 .normal (yoq (p, v'))) (fun x => K (.exit 0) (yot p x)) (fun x => K .ret (you p x)) := by kernel_rfl
theorem yox {ρ : Type} (k : Nat) : Sound Try.prog (.loop yol) (yov ρ k 0 fun st K => ev (yoi k) (yov ρ k) 0 yol st K) :=
  loop_ok (ev_sound (yoj k) yol 0 (lpgood_none (by kernel_rfl))) yoo yop k (g := fun p v next K => slices_IndexFunc_lI_Task_I_Task_m2_g0 k p v next (fun x => K (.exit 0) (yot p x)) (fun x => K .ret (you p x))) (dec_at yos) (fun p v K K1 => yow k p v K K1)
def yoy (a : List Task × Sched) : List SV := [.r [] (.sl (.st .task) a.1), .fn (.func 119) [] [.ptr 0 0 0]]
def yoz (a : List Task × Sched) : List Blk := [.box [.r [] (.int .i64 a.2.now), .r [] (.int .i64 a.2.slack), .r [] (.int .i64 a.2.age), .r [] (.sl (.st .task) a.2.tasks), .r [] (.int .i64 a.2.run), .r [] (.int .i64 a.2.left), .r [] (.int .i64 a.2.turns), .r [] (.int .i64 a.2.next)]]
def yp0 (l : List SV) (b : List Blk) : Option (List Task × Sched) := match l, b with
  | [.r [] (.sl (.st .task) w0), .fn (.func 119) [] [.ptr 0 0 0]], [.box [.r [] (.int .i64 w1), .r [] (.int .i64 w2), .r [] (.int .i64 w3), .r [] (.sl (.st .task) w4), .r [] (.int .i64 w5), .r [] (.int .i64 w6), .r [] (.int .i64 w7), .r [] (.int .i64 w8)]] => some (w0, (⟨w1, w2, w3, w4, w5, w6, w7, w8⟩ : Sched))
  | _, _ => none
def yp1 (a : List Task × Sched) (r : Int) : MOut := ⟨.r [] (.int .i64 r), [some (.box [.r [] (.int .i64 a.2.now), .r [] (.int .i64 a.2.slack), .r [] (.int .i64 a.2.age), .r [] (.sl (.st .task) a.2.tasks), .r [] (.int .i64 a.2.run), .r [] (.int .i64 a.2.left), .r [] (.int .i64 a.2.turns), .r [] (.int .i64 a.2.next)])], []⟩
def yp2 (a : List Task × Sched) (o : MOut) : Option (Int) := match o with
  | ⟨.r [] (.int .i64 z1), [some (.box [.r [] (.int .i64 z2), .r [] (.int .i64 z3), .r [] (.int .i64 z4), .r [] (.sl (.st .task) z5), .r [] (.int .i64 z6), .r [] (.int .i64 z7), .r [] (.int .i64 z8), .r [] (.int .i64 z9)])], []⟩ => cond (@sameL Int _ z2 a.2.now) (cond (@sameL Int _ z3 a.2.slack) (cond (@sameL Int _ z4 a.2.age) (cond (@sameL (List Task) _ z5 a.2.tasks) (cond (@sameL Int _ z6 a.2.run) (cond (@sameL Int _ z7 a.2.left) (cond (@sameL Int _ z8 a.2.turns) (cond (@sameL Int _ z9 a.2.next) (some z1) none) none) none) none) none) none) none) none
  | _ => none
def yp3 (k : Nat) : MG := fun _ l b K => (yp0 l b).bind fun a => (slices_IndexFunc_lI_Task_I_Task_m2 k a.1 a.2).bind fun r => K (yp1 a r)
theorem yp4 (k : Nat) (a : List Task × Sched) : ev (yoi k) (yov (Int) k) 0 yok (st0M Try.f192 (yoy a) (yoz a)) (finM Try.prog Try.f192 (.sc) [.box [.sc, .sc, .sc, .ro (.st .task), .sc, .sc, .sc, .sc]] (yp2 a)) = slices_IndexFunc_lI_Task_I_Task_m2 k a.1 a.2 := by kernel_rfl
theorem yp5 (k : Nat) : MutOk Try.prog 192 (yp3 k) :=
  mutOk_of_ev (yoj k) Try.func192 (by kernel_rfl) (by kernel_rfl) yoy yoz yp0
    (fun l b a h => by unfold yp0 at h; split at h <;> first | (cases h; exact ⟨rfl, rfl⟩) | cases h) (fun a => rfl) (lpgood_of (l := [(0, yol)]) (by kernel_rfl) ⟨yox k, trivial⟩) (fun a r => rfl)
    (fun a o r h => by unfold yp2 at h; split at h <;> first | (obtain ⟨e0, e1, e2, e3, e4, e5, e6, e7, hq⟩ := dec_chk8 h; clear h; subst e0; subst e1; subst e2; subst e3; subst e4; subst e5; subst e6; subst e7; have h := hq; clear hq; cases h; rfl) | cases h) (yp4 k)
def yp6 (k : Nat) : Orc := mutOrc [.one (.sl (.st .task)), .keep] (yp3 k)
theorem yp7 (k : Nat) : OrcOk Try.prog 192 (yp6 k) := mutOrc_ok (yp5 k)
noncomputable def yp8 (k : Nat) : Env := { P := Try.prog, tt := tt, orc := fun g => cond (Nat.beq g 192) (yp6 k) (noOrc), wr := fun g => mem g [192], wt := true }
theorem yp9 (k : Nat) : EnvOk (yp8 k) := fun g => (orc_cond (yp7 k) (noOrc_ok _ _))
noncomputable def ypa : Code := (Try.f118.body).getD .skip
def ypb (ρ : Type) (k : Nat) : Nat → Ev ρ → Ev ρ := fun _ _ _ _ => none
def ypc (a : List Task × Sched) : List SV := [.r [] (.sl (.st .task) a.1), .fn (.func 119) [] [.ptr 0 0 0]]
def ypd (a : List Task × Sched) : List Blk := [.box [.r [] (.int .i64 a.2.now), .r [] (.int .i64 a.2.slack), .r [] (.int .i64 a.2.age), .r [] (.sl (.st .task) a.2.tasks), .r [] (.int .i64 a.2.run), .r [] (.int .i64 a.2.left), .r [] (.int .i64 a.2.turns), .r [] (.int .i64 a.2.next)]]
def ype (l : List SV) (b : List Blk) : Option (List Task × Sched) := match l, b with
  | [.r [] (.sl (.st .task) w0), .fn (.func 119) [] [.ptr 0 0 0]], [.box [.r [] (.int .i64 w1), .r [] (.int .i64 w2), .r [] (.int .i64 w3), .r [] (.sl (.st .task) w4), .r [] (.int .i64 w5), .r [] (.int .i64 w6), .r [] (.int .i64 w7), .r [] (.int .i64 w8)]] => some (w0, (⟨w1, w2, w3, w4, w5, w6, w7, w8⟩ : Sched))
  | _, _ => none
def ypf (a : List Task × Sched) (r : Bool) : MOut := ⟨.r [] (.bool r), [some (.box [.r [] (.int .i64 a.2.now), .r [] (.int .i64 a.2.slack), .r [] (.int .i64 a.2.age), .r [] (.sl (.st .task) a.2.tasks), .r [] (.int .i64 a.2.run), .r [] (.int .i64 a.2.left), .r [] (.int .i64 a.2.turns), .r [] (.int .i64 a.2.next)])], []⟩
def ypg (a : List Task × Sched) (o : MOut) : Option (Bool) := match o with
  | ⟨.r [] (.bool z1), [some (.box [.r [] (.int .i64 z2), .r [] (.int .i64 z3), .r [] (.int .i64 z4), .r [] (.sl (.st .task) z5), .r [] (.int .i64 z6), .r [] (.int .i64 z7), .r [] (.int .i64 z8), .r [] (.int .i64 z9)])], []⟩ => cond (@sameL Int _ z2 a.2.now) (cond (@sameL Int _ z3 a.2.slack) (cond (@sameL Int _ z4 a.2.age) (cond (@sameL (List Task) _ z5 a.2.tasks) (cond (@sameL Int _ z6 a.2.run) (cond (@sameL Int _ z7 a.2.left) (cond (@sameL Int _ z8 a.2.turns) (cond (@sameL Int _ z9 a.2.next) (some z1) none) none) none) none) none) none) none) none
  | _ => none
def yph (k : Nat) : MG := fun _ l b K => (ype l b).bind fun a => (slices_ContainsFunc_lI_Task_I_Task_m k a.1 a.2).bind fun r => K (ypf a r)
theorem ypi (k : Nat) (a : List Task × Sched) : ev (yp8 k) (ypb (Bool) k) 0 ypa (st0M Try.f118 (ypc a) (ypd a)) (finM Try.prog Try.f118 (.sc) [.box [.sc, .sc, .sc, .ro (.st .task), .sc, .sc, .sc, .sc]] (ypg a)) = slices_ContainsFunc_lI_Task_I_Task_m k a.1 a.2 := by kernel_rfl
theorem ypj (k : Nat) : MutOk Try.prog 118 (yph k) :=
  mutOk_of_ev (yp9 k) Try.func118 (by kernel_rfl) (by kernel_rfl) ypc ypd ype
    (fun l b a h => by unfold ype at h; split at h <;> first | (cases h; exact ⟨rfl, rfl⟩) | cases h) (fun a => rfl) (lpgood_none (by kernel_rfl)) (fun a r => rfl)
    (fun a o r h => by unfold ypg at h; split at h <;> first | (obtain ⟨e0, e1, e2, e3, e4, e5, e6, e7, hq⟩ := dec_chk8 h; clear h; subst e0; subst e1; subst e2; subst e3; subst e4; subst e5; subst e6; subst e7; have h := hq; clear hq; cases h; rfl) | cases h) (ypi k)
def ypk (k : Nat) : Orc := mutOrc [.one (.sl (.st .task)), .keep] (yph k)
theorem ypl (k : Nat) : OrcOk Try.prog 118 (ypk k) := mutOrc_ok (ypj k)
noncomputable def ypm (k : Nat) : Env := { P := Try.prog, tt := tt, orc := fun g => cond (Nat.beq g 40) (yk9 k) (cond (Nat.beq g 118) (ypk k) (noOrc)), wr := fun g => mem g [118], wt := true }
theorem ypn (k : Nat) : EnvOk (ypm k) := fun g => (orc_cond (yka k) (orc_cond (ypl k) (noOrc_ok _ _)))
noncomputable def ypo : Code := (Try.f33.body).getD .skip
def ypp (ρ : Type) (k : Nat) : Nat → Ev ρ → Ev ρ := fun _ _ _ _ => none
def ypq (a : Sched) : List Arg := [.agg [.int .i64 a.now, .int .i64 a.slack, .int .i64 a.age, .sl (.st .task) a.tasks, .int .i64 a.run, .int .i64 a.left, .int .i64 a.turns, .int .i64 a.next]]
def ypr (l : List Arg) : Option (Sched) := match l with
  | [.agg [.int .i64 b0_0, .int .i64 b0_1, .int .i64 b0_2, .sl (.st .task) b0_3, .int .i64 b0_4, .int .i64 b0_5, .int .i64 b0_6, .int .i64 b0_7]] => some (⟨b0_0, b0_1, b0_2, b0_3, b0_4, b0_5, b0_6, b0_7⟩ : Sched)
  | _ => none
def yps (r : Bool) : Out := (.r [] (.bool r), [])
def ypt (o : Out) : Option (Bool) := match o with
  | (.r [] (.bool z1), []) => some z1
  | _ => none
def ypu (k : Nat) : PG := fun _ l K => (ypr l).bind fun a => (I_FitsIn k a).bind fun r => K (yps r)
theorem ypv (k : Nat) (a : Sched) : ev (ypm k) (ypp (Bool) k) 0 ypo (st0 Try.f33 (ypq a)) (fin Try.prog Try.f33 (.sc) ypt) = I_FitsIn k a := by kernel_rfl
theorem ypw (k : Nat) : PureOk Try.prog 33 (ypu k) :=
  pureOk_of_ev (ypn k) Try.func33 (by kernel_rfl) (by kernel_rfl) ypq ypr
    (fun l a h => by unfold ypr at h; split at h <;> first | (cases h; rfl) | cases h) (fun a => rfl) (lpgood_none (by kernel_rfl))
    (fun o r h => by unfold ypt at h; split at h <;> first | (cases h; rfl) | cases h) (ypv k)
def ypx (k : Nat) : Orc := pureOrc [.agg [(.int .i64), (.int .i64), (.int .i64), (.sl (.st .task)), (.int .i64), (.int .i64), (.int .i64), (.int .i64)]] (ypu k)
theorem ypy (k : Nat) : OrcOk Try.prog 33 (ypx k) := pureOrc_ok (ypw k)
noncomputable def ypz (k : Nat) : Env := { P := Try.prog, tt := tt, orc := fun g => cond (Nat.beq g 33) (ypx k) (cond (Nat.beq g 40) (yk9 k) (cond (Nat.beq g 115) (ykz k) (cond (Nat.beq g 116) (yln k) (cond (Nat.beq g 117) (yhq k) (noOrc))))) }
theorem yq0 (k : Nat) : EnvOk (ypz k) := fun g => (orc_cond (ypy k) (orc_cond (yka k) (orc_cond (yl0 k) (orc_cond (ylo k) (orc_cond (yhr k) (noOrc_ok _ _))))))
noncomputable def yq1 : Code := (Try.f32.body).getD .skip
def yq2 (ρ : Type) (k : Nat) : Nat → Ev ρ → Ev ρ := fun _ _ _ _ => none
def yq3 (a : Sched × List Int × Int) : List Arg := [.agg [.int .i64 a.1.now, .int .i64 a.1.slack, .int .i64 a.1.age, .sl (.st .task) a.1.tasks, .int .i64 a.1.run, .int .i64 a.1.left, .int .i64 a.1.turns, .int .i64 a.1.next], .one (.sl (.int .i64) a.2.1), .one (.int .i64 a.2.2)]
def yq4 (l : List Arg) : Option (Sched × List Int × Int) := match l with
  | [.agg [.int .i64 b0_0, .int .i64 b0_1, .int .i64 b0_2, .sl (.st .task) b0_3, .int .i64 b0_4, .int .i64 b0_5, .int .i64 b0_6, .int .i64 b0_7], .one (.sl (.int .i64) b1), .one (.int .i64 b2)] => some ((⟨b0_0, b0_1, b0_2, b0_3, b0_4, b0_5, b0_6, b0_7⟩ : Sched), b1, b2)
  | _ => none
def yq5 (r : Sched × Int × Int) : Out := (.tup [.agg [.r [] (.int .i64 r.1.now), .r [] (.int .i64 r.1.slack), .r [] (.int .i64 r.1.age), .own 0, .r [] (.int .i64 r.1.run), .r [] (.int .i64 r.1.left), .r [] (.int .i64 r.1.turns), .r [] (.int .i64 r.1.next)], .r [] (.int .i64 r.2.1), .r [] (.int .i64 r.2.2)], [.arr none (.st .task) r.1.tasks])
def yq6 (o : Out) : Option (Sched × Int × Int) := match o with
  | (.tup [.agg [.r [] (.int .i64 z1), .r [] (.int .i64 z2), .r [] (.int .i64 z3), .own 0, .r [] (.int .i64 z5), .r [] (.int .i64 z6), .r [] (.int .i64 z7), .r [] (.int .i64 z8)], .r [] (.int .i64 z9), .r [] (.int .i64 z10)], [.arr none (.st .task) z4]) => some ((⟨z1, z2, z3, z4, z5, z6, z7, z8⟩ : Sched), z9, z10)
  | _ => none
def yq7 (k : Nat) : PG := fun _ l K => (yq4 l).bind fun a => (I_Admit k a.1 a.2.1 a.2.2).bind fun r => K (yq5 r)
theorem yq8 (k : Nat) (a : Sched × List Int × Int) : ev (ypz k) (yq2 (Sched × Int × Int) k) 0 yq1 (st0 Try.f32 (yq3 a)) (fin Try.prog Try.f32 (.tup [.agg [.sc, .sc, .sc, .own (.st .task), .sc, .sc, .sc, .sc], .sc, .sc]) yq6) = I_Admit k a.1 a.2.1 a.2.2 := by kernel_rfl
theorem yq9 (k : Nat) : PureOk Try.prog 32 (yq7 k) :=
  pureOk_of_ev (yq0 k) Try.func32 (by kernel_rfl) (by kernel_rfl) yq3 yq4
    (fun l a h => by unfold yq4 at h; split at h <;> first | (cases h; rfl) | cases h) (fun a => rfl) (lpgood_none (by kernel_rfl))
    (fun o r h => by unfold yq6 at h; split at h <;> first | (cases h; rfl) | cases h) (yq8 k)
def yqa (k : Nat) : Orc := pureOrc [.agg [(.int .i64), (.int .i64), (.int .i64), (.sl (.st .task)), (.int .i64), (.int .i64), (.int .i64), (.int .i64)], .one (.sl (.int .i64)), .one (.int .i64)] (yq7 k)
theorem yqb (k : Nat) : OrcOk Try.prog 32 (yqa k) := pureOrc_ok (yq9 k)
noncomputable def yqc (k : Nat) : Env := { P := Try.prog, tt := ttTask, orc := fun g => noOrc }
theorem yqd (k : Nat) : EnvOk (yqc k) := fun g => (noOrc_ok _ _)
noncomputable def yqe : Code := (Try.f229.body).getD .skip
def yqf (ρ : Type) (k : Nat) : Nat → Ev ρ → Ev ρ := fun _ _ _ _ => none
def yqg (a : TaskK × Int) : List SV := [.agg [.r [] (.int .i64 a.1.id), .r [] (.tok a.1.costs), .r [] (.int .i64 a.1.at_), .r [] (.int .i64 a.1.due), .r [] (.int .i64 a.1.born)], .ptr 0 0 0]
def yqh (a : TaskK × Int) : List Blk := [.box [.r [] (.int .i64 a.2)]]
def yqi (l : List SV) (b : List Blk) : Option (TaskK × Int) := match l, b with
  | [.agg [.r [] (.int .i64 w0), .r [] (.tok w1), .r [] (.int .i64 w2), .r [] (.int .i64 w3), .r [] (.int .i64 w4)], .ptr 0 0 0], [.box [.r [] (.int .i64 w5)]] => some ((⟨w0, w1, w2, w3, w4⟩ : TaskK), w5)
  | _, _ => none
def yqj (a : TaskK × Int) (r : Bool) : MOut := ⟨.r [] (.bool r), [some (.box [.r [] (.int .i64 a.2)])], []⟩
def yqk (a : TaskK × Int) (o : MOut) : Option (Bool) := match o with
  | ⟨.r [] (.bool z1), [some (.box [.r [] (.int .i64 z2)])], []⟩ => cond (@sameL Int _ z2 a.2) (some z1) none
  | _ => none
def yql (k : Nat) : MG := fun _ l b K => (yqi l b).bind fun a => (pI_Sched_drop_c1_m3 k a.1 a.2).bind fun r => K (yqj a r)
theorem yqm (k : Nat) (a : TaskK × Int) : ev (yqc k) (yqf (Bool) k) 0 yqe (st0M Try.f229 (yqg a) (yqh a)) (finM Try.prog Try.f229 (.sc) [.box [.sc]] (yqk a)) = pI_Sched_drop_c1_m3 k a.1 a.2 := by kernel_rfl
theorem yqn (k : Nat) : MutOk Try.prog 229 (yql k) :=
  mutOk_of_ev (yqd k) Try.func229 (by kernel_rfl) (by kernel_rfl) yqg yqh yqi
    (fun l b a h => by unfold yqi at h; split at h <;> first | (cases h; exact ⟨rfl, rfl⟩) | cases h) (fun a => rfl) (lpgood_none (by kernel_rfl)) (fun a r => rfl)
    (fun a o r h => by unfold yqk at h; split at h <;> first | (obtain ⟨e0, hq⟩ := dec_chk1 h; clear h; subst e0; have h := hq; clear hq; cases h; rfl) | cases h) (yqm k)
def yqo (k : Nat) : Orc := mutOrc [.agg [(.int .i64), .tok, (.int .i64), (.int .i64), (.int .i64)], .keep] (yql k)
theorem yqp (k : Nat) : OrcOk Try.prog 229 (yqo k) := mutOrc_ok (yqn k)
noncomputable def yqq (k : Nat) : Env := { P := Try.prog, tt := ttTask, orc := fun g => cond (Nat.beq g 229) (yqo k) (noOrc), wr := fun g => mem g [229], wt := true }
theorem yqr (k : Nat) : EnvOk (yqq k) := fun g => (orc_cond (yqp k) (noOrc_ok _ _))
noncomputable def yqs : Code := (Try.f192.body).getD .skip
noncomputable def yqt : Code := ((loopsIn 0 yqs).getD 0 (0, .skip)).2
def yqu : List Nat := [0, 1, 7, 8]
def yqv : List (Where × Co) := []
def yqw : Ex → List Nat
  | .exit j => cond (Nat.beq j 0) [] []
  | .ret => [4]
  | .normal => []
def yqx : Ex → List (Where × Co)
  | .exit j => cond (Nat.beq j 0) [] []
  | .ret => []
  | .normal => []
def yqy (pv : (List TaskK × Int × Int) × (Int)) : St := { slots := [(0, .r [] (.sl (.st .taskK) pv.1.1)), (1, .fn (.func 229) [] [.ptr 0 0 0]), (7, .r [] (.int .i64 pv.1.2.1)), (8, .r [] (.int .i64 pv.2))], heap := [(0, .box [.r [] (.int .i64 pv.1.2.2)])], nid := 1, n := 19, gh := [some 0] }
def yqz (nf : NF) : Option ((List TaskK × Int × Int) × (Int)) := match nf with
  | ([.r [] (.sl (.st .taskK) w0), .fn (.func 229) [] [.ptr 0 0 0], .r [] (.int .i64 w1), .r [] (.int .i64 w2)], [.box [.r [] (.int .i64 w3)]], [some 0]) => some ((w0, w1, w3), w2)
  | _ => none
theorem yr0 (nf : NF) (v : (List TaskK × Int × Int) × (Int)) (h : yqz nf = some v) : denorm yqu 19 nf = yqy v := by
  unfold yqz at h
  split at h
  · cases h; rfl
  · cases h
def yr1 (p : List TaskK × Int × Int) (x : Unit) : St := { slots := [], heap := [(0, .box [.r [] (.int .i64 p.2.2)])], nid := 1, n := 19, gh := [some 0] }
def yr2 (p : List TaskK × Int × Int) (x : Int) : St := { slots := [(4, .r [] (.int .i64 x))], heap := [(0, .box [.r [] (.int .i64 p.2.2)])], nid := 1, n := 19, gh := [some 0] }
def yr3 (ρ : Type) (k : Nat) : Nat → Ev ρ → Ev ρ := fun id f => cond (Nat.beq id 0) (loopOrc yqu yqv (fun n nf => cond (Nat.beq n 19) (yqz nf) none) fun pv K => iter (fun v next => slices_IndexFunc_lI_Task_I_Task_m5_g0 k pv.1 v next (fun x => K (.exit 0) (yr1 pv.1 x)) (fun x => K .ret (yr2 pv.1 x))) k pv.2) ((fun _ _ _ _ => none) id f)
theorem yr4 {ρ : Type} (k : Nat) (p : List TaskK × Int × Int) (v : Int) (K K1 : Ex → St → Option ρ) : ev (yqq k) (yr3 ρ k) 0 yqt (yqy (p, v)) (fun e st' => match e with
    | .normal => (normC yqu yqv st').bind fun nf => K1 .normal (denorm yqu st'.n nf)
    | e => (normC (yqw e) (yqx e) st').bind fun nf => K e (denorm (yqw e) st'.n nf)) = slices_IndexFunc_lI_Task_I_Task_m5_g0 k p v (fun v' => K1 .normal (yqy (p, v'))) (fun x => K (.exit 0) (yr1 p x)) (fun x => K .ret (yr2 p x)) := by kernel_rfl
theorem yr5 {ρ : Type} (k : Nat) : Sound Try.prog (.loop yqt) (yr3 ρ k 0 fun st K => ev (yqq k) (yr3 ρ k) 0 yqt st K) :=
  loop_ok (ev_sound (yqr k) yqt 0 (lpgood_none (by kernel_rfl))) yqw yqx k (g := fun p v next K => slices_IndexFunc_lI_Task_I_Task_m5_g0 k p v next (fun x => K (.exit 0) (yr1 p x)) (fun x => K .ret (yr2 p x))) (dec_at yr0) (fun p v K K1 => yr4 k p v K K1)
def yr6 (a : List TaskK × Int) : List SV := [.r [] (.sl (.st .taskK) a.1), .fn (.func 229) [] [.ptr 0 0 0]]
def yr7 (a : List TaskK × Int) : List Blk := [.box [.r [] (.int .i64 a.2)]]
def yr8 (l : List SV) (b : List Blk) : Option (List TaskK × Int) := match l, b with
  | [.r [] (.sl (.st .taskK) w0), .fn (.func 229) [] [.ptr 0 0 0]], [.box [.r [] (.int .i64 w1)]] => some (w0, w1)
  | _, _ => none
def yr9 (a : List TaskK × Int) (r : Int) : MOut := ⟨.r [] (.int .i64 r), [some (.box [.r [] (.int .i64 a.2)])], []⟩
def yra (a : List TaskK × Int) (o : MOut) : Option (Int) := match o with
  | ⟨.r [] (.int .i64 z1), [some (.box [.r [] (.int .i64 z2)])], []⟩ => cond (@sameL Int _ z2 a.2) (some z1) none
  | _ => none
def yrb (k : Nat) : MG := fun _ l b K => (yr8 l b).bind fun a => (slices_IndexFunc_lI_Task_I_Task_m5 k a.1 a.2).bind fun r => K (yr9 a r)
theorem yrc (k : Nat) (a : List TaskK × Int) : ev (yqq k) (yr3 (Int) k) 0 yqs (st0M Try.f192 (yr6 a) (yr7 a)) (finM Try.prog Try.f192 (.sc) [.box [.sc]] (yra a)) = slices_IndexFunc_lI_Task_I_Task_m5 k a.1 a.2 := by kernel_rfl
theorem yrd (k : Nat) : MutOk Try.prog 192 (yrb k) :=
  mutOk_of_ev (yqr k) Try.func192 (by kernel_rfl) (by kernel_rfl) yr6 yr7 yr8
    (fun l b a h => by unfold yr8 at h; split at h <;> first | (cases h; exact ⟨rfl, rfl⟩) | cases h) (fun a => rfl) (lpgood_of (l := [(0, yqt)]) (by kernel_rfl) ⟨yr5 k, trivial⟩) (fun a r => rfl)
    (fun a o r h => by unfold yra at h; split at h <;> first | (obtain ⟨e0, hq⟩ := dec_chk1 h; clear h; subst e0; have h := hq; clear hq; cases h; rfl) | cases h) (yrc k)
def yre (k : Nat) : Orc := mutOrc [.one (.sl (.st .taskK)), .keep] (yrb k)
theorem yrf (k : Nat) : OrcOk Try.prog 192 (yre k) := mutOrc_ok (yrd k)
noncomputable def yrg (k : Nat) : Env := { P := Try.prog, tt := ttTask, orc := fun g => cond (Nat.beq g 192) (yre k) (cond (Nat.beq g 229) (yqo k) (noOrc)), wr := fun g => mem g [192, 229], wt := true }
theorem yrh (k : Nat) : EnvOk (yrg k) := fun g => (orc_cond (yrf k) (orc_cond (yqp k) (noOrc_ok _ _)))
noncomputable def yri : Code := (Try.f228.body).getD .skip
noncomputable def yrj : Code := ((loopsIn 0 yri).getD 0 (0, .skip)).2
def yrk : List Nat := [0, 1, 5, 6]
def yrl : List (Where × Co) := []
def yrm : Ex → List Nat
  | .exit j => cond (Nat.beq j 0) [0, 5] []
  | .ret => []
  | .normal => []
def yrn : Ex → List (Where × Co)
  | .exit j => cond (Nat.beq j 0) [] []
  | .ret => []
  | .normal => []
def yro (pv : (Int) × (Int × Int × List TaskK)) : St := { slots := [(0, .own 0), (1, .fn (.func 229) [] [.ptr 1 0 0]), (5, .r [] (.int .i64 pv.2.1)), (6, .r [] (.int .i64 pv.2.2.1))], heap := [(0, .arr none (.st .taskK) pv.2.2.2), (1, .box [.r [] (.int .i64 pv.1)])], nid := 2, n := 42, gh := [some 0, some 1] }
def yrp (nf : NF) : Option ((Int) × (Int × Int × List TaskK)) := match nf with
  | ([.own 0, .fn (.func 229) [] [.ptr 1 0 0], .r [] (.int .i64 w0), .r [] (.int .i64 w1)], [.arr none (.st .taskK) w2, .box [.r [] (.int .i64 w3)]], [some 0, some 1]) => some (w3, (w0, w1, w2))
  | _ => none
theorem yrq (nf : NF) (v : (Int) × (Int × Int × List TaskK)) (h : yrp nf = some v) : denorm yrk 42 nf = yro v := by
  unfold yrp at h
  split at h
  · cases h; rfl
  · cases h
def yrr (p : Int) (x : Int × List TaskK) : St := { slots := [(0, .own 0), (5, .r [] (.int .i64 x.1))], heap := [(0, .arr none (.st .taskK) x.2), (1, .box [.r [] (.int .i64 p)])], nid := 2, n := 42, gh := [some 0, some 1] }
def yrs (ρ : Type) (k : Nat) : Nat → Ev ρ → Ev ρ := fun id f => cond (Nat.beq id 0) (loopOrc yrk yrl (fun n nf => cond (Nat.beq n 42) (yrp nf) none) fun pv K => iter (fun v next => slices_DeleteFunc_lI_Task_I_Task_m4_g0 k pv.1 v next (fun x => K (.exit 0) (yrr pv.1 x))) k pv.2) ((fun _ _ _ _ => none) id f)
theorem yrt {ρ : Type} (k : Nat) (p : Int) (v : Int × Int × List TaskK) (K K1 : Ex → St → Option ρ) : ev (yrg k) (yrs ρ k) 0 yrj (yro (p, v)) (fun e st' => match e with
    | .normal => (normC yrk yrl st').bind fun nf => K1 .normal (denorm yrk st'.n nf)
    | e => (normC (yrm e) (yrn e) st').bind fun nf => K e (denorm (yrm e) st'.n nf)) = slices_DeleteFunc_lI_Task_I_Task_m4_g0 k p v (fun v' => K1 .normal (yro (p, v'))) (fun x => K (.exit 0) (yrr p x)) := by kernel_rfl
theorem yru {ρ : Type} (k : Nat) : Sound Try.prog (.loop yrj) (yrs ρ k 0 fun st K => ev (yrg k) (yrs ρ k) 0 yrj st K) :=
  loop_ok (ev_sound (yrh k) yrj 0 (lpgood_none (by kernel_rfl))) yrm yrn k (g := fun p v next K => slices_DeleteFunc_lI_Task_I_Task_m4_g0 k p v next (fun x => K (.exit 0) (yrr p x))) (dec_at yrq) (fun p v K K1 => yrt k p v K K1)
def yrv (a : List TaskK × Int) : List SV := [.own 0, .fn (.func 229) [] [.ptr 1 0 0]]
def yrw (a : List TaskK × Int) : List Blk := [.arr none (.st .taskK) a.1, .box [.r [] (.int .i64 a.2)]]
def yrx (l : List SV) (b : List Blk) : Option (List TaskK × Int) := match l, b with
  | [.own 0, .fn (.func 229) [] [.ptr 1 0 0]], [.arr none (.st .taskK) w0, .box [.r [] (.int .i64 w1)]] => some (w0, w1)
  | _, _ => none
def yry (a : List TaskK × Int) (r : List TaskK) : MOut := ⟨.own 2, [none, some (.box [.r [] (.int .i64 a.2)])], [.arr none (.st .taskK) r]⟩
def yrz (a : List TaskK × Int) (o : MOut) : Option (List TaskK) := match o with
  | ⟨.own 2, [none, some (.box [.r [] (.int .i64 z1)])], [.arr none (.st .taskK) z2]⟩ => cond (@sameL Int _ z1 a.2) (some z2) none
  | _ => none
def ys0 (k : Nat) : MG := fun _ l b K => (yrx l b).bind fun a => (slices_DeleteFunc_lI_Task_I_Task_m4 k a.1 a.2).bind fun r => K (yry a r)
theorem ys1 (k : Nat) (a : List TaskK × Int) : ev (yrg k) (yrs (List TaskK) k) 0 yri (st0M Try.f228 (yrv a) (yrw a)) (finM Try.prog Try.f228 (.own (.st .taskK)) [.gone, .box [.sc]] (yrz a)) = slices_DeleteFunc_lI_Task_I_Task_m4 k a.1 a.2 := by kernel_rfl
theorem ys2 (k : Nat) : MutOk Try.prog 228 (ys0 k) :=
  mutOk_of_ev (yrh k) Try.func228 (by kernel_rfl) (by kernel_rfl) yrv yrw yrx
    (fun l b a h => by unfold yrx at h; split at h <;> first | (cases h; exact ⟨rfl, rfl⟩) | cases h) (fun a => rfl) (lpgood_of (l := [(0, yrj)]) (by kernel_rfl) ⟨yru k, trivial⟩) (fun a r => rfl)
    (fun a o r h => by unfold yrz at h; split at h <;> first | (obtain ⟨e0, hq⟩ := dec_chk1 h; clear h; subst e0; have h := hq; clear hq; cases h; rfl) | cases h) (ys1 k)
def ys3 (k : Nat) : Orc := mutOrc [.keep, .keep] (ys0 k)
theorem ys4 (k : Nat) : OrcOk Try.prog 228 (ys3 k) := mutOrc_ok (ys2 k)
noncomputable def ys5 (k : Nat) : Env := { P := Try.prog, tt := ttTask, orc := fun g => cond (Nat.beq g 228) (ys3 k) (noOrc), wr := fun g => mem g [228], wt := true }
theorem ys6 (k : Nat) : EnvOk (ys5 k) := fun g => (orc_cond (ys4 k) (noOrc_ok _ _))
noncomputable def ys7 : Code := (Try.f199.body).getD .skip
def ys8 (ρ : Type) (k : Nat) : Nat → Ev ρ → Ev ρ := fun _ _ _ _ => none
def ys9 (a : Int × Int × Int × List TaskK × Int × Int × Int × Int × Int) : List SV := [.ptr 0 0 0, .r [] (.int .i64 a.2.2.2.2.2.2.2.2)]
def ysa (a : Int × Int × Int × List TaskK × Int × Int × Int × Int × Int) : List Blk := [.box [.r [] (.int .i64 a.1), .r [] (.int .i64 a.2.1), .r [] (.int .i64 a.2.2.1), .own 1, .r [] (.int .i64 a.2.2.2.2.1), .r [] (.int .i64 a.2.2.2.2.2.1), .r [] (.int .i64 a.2.2.2.2.2.2.1), .r [] (.int .i64 a.2.2.2.2.2.2.2.1)], .arr none (.st .taskK) a.2.2.2.1]
def ysb (l : List SV) (b : List Blk) : Option (Int × Int × Int × List TaskK × Int × Int × Int × Int × Int) := match l, b with
  | [.ptr 0 0 0, .r [] (.int .i64 w0)], [.box [.r [] (.int .i64 w1), .r [] (.int .i64 w2), .r [] (.int .i64 w3), .own 1, .r [] (.int .i64 w4), .r [] (.int .i64 w5), .r [] (.int .i64 w6), .r [] (.int .i64 w7)], .arr none (.st .taskK) w8] => some (w1, w2, w3, w8, w4, w5, w6, w7, w0)
  | _, _ => none
def ysc (a : Int × Int × Int × List TaskK × Int × Int × Int × Int × Int) (r : List TaskK × Int × Int) : MOut := ⟨.tup [], [some (.box [.r [] (.int .i64 a.1), .r [] (.int .i64 a.2.1), .r [] (.int .i64 a.2.2.1), .own 2, .r [] (.int .i64 r.2.1), .r [] (.int .i64 r.2.2), .r [] (.int .i64 a.2.2.2.2.2.2.1), .r [] (.int .i64 a.2.2.2.2.2.2.2.1)]), none], [.arr none (.st .taskK) r.1]⟩
def ysd (a : Int × Int × Int × List TaskK × Int × Int × Int × Int × Int) (o : MOut) : Option (List TaskK × Int × Int) := match o with
  | ⟨.tup [], [some (.box [.r [] (.int .i64 z1), .r [] (.int .i64 z2), .r [] (.int .i64 z3), .own 2, .r [] (.int .i64 z4), .r [] (.int .i64 z5), .r [] (.int .i64 z6), .r [] (.int .i64 z7)]), none], [.arr none (.st .taskK) z8]⟩ => cond (@sameL Int _ z1 a.1) (cond (@sameL Int _ z2 a.2.1) (cond (@sameL Int _ z3 a.2.2.1) (cond (@sameL Int _ z6 a.2.2.2.2.2.2.1) (cond (@sameL Int _ z7 a.2.2.2.2.2.2.2.1) (some (z8, z4, z5)) none) none) none) none) none
  | _ => none
def yse (k : Nat) : MG := fun _ l b K => (ysb l b).bind fun a => (pI_Sched_drop_m3 k a.1 a.2.1 a.2.2.1 a.2.2.2.1 a.2.2.2.2.1 a.2.2.2.2.2.1 a.2.2.2.2.2.2.1 a.2.2.2.2.2.2.2.1 a.2.2.2.2.2.2.2.2).bind fun r => K (ysc a r)
theorem ysf (k : Nat) (a : Int × Int × Int × List TaskK × Int × Int × Int × Int × Int) : ev (ys5 k) (ys8 (List TaskK × Int × Int) k) 0 ys7 (st0M Try.f199 (ys9 a) (ysa a)) (finM Try.prog Try.f199 (.tup []) [.box [.sc, .sc, .sc, .own (.st .taskK), .sc, .sc, .sc, .sc], .gone] (ysd a)) = pI_Sched_drop_m3 k a.1 a.2.1 a.2.2.1 a.2.2.2.1 a.2.2.2.2.1 a.2.2.2.2.2.1 a.2.2.2.2.2.2.1 a.2.2.2.2.2.2.2.1 a.2.2.2.2.2.2.2.2 := by kernel_rfl
theorem ysg (k : Nat) : MutOk Try.prog 199 (yse k) :=
  mutOk_of_ev (ys6 k) Try.func199 (by kernel_rfl) (by kernel_rfl) ys9 ysa ysb
    (fun l b a h => by unfold ysb at h; split at h <;> first | (cases h; exact ⟨rfl, rfl⟩) | cases h) (fun a => rfl) (lpgood_none (by kernel_rfl)) (fun a r => rfl)
    (fun a o r h => by unfold ysd at h; split at h <;> first | (obtain ⟨e0, e1, e2, e3, e4, hq⟩ := dec_chk5 h; clear h; subst e0; subst e1; subst e2; subst e3; subst e4; have h := hq; clear hq; cases h; rfl) | cases h) (ysf k)
noncomputable def ysh (k : Nat) : Env := { P := Try.prog, tt := tt, orc := fun g => cond (Nat.beq g 40) (yk9 k) (cond (Nat.beq g 116) (yln k) (cond (Nat.beq g 134) (yjw k) (cond (Nat.beq g 199) (mutOrc [.keep, .one (.int .i64)] (numG .task .taskK 1 (yse k))) (noOrc)))), wr := fun g => mem g [199], wt := true }
theorem ysi (k : Nat) : EnvOk (ysh k) := fun g => (orc_cond (yka k) (orc_cond (ylo k) (orc_cond (yjx k) (orc_cond (mutOrc_ok (numOk (s := .task) (s' := .taskK) rfl rfl rfl 1 (fun _ _ _ _ => by simp only [yse, Option.bind_assoc, Option.bind_some]) (fun T => @ysg T k))) (noOrc_ok _ _)))))
noncomputable def ysj : Code := (Try.f196.body).getD .skip
def ysk (ρ : Type) (k : Nat) : Nat → Ev ρ → Ev ρ := fun _ _ _ _ => none
def ysl (a : Sched × Int) : List Arg := [.agg [.int .i64 a.1.now, .int .i64 a.1.slack, .int .i64 a.1.age, .sl (.st .task) a.1.tasks, .int .i64 a.1.run, .int .i64 a.1.left, .int .i64 a.1.turns, .int .i64 a.1.next], .one (.int .i64 a.2)]
def ysm (l : List Arg) : Option (Sched × Int) := match l with
  | [.agg [.int .i64 b0_0, .int .i64 b0_1, .int .i64 b0_2, .sl (.st .task) b0_3, .int .i64 b0_4, .int .i64 b0_5, .int .i64 b0_6, .int .i64 b0_7], .one (.int .i64 b1)] => some ((⟨b0_0, b0_1, b0_2, b0_3, b0_4, b0_5, b0_6, b0_7⟩ : Sched), b1)
  | _ => none
def ysn (r : Sched × Bool) : Out := (.tup [.agg [.r [] (.int .i64 r.1.now), .r [] (.int .i64 r.1.slack), .r [] (.int .i64 r.1.age), .own 0, .r [] (.int .i64 r.1.run), .r [] (.int .i64 r.1.left), .r [] (.int .i64 r.1.turns), .r [] (.int .i64 r.1.next)], .r [] (.bool r.2)], [.arr none (.st .task) r.1.tasks])
def yso (o : Out) : Option (Sched × Bool) := match o with
  | (.tup [.agg [.r [] (.int .i64 z1), .r [] (.int .i64 z2), .r [] (.int .i64 z3), .own 0, .r [] (.int .i64 z5), .r [] (.int .i64 z6), .r [] (.int .i64 z7), .r [] (.int .i64 z8)], .r [] (.bool z9)], [.arr none (.st .task) z4]) => some ((⟨z1, z2, z3, z4, z5, z6, z7, z8⟩ : Sched), z9)
  | _ => none
def ysp (k : Nat) : PG := fun _ l K => (ysm l).bind fun a => (I_CancelTask k a.1 a.2).bind fun r => K (ysn r)
theorem ysq (k : Nat) (a : Sched × Int) : ev (ysh k) (ysk (Sched × Bool) k) 0 ysj (st0 Try.f196 (ysl a)) (fin Try.prog Try.f196 (.tup [.agg [.sc, .sc, .sc, .own (.st .task), .sc, .sc, .sc, .sc], .sc]) yso) = I_CancelTask k a.1 a.2 := by kernel_rfl
theorem ysr (k : Nat) : PureOk Try.prog 196 (ysp k) :=
  pureOk_of_ev (ysi k) Try.func196 (by kernel_rfl) (by kernel_rfl) ysl ysm
    (fun l a h => by unfold ysm at h; split at h <;> first | (cases h; rfl) | cases h) (fun a => rfl) (lpgood_none (by kernel_rfl))
    (fun o r h => by unfold yso at h; split at h <;> first | (cases h; rfl) | cases h) (ysq k)
def yss (k : Nat) : Orc := pureOrc [.agg [(.int .i64), (.int .i64), (.int .i64), (.sl (.st .task)), (.int .i64), (.int .i64), (.int .i64), (.int .i64)], .one (.int .i64)] (ysp k)
theorem yst (k : Nat) : OrcOk Try.prog 196 (yss k) := pureOrc_ok (ysr k)
noncomputable def ysu (k : Nat) : Env := { P := Try.prog, tt := tt, orc := fun g => noOrc }
theorem ysv (k : Nat) : EnvOk (ysu k) := fun g => (noOrc_ok _ _)
noncomputable def ysw : Code := (Try.f268.body).getD .skip
def ysx (ρ : Type) (k : Nat) : Nat → Ev ρ → Ev ρ := fun _ _ _ _ => none
def ysy (a : List Task) : List Arg := [.one (.sl (.st .task) a)]
def ysz (l : List Arg) : Option (List Task) := match l with
  | [.one (.sl (.st .task) b0)] => some b0
  | _ => none
def yt0 (r : List Task) : Out := (.own 0, [.arr (some []) (.st .task) r])
def yt1 (o : Out) : Option (List Task) := match o with
  | (.own 0, [.arr (some []) (.st .task) z1]) => some z1
  | _ => none
def yt2 (k : Nat) : PG := fun _ l K => (ysz l).bind fun a => (slices_Clone_lI_Task_I_Task k a).bind fun r => K (yt0 r)
theorem yt3 (k : Nat) (a : List Task) : ev (ysu k) (ysx (List Task) k) 0 ysw (st0 Try.f268 (ysy a)) (fin Try.prog Try.f268 (.shl (.st .task)) yt1) = slices_Clone_lI_Task_I_Task k a := by kernel_rfl
theorem yt4 (k : Nat) : PureOk Try.prog 268 (yt2 k) :=
  pureOk_of_ev (ysv k) Try.func268 (by kernel_rfl) (by kernel_rfl) ysy ysz
    (fun l a h => by unfold ysz at h; split at h <;> first | (cases h; rfl) | cases h) (fun a => rfl) (lpgood_none (by kernel_rfl))
    (fun o r h => by unfold yt1 at h; split at h <;> first | (cases h; rfl) | cases h) (yt3 k)
def yt5 (k : Nat) : Orc := pureOrc [.one (.sl (.st .task))] (yt2 k)
theorem yt6 (k : Nat) : OrcOk Try.prog 268 (yt5 k) := pureOrc_ok (yt4 k)
noncomputable def yt7 (k : Nat) : Env := { P := Try.prog, tt := tt, orc := fun g => cond (Nat.beq g 120) (ym0 k) (noOrc) }
theorem yt8 (k : Nat) : EnvOk (yt7 k) := fun g => (orc_cond (ym1 k) (noOrc_ok _ _))
noncomputable def yt9 : Code := (Try.f269.body).getD .skip
def yta (ρ : Type) (k : Nat) : Nat → Ev ρ → Ev ρ := fun _ _ _ _ => none
def ytb (a : Task × Sched) : List SV := [.agg [.r [] (.int .i64 a.1.id), .r [] (.sl (.int .i64) a.1.costs), .r [] (.int .i64 a.1.at_), .r [] (.int .i64 a.1.due), .r [] (.int .i64 a.1.born)], .ptr 0 0 0]
def ytc (a : Task × Sched) : List Blk := [.box [.fn (.func 120) [.agg [.r [] (.int .i64 a.2.now), .r [] (.int .i64 a.2.slack), .r [] (.int .i64 a.2.age), .r [] (.sl (.st .task) a.2.tasks), .r [] (.int .i64 a.2.run), .r [] (.int .i64 a.2.left), .r [] (.int .i64 a.2.turns), .r [] (.int .i64 a.2.next)]] []]]
def ytd (l : List SV) (b : List Blk) : Option (Task × Sched) := match l, b with
  | [.agg [.r [] (.int .i64 w0), .r [] (.sl (.int .i64) w1), .r [] (.int .i64 w2), .r [] (.int .i64 w3), .r [] (.int .i64 w4)], .ptr 0 0 0], [.box [.fn (.func 120) [.agg [.r [] (.int .i64 w5), .r [] (.int .i64 w6), .r [] (.int .i64 w7), .r [] (.sl (.st .task) w8), .r [] (.int .i64 w9), .r [] (.int .i64 w10), .r [] (.int .i64 w11), .r [] (.int .i64 w12)]] []]] => some ((⟨w0, w1, w2, w3, w4⟩ : Task), (⟨w5, w6, w7, w8, w9, w10, w11, w12⟩ : Sched))
  | _, _ => none
def yte (a : Task × Sched) (r : Bool) : MOut := ⟨.r [] (.bool r), [some (.box [.fn (.func 120) [.agg [.r [] (.int .i64 a.2.now), .r [] (.int .i64 a.2.slack), .r [] (.int .i64 a.2.age), .r [] (.sl (.st .task) a.2.tasks), .r [] (.int .i64 a.2.run), .r [] (.int .i64 a.2.left), .r [] (.int .i64 a.2.turns), .r [] (.int .i64 a.2.next)]] []])], []⟩
def ytf (a : Task × Sched) (o : MOut) : Option (Bool) := match o with
  | ⟨.r [] (.bool z1), [some (.box [.fn (.func 120) [.agg [.r [] (.int .i64 z2), .r [] (.int .i64 z3), .r [] (.int .i64 z4), .r [] (.sl (.st .task) z5), .r [] (.int .i64 z6), .r [] (.int .i64 z7), .r [] (.int .i64 z8), .r [] (.int .i64 z9)]] []])], []⟩ => cond (@sameL Int _ z2 a.2.now) (cond (@sameL Int _ z3 a.2.slack) (cond (@sameL Int _ z4 a.2.age) (cond (@sameL (List Task) _ z5 a.2.tasks) (cond (@sameL Int _ z6 a.2.run) (cond (@sameL Int _ z7 a.2.left) (cond (@sameL Int _ z8 a.2.turns) (cond (@sameL Int _ z9 a.2.next) (some z1) none) none) none) none) none) none) none) none
  | _ => none
def ytg (k : Nat) : MG := fun _ l b K => (ytd l b).bind fun a => (I_Sched_first_c1_m k a.1 a.2).bind fun r => K (yte a r)
theorem yth (k : Nat) (a : Task × Sched) : ev (yt7 k) (yta (Bool) k) 0 yt9 (st0M Try.f269 (ytb a) (ytc a)) (finM Try.prog Try.f269 (.sc) [.box [.fn [.agg [.sc, .sc, .sc, .ro (.st .task), .sc, .sc, .sc, .sc]] []]] (ytf a)) = I_Sched_first_c1_m k a.1 a.2 := by kernel_rfl
theorem yti (k : Nat) : MutOk Try.prog 269 (ytg k) :=
  mutOk_of_ev (yt8 k) Try.func269 (by kernel_rfl) (by kernel_rfl) ytb ytc ytd
    (fun l b a h => by unfold ytd at h; split at h <;> first | (cases h; exact ⟨rfl, rfl⟩) | cases h) (fun a => rfl) (lpgood_none (by kernel_rfl)) (fun a r => rfl)
    (fun a o r h => by unfold ytf at h; split at h <;> first | (obtain ⟨e0, e1, e2, e3, e4, e5, e6, e7, hq⟩ := dec_chk8 h; clear h; subst e0; subst e1; subst e2; subst e3; subst e4; subst e5; subst e6; subst e7; have h := hq; clear hq; cases h; rfl) | cases h) (yth k)
def ytj (k : Nat) : Orc := mutOrc [.agg [(.int .i64), (.sl (.int .i64)), (.int .i64), (.int .i64), (.int .i64)], .keep] (ytg k)
theorem ytk (k : Nat) : OrcOk Try.prog 269 (ytj k) := mutOrc_ok (yti k)
noncomputable def ytl (k : Nat) : Env := { P := Try.prog, tt := tt, orc := fun g => cond (Nat.beq g 120) (ym0 k) (noOrc) }
theorem ytm (k : Nat) : EnvOk (ytl k) := fun g => (orc_cond (ym1 k) (noOrc_ok _ _))
noncomputable def ytn : Code := (Try.f269.body).getD .skip
def yto (ρ : Type) (k : Nat) : Nat → Ev ρ → Ev ρ := fun _ _ _ _ => none
def ytp (a : Task × Sched) : List SV := [.agg [.r [] (.int .i64 a.1.id), .r [] (.sl (.int .i64) a.1.costs), .r [] (.int .i64 a.1.at_), .r [] (.int .i64 a.1.due), .r [] (.int .i64 a.1.born)], .ptr 0 0 0]
def ytq (a : Task × Sched) : List Blk := [.box [.fn (.func 120) [.agg [.r [] (.int .i64 a.2.now), .r [] (.int .i64 a.2.slack), .r [] (.int .i64 a.2.age), .r [] (.sl (.st .task) a.2.tasks), .r [] (.int .i64 a.2.run), .r [] (.int .i64 a.2.left), .r [] (.int .i64 a.2.turns), .r [] (.int .i64 a.2.next)]] []]]
def ytr (l : List SV) (b : List Blk) : Option (Task × Sched) := match l, b with
  | [.agg [.r [] (.int .i64 w0), .r [] (.sl (.int .i64) w1), .r [] (.int .i64 w2), .r [] (.int .i64 w3), .r [] (.int .i64 w4)], .ptr 0 0 0], [.box [.fn (.func 120) [.agg [.r [] (.int .i64 w5), .r [] (.int .i64 w6), .r [] (.int .i64 w7), .r [] (.sl (.st .task) w8), .r [] (.int .i64 w9), .r [] (.int .i64 w10), .r [] (.int .i64 w11), .r [] (.int .i64 w12)]] []]] => some ((⟨w0, w1, w2, w3, w4⟩ : Task), (⟨w5, w6, w7, w8, w9, w10, w11, w12⟩ : Sched))
  | _, _ => none
def yts (a : Task × Sched) (r : Bool) : MOut := ⟨.r [] (.bool r), [some (.box [.fn (.func 120) [.agg [.r [] (.int .i64 a.2.now), .r [] (.int .i64 a.2.slack), .r [] (.int .i64 a.2.age), .r [] (.sl (.st .task) a.2.tasks), .r [] (.int .i64 a.2.run), .r [] (.int .i64 a.2.left), .r [] (.int .i64 a.2.turns), .r [] (.int .i64 a.2.next)]] []])], []⟩
def ytt (a : Task × Sched) (o : MOut) : Option (Bool) := match o with
  | ⟨.r [] (.bool z1), [some (.box [.fn (.func 120) [.agg [.r [] (.int .i64 z2), .r [] (.int .i64 z3), .r [] (.int .i64 z4), .r [] (.sl (.st .task) z5), .r [] (.int .i64 z6), .r [] (.int .i64 z7), .r [] (.int .i64 z8), .r [] (.int .i64 z9)]] []])], []⟩ => cond (@sameL Int _ z2 a.2.now) (cond (@sameL Int _ z3 a.2.slack) (cond (@sameL Int _ z4 a.2.age) (cond (@sameL (List Task) _ z5 a.2.tasks) (cond (@sameL Int _ z6 a.2.run) (cond (@sameL Int _ z7 a.2.left) (cond (@sameL Int _ z8 a.2.turns) (cond (@sameL Int _ z9 a.2.next) (some z1) none) none) none) none) none) none) none) none
  | _ => none
def ytu (k : Nat) : MG := fun _ l b K => (ytr l b).bind fun a => (I_Sched_first_c1_m2 k a.1 a.2).bind fun r => K (yts a r)
theorem ytv (k : Nat) (a : Task × Sched) : ev (ytl k) (yto (Bool) k) 0 ytn (st0M Try.f269 (ytp a) (ytq a)) (finM Try.prog Try.f269 (.sc) [.box [.fn [.agg [.sc, .sc, .sc, .ro (.st .task), .sc, .sc, .sc, .sc]] []]] (ytt a)) = I_Sched_first_c1_m2 k a.1 a.2 := by kernel_rfl
theorem ytw (k : Nat) : MutOk Try.prog 269 (ytu k) :=
  mutOk_of_ev (ytm k) Try.func269 (by kernel_rfl) (by kernel_rfl) ytp ytq ytr
    (fun l b a h => by unfold ytr at h; split at h <;> first | (cases h; exact ⟨rfl, rfl⟩) | cases h) (fun a => rfl) (lpgood_none (by kernel_rfl)) (fun a r => rfl)
    (fun a o r h => by unfold ytt at h; split at h <;> first | (obtain ⟨e0, e1, e2, e3, e4, e5, e6, e7, hq⟩ := dec_chk8 h; clear h; subst e0; subst e1; subst e2; subst e3; subst e4; subst e5; subst e6; subst e7; have h := hq; clear hq; cases h; rfl) | cases h) (ytv k)
def ytx (k : Nat) : Orc := mutOrc [.keep, .keep] (ytu k)
theorem yty (k : Nat) : OrcOk Try.prog 269 (ytx k) := mutOrc_ok (ytw k)
noncomputable def ytz (k : Nat) : Env := { P := Try.prog, tt := tt, orc := fun g => cond (Nat.beq g 269) (ytj k) (noOrc), wr := fun g => mem g [269], wt := true }
theorem yu0 (k : Nat) : EnvOk (ytz k) := fun g => (orc_cond (ytk k) (noOrc_ok _ _))
noncomputable def yu1 : Code := (Try.f192.body).getD .skip
noncomputable def yu2 : Code := ((loopsIn 0 yu1).getD 0 (0, .skip)).2
def yu3 : List Nat := [0, 1, 7, 8]
def yu4 : List (Where × Co) := []
def yu5 : Ex → List Nat
  | .exit j => cond (Nat.beq j 0) [] []
  | .ret => [4]
  | .normal => []
def yu6 : Ex → List (Where × Co)
  | .exit j => cond (Nat.beq j 0) [] []
  | .ret => []
  | .normal => []
def yu7 (pv : (Int × List Task × Int × Int × Int × List Task × Int × Int × Int × Int) × (Int)) : St := { slots := [(0, .own 0), (1, .fn (.func 269) [] [.ptr 1 0 0]), (7, .r [] (.int .i64 pv.1.1)), (8, .r [] (.int .i64 pv.2))], heap := [(0, .arr (some []) (.st .task) pv.1.2.1), (1, .box [.fn (.func 120) [.agg [.r [] (.int .i64 pv.1.2.2.1), .r [] (.int .i64 pv.1.2.2.2.1), .r [] (.int .i64 pv.1.2.2.2.2.1), .r [] (.sl (.st .task) pv.1.2.2.2.2.2.1), .r [] (.int .i64 pv.1.2.2.2.2.2.2.1), .r [] (.int .i64 pv.1.2.2.2.2.2.2.2.1), .r [] (.int .i64 pv.1.2.2.2.2.2.2.2.2.1), .r [] (.int .i64 pv.1.2.2.2.2.2.2.2.2.2)]] []])], nid := 2, n := 19, gh := [some 0, some 1] }
def yu8 (nf : NF) : Option ((Int × List Task × Int × Int × Int × List Task × Int × Int × Int × Int) × (Int)) := match nf with
  | ([.own 0, .fn (.func 269) [] [.ptr 1 0 0], .r [] (.int .i64 w0), .r [] (.int .i64 w1)], [.arr (some []) (.st .task) w2, .box [.fn (.func 120) [.agg [.r [] (.int .i64 w3), .r [] (.int .i64 w4), .r [] (.int .i64 w5), .r [] (.sl (.st .task) w6), .r [] (.int .i64 w7), .r [] (.int .i64 w8), .r [] (.int .i64 w9), .r [] (.int .i64 w10)]] []]], [some 0, some 1]) => some ((w0, w2, w3, w4, w5, w6, w7, w8, w9, w10), w1)
  | _ => none
theorem yu9 (nf : NF) (v : (Int × List Task × Int × Int × Int × List Task × Int × Int × Int × Int) × (Int)) (h : yu8 nf = some v) : denorm yu3 19 nf = yu7 v := by
  unfold yu8 at h
  split at h
  · cases h; rfl
  · cases h
def yua (p : Int × List Task × Int × Int × Int × List Task × Int × Int × Int × Int) (x : Unit) : St := { slots := [], heap := [(0, .arr (some []) (.st .task) p.2.1), (1, .box [.fn (.func 120) [.agg [.r [] (.int .i64 p.2.2.1), .r [] (.int .i64 p.2.2.2.1), .r [] (.int .i64 p.2.2.2.2.1), .r [] (.sl (.st .task) p.2.2.2.2.2.1), .r [] (.int .i64 p.2.2.2.2.2.2.1), .r [] (.int .i64 p.2.2.2.2.2.2.2.1), .r [] (.int .i64 p.2.2.2.2.2.2.2.2.1), .r [] (.int .i64 p.2.2.2.2.2.2.2.2.2)]] []])], nid := 2, n := 19, gh := [some 0, some 1] }
def yub (p : Int × List Task × Int × Int × Int × List Task × Int × Int × Int × Int) (x : Int) : St := { slots := [(4, .r [] (.int .i64 x))], heap := [(0, .arr (some []) (.st .task) p.2.1), (1, .box [.fn (.func 120) [.agg [.r [] (.int .i64 p.2.2.1), .r [] (.int .i64 p.2.2.2.1), .r [] (.int .i64 p.2.2.2.2.1), .r [] (.sl (.st .task) p.2.2.2.2.2.1), .r [] (.int .i64 p.2.2.2.2.2.2.1), .r [] (.int .i64 p.2.2.2.2.2.2.2.1), .r [] (.int .i64 p.2.2.2.2.2.2.2.2.1), .r [] (.int .i64 p.2.2.2.2.2.2.2.2.2)]] []])], nid := 2, n := 19, gh := [some 0, some 1] }
def yuc (ρ : Type) (k : Nat) : Nat → Ev ρ → Ev ρ := fun id f => cond (Nat.beq id 0) (loopOrc yu3 yu4 (fun n nf => cond (Nat.beq n 19) (yu8 nf) none) fun pv K => iter (fun v next => slices_IndexFunc_lI_Task_I_Task_m7_g0 k pv.1 v next (fun x => K (.exit 0) (yua pv.1 x)) (fun x => K .ret (yub pv.1 x))) k pv.2) ((fun _ _ _ _ => none) id f)
theorem yud {ρ : Type} (k : Nat) (p : Int × List Task × Int × Int × Int × List Task × Int × Int × Int × Int) (v : Int) (K K1 : Ex → St → Option ρ) : ev (ytz k) (yuc ρ k) 0 yu2 (yu7 (p, v)) (fun e st' => match e with
    | .normal => (normC yu3 yu4 st').bind fun nf => K1 .normal (denorm yu3 st'.n nf)
    | e => (normC (yu5 e) (yu6 e) st').bind fun nf => K e (denorm (yu5 e) st'.n nf)) = slices_IndexFunc_lI_Task_I_Task_m7_g0 k p v (fun v' => K1 .normal (yu7 (p, v'))) (fun x => K (.exit 0) (yua p x)) (fun x => K .ret (yub p x)) := by kernel_rfl
theorem yue {ρ : Type} (k : Nat) : Sound Try.prog (.loop yu2) (yuc ρ k 0 fun st K => ev (ytz k) (yuc ρ k) 0 yu2 st K) :=
  loop_ok (ev_sound (yu0 k) yu2 0 (lpgood_none (by kernel_rfl))) yu5 yu6 k (g := fun p v next K => slices_IndexFunc_lI_Task_I_Task_m7_g0 k p v next (fun x => K (.exit 0) (yua p x)) (fun x => K .ret (yub p x))) (dec_at yu9) (fun p v K K1 => yud k p v K K1)
def yuf (a : List Task × Sched) : List SV := [.own 0, .fn (.func 269) [] [.ptr 1 0 0]]
def yug (a : List Task × Sched) : List Blk := [.arr (some []) (.st .task) a.1, .box [.fn (.func 120) [.agg [.r [] (.int .i64 a.2.now), .r [] (.int .i64 a.2.slack), .r [] (.int .i64 a.2.age), .r [] (.sl (.st .task) a.2.tasks), .r [] (.int .i64 a.2.run), .r [] (.int .i64 a.2.left), .r [] (.int .i64 a.2.turns), .r [] (.int .i64 a.2.next)]] []]]
def yuh (l : List SV) (b : List Blk) : Option (List Task × Sched) := match l, b with
  | [.own 0, .fn (.func 269) [] [.ptr 1 0 0]], [.arr (some []) (.st .task) w0, .box [.fn (.func 120) [.agg [.r [] (.int .i64 w1), .r [] (.int .i64 w2), .r [] (.int .i64 w3), .r [] (.sl (.st .task) w4), .r [] (.int .i64 w5), .r [] (.int .i64 w6), .r [] (.int .i64 w7), .r [] (.int .i64 w8)]] []]] => some (w0, (⟨w1, w2, w3, w4, w5, w6, w7, w8⟩ : Sched))
  | _, _ => none
def yui (a : List Task × Sched) (r : Int) : MOut := ⟨.r [] (.int .i64 r), [some (.arr (some []) (.st .task) a.1), some (.box [.fn (.func 120) [.agg [.r [] (.int .i64 a.2.now), .r [] (.int .i64 a.2.slack), .r [] (.int .i64 a.2.age), .r [] (.sl (.st .task) a.2.tasks), .r [] (.int .i64 a.2.run), .r [] (.int .i64 a.2.left), .r [] (.int .i64 a.2.turns), .r [] (.int .i64 a.2.next)]] []])], []⟩
def yuj (a : List Task × Sched) (o : MOut) : Option (Int) := match o with
  | ⟨.r [] (.int .i64 z1), [some (.arr (some []) (.st .task) z2), some (.box [.fn (.func 120) [.agg [.r [] (.int .i64 z3), .r [] (.int .i64 z4), .r [] (.int .i64 z5), .r [] (.sl (.st .task) z6), .r [] (.int .i64 z7), .r [] (.int .i64 z8), .r [] (.int .i64 z9), .r [] (.int .i64 z10)]] []])], []⟩ => cond (@sameL (List Task) _ z2 a.1) (cond (@sameL Int _ z3 a.2.now) (cond (@sameL Int _ z4 a.2.slack) (cond (@sameL Int _ z5 a.2.age) (cond (@sameL (List Task) _ z6 a.2.tasks) (cond (@sameL Int _ z7 a.2.run) (cond (@sameL Int _ z8 a.2.left) (cond (@sameL Int _ z9 a.2.turns) (cond (@sameL Int _ z10 a.2.next) (some z1) none) none) none) none) none) none) none) none) none
  | _ => none
def yuk (k : Nat) : MG := fun _ l b K => (yuh l b).bind fun a => (slices_IndexFunc_lI_Task_I_Task_m7 k a.1 a.2).bind fun r => K (yui a r)
theorem yul (k : Nat) (a : List Task × Sched) : ev (ytz k) (yuc (Int) k) 0 yu1 (st0M Try.f192 (yuf a) (yug a)) (finM Try.prog Try.f192 (.sc) [.arr, .box [.fn [.agg [.sc, .sc, .sc, .ro (.st .task), .sc, .sc, .sc, .sc]] []]] (yuj a)) = slices_IndexFunc_lI_Task_I_Task_m7 k a.1 a.2 := by kernel_rfl
theorem yum (k : Nat) : MutOk Try.prog 192 (yuk k) :=
  mutOk_of_ev (yu0 k) Try.func192 (by kernel_rfl) (by kernel_rfl) yuf yug yuh
    (fun l b a h => by unfold yuh at h; split at h <;> first | (cases h; exact ⟨rfl, rfl⟩) | cases h) (fun a => rfl) (lpgood_of (l := [(0, yu2)]) (by kernel_rfl) ⟨yue k, trivial⟩) (fun a r => rfl)
    (fun a o r h => by unfold yuj at h; split at h <;> first | (obtain ⟨e0, e1, e2, e3, e4, e5, e6, e7, e8, hq⟩ := dec_chk9 h; clear h; subst e0; subst e1; subst e2; subst e3; subst e4; subst e5; subst e6; subst e7; subst e8; have h := hq; clear hq; cases h; rfl) | cases h) (yul k)
def yun (k : Nat) : Orc := mutOrc [.keep, .keep] (yuk k)
theorem yuo (k : Nat) : OrcOk Try.prog 192 (yun k) := mutOrc_ok (yum k)
noncomputable def yup (k : Nat) : Env := { P := Try.prog, tt := tt, orc := fun g => cond (Nat.beq g 192) (yun k) (cond (Nat.beq g 269) (ytx k) (noOrc)), wr := fun g => mem g [192, 269], wt := true }
theorem yuq (k : Nat) : EnvOk (yup k) := fun g => (orc_cond (yuo k) (orc_cond (yty k) (noOrc_ok _ _)))
noncomputable def yur : Code := (Try.f228.body).getD .skip
noncomputable def yus : Code := ((loopsIn 0 yur).getD 0 (0, .skip)).2
def yut : List Nat := [0, 1, 5, 6]
def yuu : List (Where × Co) := []
def yuv : Ex → List Nat
  | .exit j => cond (Nat.beq j 0) [0, 5] []
  | .ret => []
  | .normal => []
def yuw : Ex → List (Where × Co)
  | .exit j => cond (Nat.beq j 0) [] []
  | .ret => []
  | .normal => []
def yux (pv : (Int × Int × Int × List Task × Int × Int × Int × Int) × (Int × Int × List Task)) : St := { slots := [(0, .own 0), (1, .fn (.func 269) [] [.ptr 1 0 0]), (5, .r [] (.int .i64 pv.2.1)), (6, .r [] (.int .i64 pv.2.2.1))], heap := [(0, .arr (some []) (.st .task) pv.2.2.2), (1, .box [.fn (.func 120) [.agg [.r [] (.int .i64 pv.1.1), .r [] (.int .i64 pv.1.2.1), .r [] (.int .i64 pv.1.2.2.1), .r [] (.sl (.st .task) pv.1.2.2.2.1), .r [] (.int .i64 pv.1.2.2.2.2.1), .r [] (.int .i64 pv.1.2.2.2.2.2.1), .r [] (.int .i64 pv.1.2.2.2.2.2.2.1), .r [] (.int .i64 pv.1.2.2.2.2.2.2.2)]] []])], nid := 2, n := 42, gh := [some 0, some 1] }
def yuy (nf : NF) : Option ((Int × Int × Int × List Task × Int × Int × Int × Int) × (Int × Int × List Task)) := match nf with
  | ([.own 0, .fn (.func 269) [] [.ptr 1 0 0], .r [] (.int .i64 w0), .r [] (.int .i64 w1)], [.arr (some []) (.st .task) w2, .box [.fn (.func 120) [.agg [.r [] (.int .i64 w3), .r [] (.int .i64 w4), .r [] (.int .i64 w5), .r [] (.sl (.st .task) w6), .r [] (.int .i64 w7), .r [] (.int .i64 w8), .r [] (.int .i64 w9), .r [] (.int .i64 w10)]] []]], [some 0, some 1]) => some ((w3, w4, w5, w6, w7, w8, w9, w10), (w0, w1, w2))
  | _ => none
theorem yuz (nf : NF) (v : (Int × Int × Int × List Task × Int × Int × Int × Int) × (Int × Int × List Task)) (h : yuy nf = some v) : denorm yut 42 nf = yux v := by
  unfold yuy at h
  split at h
  · cases h; rfl
  · cases h
def yv0 (p : Int × Int × Int × List Task × Int × Int × Int × Int) (x : Int × List Task) : St := { slots := [(0, .own 0), (5, .r [] (.int .i64 x.1))], heap := [(0, .arr (some []) (.st .task) x.2), (1, .box [.fn (.func 120) [.agg [.r [] (.int .i64 p.1), .r [] (.int .i64 p.2.1), .r [] (.int .i64 p.2.2.1), .r [] (.sl (.st .task) p.2.2.2.1), .r [] (.int .i64 p.2.2.2.2.1), .r [] (.int .i64 p.2.2.2.2.2.1), .r [] (.int .i64 p.2.2.2.2.2.2.1), .r [] (.int .i64 p.2.2.2.2.2.2.2)]] []])], nid := 2, n := 42, gh := [some 0, some 1] }
def yv1 (ρ : Type) (k : Nat) : Nat → Ev ρ → Ev ρ := fun id f => cond (Nat.beq id 0) (loopOrc yut yuu (fun n nf => cond (Nat.beq n 42) (yuy nf) none) fun pv K => iter (fun v next => slices_DeleteFunc_lI_Task_I_Task_m6_g0 k pv.1 v next (fun x => K (.exit 0) (yv0 pv.1 x))) k pv.2) ((fun _ _ _ _ => none) id f)
theorem yv2 {ρ : Type} (k : Nat) (p : Int × Int × Int × List Task × Int × Int × Int × Int) (v : Int × Int × List Task) (K K1 : Ex → St → Option ρ) : ev (yup k) (yv1 ρ k) 0 yus (yux (p, v)) (fun e st' => match e with
    | .normal => (normC yut yuu st').bind fun nf => K1 .normal (denorm yut st'.n nf)
    | e => (normC (yuv e) (yuw e) st').bind fun nf => K e (denorm (yuv e) st'.n nf)) = slices_DeleteFunc_lI_Task_I_Task_m6_g0 k p v (fun v' => K1 .normal (yux (p, v'))) (fun x => K (.exit 0) (yv0 p x)) := by kernel_rfl
theorem yv3 {ρ : Type} (k : Nat) : Sound Try.prog (.loop yus) (yv1 ρ k 0 fun st K => ev (yup k) (yv1 ρ k) 0 yus st K) :=
  loop_ok (ev_sound (yuq k) yus 0 (lpgood_none (by kernel_rfl))) yuv yuw k (g := fun p v next K => slices_DeleteFunc_lI_Task_I_Task_m6_g0 k p v next (fun x => K (.exit 0) (yv0 p x))) (dec_at yuz) (fun p v K K1 => yv2 k p v K K1)
def yv4 (a : List Task × Sched) : List SV := [.own 0, .fn (.func 269) [] [.ptr 1 0 0]]
def yv5 (a : List Task × Sched) : List Blk := [.arr (some []) (.st .task) a.1, .box [.fn (.func 120) [.agg [.r [] (.int .i64 a.2.now), .r [] (.int .i64 a.2.slack), .r [] (.int .i64 a.2.age), .r [] (.sl (.st .task) a.2.tasks), .r [] (.int .i64 a.2.run), .r [] (.int .i64 a.2.left), .r [] (.int .i64 a.2.turns), .r [] (.int .i64 a.2.next)]] []]]
def yv6 (l : List SV) (b : List Blk) : Option (List Task × Sched) := match l, b with
  | [.own 0, .fn (.func 269) [] [.ptr 1 0 0]], [.arr (some []) (.st .task) w0, .box [.fn (.func 120) [.agg [.r [] (.int .i64 w1), .r [] (.int .i64 w2), .r [] (.int .i64 w3), .r [] (.sl (.st .task) w4), .r [] (.int .i64 w5), .r [] (.int .i64 w6), .r [] (.int .i64 w7), .r [] (.int .i64 w8)]] []]] => some (w0, (⟨w1, w2, w3, w4, w5, w6, w7, w8⟩ : Sched))
  | _, _ => none
def yv7 (a : List Task × Sched) (r : List Task) : MOut := ⟨.own 2, [none, some (.box [.fn (.func 120) [.agg [.r [] (.int .i64 a.2.now), .r [] (.int .i64 a.2.slack), .r [] (.int .i64 a.2.age), .r [] (.sl (.st .task) a.2.tasks), .r [] (.int .i64 a.2.run), .r [] (.int .i64 a.2.left), .r [] (.int .i64 a.2.turns), .r [] (.int .i64 a.2.next)]] []])], [.arr (some []) (.st .task) r]⟩
def yv8 (a : List Task × Sched) (o : MOut) : Option (List Task) := match o with
  | ⟨.own 2, [none, some (.box [.fn (.func 120) [.agg [.r [] (.int .i64 z1), .r [] (.int .i64 z2), .r [] (.int .i64 z3), .r [] (.sl (.st .task) z4), .r [] (.int .i64 z5), .r [] (.int .i64 z6), .r [] (.int .i64 z7), .r [] (.int .i64 z8)]] []])], [.arr (some []) (.st .task) z9]⟩ => cond (@sameL Int _ z1 a.2.now) (cond (@sameL Int _ z2 a.2.slack) (cond (@sameL Int _ z3 a.2.age) (cond (@sameL (List Task) _ z4 a.2.tasks) (cond (@sameL Int _ z5 a.2.run) (cond (@sameL Int _ z6 a.2.left) (cond (@sameL Int _ z7 a.2.turns) (cond (@sameL Int _ z8 a.2.next) (some z9) none) none) none) none) none) none) none) none
  | _ => none
def yv9 (k : Nat) : MG := fun _ l b K => (yv6 l b).bind fun a => (slices_DeleteFunc_lI_Task_I_Task_m6 k a.1 a.2).bind fun r => K (yv7 a r)
theorem yva (k : Nat) (a : List Task × Sched) : ev (yup k) (yv1 (List Task) k) 0 yur (st0M Try.f228 (yv4 a) (yv5 a)) (finM Try.prog Try.f228 (.shl (.st .task)) [.gone, .box [.fn [.agg [.sc, .sc, .sc, .ro (.st .task), .sc, .sc, .sc, .sc]] []]] (yv8 a)) = slices_DeleteFunc_lI_Task_I_Task_m6 k a.1 a.2 := by kernel_rfl
theorem yvb (k : Nat) : MutOk Try.prog 228 (yv9 k) :=
  mutOk_of_ev (yuq k) Try.func228 (by kernel_rfl) (by kernel_rfl) yv4 yv5 yv6
    (fun l b a h => by unfold yv6 at h; split at h <;> first | (cases h; exact ⟨rfl, rfl⟩) | cases h) (fun a => rfl) (lpgood_of (l := [(0, yus)]) (by kernel_rfl) ⟨yv3 k, trivial⟩) (fun a r => rfl)
    (fun a o r h => by unfold yv8 at h; split at h <;> first | (obtain ⟨e0, e1, e2, e3, e4, e5, e6, e7, hq⟩ := dec_chk8 h; clear h; subst e0; subst e1; subst e2; subst e3; subst e4; subst e5; subst e6; subst e7; have h := hq; clear hq; cases h; rfl) | cases h) (yva k)
def yvc (k : Nat) : Orc := mutOrc [.keep, .keep] (yv9 k)
theorem yvd (k : Nat) : OrcOk Try.prog 228 (yvc k) := mutOrc_ok (yvb k)
noncomputable def yve (k : Nat) : Env := { P := Try.prog, tt := tt, orc := fun g => noOrc }
theorem yvf (k : Nat) : EnvOk (yve k) := fun g => (noOrc_ok _ _)
noncomputable def yvg : Code := (Try.f252.body).getD .skip
def yvh (ρ : Type) (k : Nat) : Nat → Ev ρ → Ev ρ := fun _ _ _ _ => none
def yvi (a : Task) : List Arg := [.agg [.int .i64 a.id, .sl (.int .i64) a.costs, .int .i64 a.at_, .int .i64 a.due, .int .i64 a.born]]
def yvj (l : List Arg) : Option (Task) := match l with
  | [.agg [.int .i64 b0_0, .sl (.int .i64) b0_1, .int .i64 b0_2, .int .i64 b0_3, .int .i64 b0_4]] => some (⟨b0_0, b0_1, b0_2, b0_3, b0_4⟩ : Task)
  | _ => none
def yvk (r : Int) : Out := (.r [] (.int .i64 r), [])
def yvl (o : Out) : Option (Int) := match o with
  | (.r [] (.int .i64 z1), []) => some z1
  | _ => none
def yvm (k : Nat) : PG := fun _ l K => (yvj l).bind fun a => (I_Sched_pick_c1 k a).bind fun r => K (yvk r)
theorem yvn (k : Nat) (a : Task) : ev (yve k) (yvh (Int) k) 0 yvg (st0 Try.f252 (yvi a)) (fin Try.prog Try.f252 (.sc) yvl) = I_Sched_pick_c1 k a := by kernel_rfl
theorem yvo (k : Nat) : PureOk Try.prog 252 (yvm k) :=
  pureOk_of_ev (yvf k) Try.func252 (by kernel_rfl) (by kernel_rfl) yvi yvj
    (fun l a h => by unfold yvj at h; split at h <;> first | (cases h; rfl) | cases h) (fun a => rfl) (lpgood_none (by kernel_rfl))
    (fun o r h => by unfold yvl at h; split at h <;> first | (cases h; rfl) | cases h) (yvn k)
def yvp (k : Nat) : Orc := pureOrc [.agg [(.int .i64), (.sl (.int .i64)), (.int .i64), (.int .i64), (.int .i64)]] (yvm k)
theorem yvq (k : Nat) : OrcOk Try.prog 252 (yvp k) := pureOrc_ok (yvo k)
noncomputable def yvr (k : Nat) : Env := { P := Try.prog, tt := tt, orc := fun g => noOrc }
theorem yvs (k : Nat) : EnvOk (yvr k) := fun g => (noOrc_ok _ _)
noncomputable def yvt : Code := (Try.f215.body).getD .skip
def yvu (ρ : Type) (k : Nat) : Nat → Ev ρ → Ev ρ := fun _ _ _ _ => none
def yvv (a : Int) : List Arg := [.one (.int .i64 a)]
def yvw (l : List Arg) : Option (Int) := match l with
  | [.one (.int .i64 b0)] => some b0
  | _ => none
def yvx (r : Bool) : Out := (.r [] (.bool r), [])
def yvy (o : Out) : Option (Bool) := match o with
  | (.r [] (.bool z1), []) => some z1
  | _ => none
def yvz (k : Nat) : PG := fun _ l K => (yvw l).bind fun a => (cmp_isNaN_int k a).bind fun r => K (yvx r)
theorem yw0 (k : Nat) (a : Int) : ev (yvr k) (yvu (Bool) k) 0 yvt (st0 Try.f215 (yvv a)) (fin Try.prog Try.f215 (.sc) yvy) = cmp_isNaN_int k a := by kernel_rfl
theorem yw1 (k : Nat) : PureOk Try.prog 215 (yvz k) :=
  pureOk_of_ev (yvs k) Try.func215 (by kernel_rfl) (by kernel_rfl) yvv yvw
    (fun l a h => by unfold yvw at h; split at h <;> first | (cases h; rfl) | cases h) (fun a => rfl) (lpgood_none (by kernel_rfl))
    (fun o r h => by unfold yvy at h; split at h <;> first | (cases h; rfl) | cases h) (yw0 k)
def yw2 (k : Nat) : Orc := pureOrc [.one (.int .i64)] (yvz k)
theorem yw3 (k : Nat) : OrcOk Try.prog 215 (yw2 k) := pureOrc_ok (yw1 k)
noncomputable def yw4 (k : Nat) : Env := { P := Try.prog, tt := tt, orc := fun g => cond (Nat.beq g 215) (yw2 k) (noOrc) }
theorem yw5 (k : Nat) : EnvOk (yw4 k) := fun g => (orc_cond (yw3 k) (noOrc_ok _ _))
noncomputable def yw6 : Code := (Try.f168.body).getD .skip
def yw7 (ρ : Type) (k : Nat) : Nat → Ev ρ → Ev ρ := fun _ _ _ _ => none
def yw8 (a : Int × Int) : List Arg := [.one (.int .i64 a.1), .one (.int .i64 a.2)]
def yw9 (l : List Arg) : Option (Int × Int) := match l with
  | [.one (.int .i64 b0), .one (.int .i64 b1)] => some (b0, b1)
  | _ => none
def ywa (r : Int) : Out := (.r [] (.int .i64 r), [])
def ywb (o : Out) : Option (Int) := match o with
  | (.r [] (.int .i64 z1), []) => some z1
  | _ => none
def ywc (k : Nat) : PG := fun _ l K => (yw9 l).bind fun a => (cmp_Compare_int k a.1 a.2).bind fun r => K (ywa r)
theorem ywd (k : Nat) (a : Int × Int) : ev (yw4 k) (yw7 (Int) k) 0 yw6 (st0 Try.f168 (yw8 a)) (fin Try.prog Try.f168 (.sc) ywb) = cmp_Compare_int k a.1 a.2 := by kernel_rfl
theorem ywe (k : Nat) : PureOk Try.prog 168 (ywc k) :=
  pureOk_of_ev (yw5 k) Try.func168 (by kernel_rfl) (by kernel_rfl) yw8 yw9
    (fun l a h => by unfold yw9 at h; split at h <;> first | (cases h; rfl) | cases h) (fun a => rfl) (lpgood_none (by kernel_rfl))
    (fun o r h => by unfold ywb at h; split at h <;> first | (cases h; rfl) | cases h) (ywd k)
def ywf (k : Nat) : Orc := pureOrc [.one (.int .i64), .one (.int .i64)] (ywc k)
theorem ywg (k : Nat) : OrcOk Try.prog 168 (ywf k) := pureOrc_ok (ywe k)
noncomputable def ywh (k : Nat) : Env := { P := Try.prog, tt := tt, orc := fun g => noOrc }
theorem ywi (k : Nat) : EnvOk (ywh k) := fun g => (noOrc_ok _ _)
noncomputable def ywj : Code := (Try.f272.body).getD .skip
noncomputable def ywk : Code := ((loopsIn 0 ywj).getD 0 (0, .skip)).2
def ywl : List Nat := [3, 6, 7, 8]
def ywm : List (Where × Co) := []
def ywn : Ex → List Nat
  | .exit j => cond (Nat.beq j 0) [3] []
  | .ret => [2]
  | .normal => []
def ywo : Ex → List (Where × Co)
  | .exit j => cond (Nat.beq j 0) [] []
  | .ret => []
  | .normal => []
def ywp (pv : (Int × List Int × Int) × (Int)) : St := { slots := [(3, .r [] (.int .i64 pv.1.1)), (6, .r [] (.sl (.int .i64) pv.1.2.1)), (7, .r [] (.int .i64 pv.1.2.2)), (8, .r [] (.int .i64 pv.2))], heap := [], nid := 0, n := 18, gh := [] }
def ywq (nf : NF) : Option ((Int × List Int × Int) × (Int)) := match nf with
  | ([.r [] (.int .i64 w0), .r [] (.sl (.int .i64) w1), .r [] (.int .i64 w2), .r [] (.int .i64 w3)], [], []) => some ((w0, w1, w2), w3)
  | _ => none
theorem ywr (nf : NF) (v : (Int × List Int × Int) × (Int)) (h : ywq nf = some v) : denorm ywl 18 nf = ywp v := by
  unfold ywq at h
  split at h
  · cases h; rfl
  · cases h
def yws (p : Int × List Int × Int) (x : Unit) : St := { slots := [(3, .r [] (.int .i64 p.1))], heap := [], nid := 0, n := 18, gh := [] }
def ywt (p : Int × List Int × Int) (x : Int) : St := { slots := [(2, .r [] (.int .i64 x))], heap := [], nid := 0, n := 18, gh := [] }
def ywu (ρ : Type) (k : Nat) : Nat → Ev ρ → Ev ρ := fun id f => cond (Nat.beq id 0) (loopOrc ywl ywm (fun n nf => cond (Nat.beq n 18) (ywq nf) none) fun pv K => iter (fun v next => cmp_Or_int_g0 k pv.1 v next (fun x => K (.exit 0) (yws pv.1 x)) (fun x => K .ret (ywt pv.1 x))) k pv.2) ((fun _ _ _ _ => none) id f)
theorem ywv {ρ : Type} (k : Nat) (p : Int × List Int × Int) (v : Int) (K K1 : Ex → St → Option ρ) : ev (ywh k) (ywu ρ k) 0 ywk (ywp (p, v)) (fun e st' => match e with
    | .normal => (normC ywl ywm st').bind fun nf => K1 .normal (denorm ywl st'.n nf)
    | e => (normC (ywn e) (ywo e) st').bind fun nf => K e (denorm (ywn e) st'.n nf)) = cmp_Or_int_g0 k p v (fun v' => K1 .normal (ywp (p, v'))) (fun x => K (.exit 0) (yws p x)) (fun x => K .ret (ywt p x)) := by kernel_rfl
theorem yww {ρ : Type} (k : Nat) : Sound Try.prog (.loop ywk) (ywu ρ k 0 fun st K => ev (ywh k) (ywu ρ k) 0 ywk st K) :=
  loop_ok (ev_sound (ywi k) ywk 0 (lpgood_none (by kernel_rfl))) ywn ywo k (g := fun p v next K => cmp_Or_int_g0 k p v next (fun x => K (.exit 0) (yws p x)) (fun x => K .ret (ywt p x))) (dec_at ywr) (fun p v K K1 => ywv k p v K K1)
def ywx (a : List Int) : List Arg := [.one (.sl (.int .i64) a)]
def ywy (l : List Arg) : Option (List Int) := match l with
  | [.one (.sl (.int .i64) b0)] => some b0
  | _ => none
def ywz (r : Int) : Out := (.r [] (.int .i64 r), [])
def yx0 (o : Out) : Option (Int) := match o with
  | (.r [] (.int .i64 z1), []) => some z1
  | _ => none
def yx1 (k : Nat) : PG := fun _ l K => (ywy l).bind fun a => (cmp_Or_int k a).bind fun r => K (ywz r)
theorem yx2 (k : Nat) (a : List Int) : ev (ywh k) (ywu (Int) k) 0 ywj (st0 Try.f272 (ywx a)) (fin Try.prog Try.f272 (.sc) yx0) = cmp_Or_int k a := by kernel_rfl
theorem yx3 (k : Nat) : PureOk Try.prog 272 (yx1 k) :=
  pureOk_of_ev (ywi k) Try.func272 (by kernel_rfl) (by kernel_rfl) ywx ywy
    (fun l a h => by unfold ywy at h; split at h <;> first | (cases h; rfl) | cases h) (fun a => rfl) (lpgood_of (l := [(0, ywk)]) (by kernel_rfl) ⟨yww k, trivial⟩)
    (fun o r h => by unfold yx0 at h; split at h <;> first | (cases h; rfl) | cases h) (yx2 k)
def yx4 (k : Nat) : Orc := pureOrc [.one (.sl (.int .i64))] (yx1 k)
theorem yx5 (k : Nat) : OrcOk Try.prog 272 (yx4 k) := pureOrc_ok (yx3 k)
noncomputable def yx6 (k : Nat) : Env := { P := Try.prog, tt := tt, orc := fun g => cond (Nat.beq g 168) (ywf k) (cond (Nat.beq g 252) (yvp k) (cond (Nat.beq g 272) (yx4 k) (noOrc))) }
theorem yx7 (k : Nat) : EnvOk (yx6 k) := fun g => (orc_cond (ywg k) (orc_cond (yvq k) (orc_cond (yx5 k) (noOrc_ok _ _))))
noncomputable def yx8 : Code := (Try.f271.body).getD .skip
def yx9 (ρ : Type) (k : Nat) : Nat → Ev ρ → Ev ρ := fun _ _ _ _ => none
def yxa (a : Task × Task) : List SV := [.agg [.r [] (.int .i64 a.1.id), .r [] (.sl (.int .i64) a.1.costs), .r [] (.int .i64 a.1.at_), .r [] (.int .i64 a.1.due), .r [] (.int .i64 a.1.born)], .agg [.r [] (.int .i64 a.2.id), .r [] (.sl (.int .i64) a.2.costs), .r [] (.int .i64 a.2.at_), .r [] (.int .i64 a.2.due), .r [] (.int .i64 a.2.born)], .ptr 0 0 0]
def yxb (a : Task × Task) : List Blk := [.box [.fn (.func 252) [] []]]
def yxc (l : List SV) (b : List Blk) : Option (Task × Task) := match l, b with
  | [.agg [.r [] (.int .i64 w0), .r [] (.sl (.int .i64) w1), .r [] (.int .i64 w2), .r [] (.int .i64 w3), .r [] (.int .i64 w4)], .agg [.r [] (.int .i64 w5), .r [] (.sl (.int .i64) w6), .r [] (.int .i64 w7), .r [] (.int .i64 w8), .r [] (.int .i64 w9)], .ptr 0 0 0], [.box [.fn (.func 252) [] []]] => some ((⟨w0, w1, w2, w3, w4⟩ : Task), (⟨w5, w6, w7, w8, w9⟩ : Task))
  | _, _ => none
def yxd (a : Task × Task) (r : Int) : MOut := ⟨.r [] (.int .i64 r), [some (.box [.fn (.func 252) [] []])], []⟩
def yxe (a : Task × Task) (o : MOut) : Option (Int) := match o with
  | ⟨.r [] (.int .i64 z1), [some (.box [.fn (.func 252) [] []])], []⟩ => some z1
  | _ => none
def yxf (k : Nat) : MG := fun _ l b K => (yxc l b).bind fun a => (I_Sched_first_c2_m k a.1 a.2).bind fun r => K (yxd a r)
theorem yxg (k : Nat) (a : Task × Task) : ev (yx6 k) (yx9 (Int) k) 0 yx8 (st0M Try.f271 (yxa a) (yxb a)) (finM Try.prog Try.f271 (.sc) [.box [.fn [] []]] (yxe a)) = I_Sched_first_c2_m k a.1 a.2 := by kernel_rfl
theorem yxh (k : Nat) : MutOk Try.prog 271 (yxf k) :=
  mutOk_of_ev (yx7 k) Try.func271 (by kernel_rfl) (by kernel_rfl) yxa yxb yxc
    (fun l b a h => by unfold yxc at h; split at h <;> first | (cases h; exact ⟨rfl, rfl⟩) | cases h) (fun a => rfl) (lpgood_none (by kernel_rfl)) (fun a r => rfl)
    (fun a o r h => by unfold yxe at h; split at h <;> first | (skip; cases h; rfl) | cases h) (yxg k)
def yxi (k : Nat) : Orc := mutOrc [.agg [(.int .i64), (.sl (.int .i64)), (.int .i64), (.int .i64), (.int .i64)], .agg [(.int .i64), (.sl (.int .i64)), (.int .i64), (.int .i64), (.int .i64)], .keep] (yxf k)
theorem yxj (k : Nat) : OrcOk Try.prog 271 (yxi k) := mutOrc_ok (yxh k)
noncomputable def yxk (k : Nat) : Env := { P := Try.prog, tt := tt, orc := fun g => cond (Nat.beq g 271) (yxi k) (noOrc), wr := fun g => mem g [271], wt := true }
theorem yxl (k : Nat) : EnvOk (yxk k) := fun g => (orc_cond (yxj k) (noOrc_ok _ _))
noncomputable def yxm : Code := (Try.f270.body).getD .skip
noncomputable def yxn : Code := ((loopsIn 0 yxm).getD 0 (0, .skip)).2
def yxo : List Nat := [0, 1, 4, 5, 6]
def yxp : List (Where × Co) := []
def yxq : Ex → List Nat
  | .exit j => cond (Nat.beq j 0) [4, 5] []
  | .ret => []
  | .normal => []
def yxr : Ex → List (Where × Co)
  | .exit j => cond (Nat.beq j 0) [] []
  | .ret => []
  | .normal => []
def yxs (pv : (List Task × Int × Int × Int × Int) × (Int × Int × List Int × Int × Int × Int)) : St := { slots := [(0, .r [] (.sl (.st .task) pv.1.1)), (1, .fn (.func 271) [] [.ptr 0 0 0]), (4, .ptr 1 0 0), (5, .ptr 2 0 0), (6, .r [] (.int .i64 pv.2.1))], heap := [(0, .box [.fn (.func 252) [] []]), (1, .box [.r [] (.int .i64 pv.1.2.1), .nilS, .r [] (.int .i64 pv.1.2.2.1), .r [] (.int .i64 pv.1.2.2.2.1), .r [] (.int .i64 pv.1.2.2.2.2)]), (2, .box [.r [] (.int .i64 pv.2.2.1), .r [] (.sl (.int .i64) pv.2.2.2.1), .r [] (.int .i64 pv.2.2.2.2.1), .r [] (.int .i64 pv.2.2.2.2.2.1), .r [] (.int .i64 pv.2.2.2.2.2.2)])], nid := 3, n := 33, gh := [some 0] }
def yxt (nf : NF) : Option ((List Task × Int × Int × Int × Int) × (Int × Int × List Int × Int × Int × Int)) := match nf with
  | ([.r [] (.sl (.st .task) w0), .fn (.func 271) [] [.ptr 0 0 0], .ptr 1 0 0, .ptr 2 0 0, .r [] (.int .i64 w1)], [.box [.fn (.func 252) [] []], .box [.r [] (.int .i64 w2), .nilS, .r [] (.int .i64 w3), .r [] (.int .i64 w4), .r [] (.int .i64 w5)], .box [.r [] (.int .i64 w6), .r [] (.sl (.int .i64) w7), .r [] (.int .i64 w8), .r [] (.int .i64 w9), .r [] (.int .i64 w10)]], [some 0]) => some ((w0, w2, w3, w4, w5), (w1, w6, w7, w8, w9, w10))
  | _ => none
theorem yxu (nf : NF) (v : (List Task × Int × Int × Int × Int) × (Int × Int × List Int × Int × Int × Int)) (h : yxt nf = some v) : denorm yxo 33 nf = yxs v := by
  unfold yxt at h
  split at h
  · cases h; rfl
  · cases h
def yxv (p : List Task × Int × Int × Int × Int) (x : Int × List Int × Int × Int × Int) : St := { slots := [(4, .ptr 0 0 0), (5, .ptr 1 0 0)], heap := [(0, .box [.r [] (.int .i64 p.2.1), .nilS, .r [] (.int .i64 p.2.2.1), .r [] (.int .i64 p.2.2.2.1), .r [] (.int .i64 p.2.2.2.2)]), (1, .box [.r [] (.int .i64 x.1), .r [] (.sl (.int .i64) x.2.1), .r [] (.int .i64 x.2.2.1), .r [] (.int .i64 x.2.2.2.1), .r [] (.int .i64 x.2.2.2.2)]), (2, .box [.fn (.func 252) [] []])], nid := 3, n := 33, gh := [some 2] }
def yxw (ρ : Type) (k : Nat) : Nat → Ev ρ → Ev ρ := fun id f => cond (Nat.beq id 0) (loopOrc yxo yxp (fun n nf => cond (Nat.beq n 33) (yxt nf) none) fun pv K => iter (fun v next => slices_MinFunc_lI_Task_I_Task_m_g0 k pv.1 v next (fun x => K (.exit 0) (yxv pv.1 x))) k pv.2) ((fun _ _ _ _ => none) id f)
theorem yxx {ρ : Type} (k : Nat) (p : List Task × Int × Int × Int × Int) (v : Int × Int × List Int × Int × Int × Int) (K K1 : Ex → St → Option ρ) : ev (yxk k) (yxw ρ k) 0 yxn (yxs (p, v)) (fun e st' => match e with
    | .normal => (normC yxo yxp st').bind fun nf => K1 .normal (denorm yxo st'.n nf)
    | e => (normC (yxq e) (yxr e) st').bind fun nf => K e (denorm (yxq e) st'.n nf)) = slices_MinFunc_lI_Task_I_Task_m_g0 k p v (fun v' => K1 .normal (yxs (p, v'))) (fun x => K (.exit 0) (yxv p x)) := by kernel_rfl
theorem yxy {ρ : Type} (k : Nat) : Sound Try.prog (.loop yxn) (yxw ρ k 0 fun st K => ev (yxk k) (yxw ρ k) 0 yxn st K) :=
  loop_ok (ev_sound (yxl k) yxn 0 (lpgood_none (by kernel_rfl))) yxq yxr k (g := fun p v next K => slices_MinFunc_lI_Task_I_Task_m_g0 k p v next (fun x => K (.exit 0) (yxv p x))) (dec_at yxu) (fun p v K K1 => yxx k p v K K1)
def yxz (a : List Task) : List SV := [.r [] (.sl (.st .task) a), .fn (.func 271) [] [.ptr 0 0 0]]
def yy0 (a : List Task) : List Blk := [.box [.fn (.func 252) [] []]]
def yy1 (l : List SV) (b : List Blk) : Option (List Task) := match l, b with
  | [.r [] (.sl (.st .task) w0), .fn (.func 271) [] [.ptr 0 0 0]], [.box [.fn (.func 252) [] []]] => some w0
  | _, _ => none
def yy2 (a : List Task) (r : Task) : MOut := ⟨.agg [.r [] (.int .i64 r.id), .r [] (.sl (.int .i64) r.costs), .r [] (.int .i64 r.at_), .r [] (.int .i64 r.due), .r [] (.int .i64 r.born)], [some (.box [.fn (.func 252) [] []])], []⟩
def yy3 (a : List Task) (o : MOut) : Option (Task) := match o with
  | ⟨.agg [.r [] (.int .i64 z1), .r [] (.sl (.int .i64) z2), .r [] (.int .i64 z3), .r [] (.int .i64 z4), .r [] (.int .i64 z5)], [some (.box [.fn (.func 252) [] []])], []⟩ => some (⟨z1, z2, z3, z4, z5⟩ : Task)
  | _ => none
def yy4 (k : Nat) : MG := fun _ l b K => (yy1 l b).bind fun a => (slices_MinFunc_lI_Task_I_Task_m k a).bind fun r => K (yy2 a r)
theorem yy5 (k : Nat) (a : List Task) : ev (yxk k) (yxw (Task) k) 0 yxm (st0M Try.f270 (yxz a) (yy0 a)) (finM Try.prog Try.f270 (.agg [.sc, .ro (.int .i64), .sc, .sc, .sc]) [.box [.fn [] []]] (yy3 a)) = slices_MinFunc_lI_Task_I_Task_m k a := by kernel_rfl
theorem yy6 (k : Nat) : MutOk Try.prog 270 (yy4 k) :=
  mutOk_of_ev (yxl k) Try.func270 (by kernel_rfl) (by kernel_rfl) yxz yy0 yy1
    (fun l b a h => by unfold yy1 at h; split at h <;> first | (cases h; exact ⟨rfl, rfl⟩) | cases h) (fun a => rfl) (lpgood_of (l := [(0, yxn)]) (by kernel_rfl) ⟨yxy k, trivial⟩) (fun a r => rfl)
    (fun a o r h => by unfold yy3 at h; split at h <;> first | (skip; cases h; rfl) | cases h) (yy5 k)
def yy7 (k : Nat) : Orc := mutOrc [.one (.sl (.st .task)), .keep] (yy4 k)
theorem yy8 (k : Nat) : OrcOk Try.prog 270 (yy7 k) := mutOrc_ok (yy6 k)
noncomputable def yy9 (k : Nat) : Env := { P := Try.prog, tt := tt, orc := fun g => cond (Nat.beq g 228) (yvc k) (cond (Nat.beq g 268) (yt5 k) (cond (Nat.beq g 270) (yy7 k) (noOrc))), wr := fun g => mem g [228, 270], wt := true }
theorem yya (k : Nat) : EnvOk (yy9 k) := fun g => (orc_cond (yvd k) (orc_cond (yt6 k) (orc_cond (yy8 k) (noOrc_ok _ _))))
noncomputable def yyb : Code := (Try.f251.body).getD .skip
def yyc (ρ : Type) (k : Nat) : Nat → Ev ρ → Ev ρ := fun _ _ _ _ => none
def yyd (a : Sched × Sched) : List SV := [.agg [.r [] (.int .i64 a.1.now), .r [] (.int .i64 a.1.slack), .r [] (.int .i64 a.1.age), .r [] (.sl (.st .task) a.1.tasks), .r [] (.int .i64 a.1.run), .r [] (.int .i64 a.1.left), .r [] (.int .i64 a.1.turns), .r [] (.int .i64 a.1.next)], .fn (.func 120) [.agg [.r [] (.int .i64 a.2.now), .r [] (.int .i64 a.2.slack), .r [] (.int .i64 a.2.age), .r [] (.sl (.st .task) a.2.tasks), .r [] (.int .i64 a.2.run), .r [] (.int .i64 a.2.left), .r [] (.int .i64 a.2.turns), .r [] (.int .i64 a.2.next)]] [], .fn (.func 252) [] []]
def yye (a : Sched × Sched) : List Blk := []
def yyf (l : List SV) (b : List Blk) : Option (Sched × Sched) := match l, b with
  | [.agg [.r [] (.int .i64 w0), .r [] (.int .i64 w1), .r [] (.int .i64 w2), .r [] (.sl (.st .task) w3), .r [] (.int .i64 w4), .r [] (.int .i64 w5), .r [] (.int .i64 w6), .r [] (.int .i64 w7)], .fn (.func 120) [.agg [.r [] (.int .i64 w8), .r [] (.int .i64 w9), .r [] (.int .i64 w10), .r [] (.sl (.st .task) w11), .r [] (.int .i64 w12), .r [] (.int .i64 w13), .r [] (.int .i64 w14), .r [] (.int .i64 w15)]] [], .fn (.func 252) [] []], [] => some ((⟨w0, w1, w2, w3, w4, w5, w6, w7⟩ : Sched), (⟨w8, w9, w10, w11, w12, w13, w14, w15⟩ : Sched))
  | _, _ => none
def yyg (a : Sched × Sched) (r : Int) : MOut := ⟨.r [] (.int .i64 r), [], []⟩
def yyh (a : Sched × Sched) (o : MOut) : Option (Int) := match o with
  | ⟨.r [] (.int .i64 z1), [], []⟩ => some z1
  | _ => none
def yyi (k : Nat) : MG := fun _ l b K => (yyf l b).bind fun a => (I_Sched_first_m k a.1 a.2).bind fun r => K (yyg a r)
theorem yyj (k : Nat) (a : Sched × Sched) : ev (yy9 k) (yyc (Int) k) 0 yyb (st0M Try.f251 (yyd a) (yye a)) (finM Try.prog Try.f251 (.sc) [] (yyh a)) = I_Sched_first_m k a.1 a.2 := by kernel_rfl
theorem yyk (k : Nat) : MutOk Try.prog 251 (yyi k) :=
  mutOk_of_ev (yya k) Try.func251 (by kernel_rfl) (by kernel_rfl) yyd yye yyf
    (fun l b a h => by unfold yyf at h; split at h <;> first | (cases h; exact ⟨rfl, rfl⟩) | cases h) (fun a => rfl) (lpgood_none (by kernel_rfl)) (fun a r => rfl)
    (fun a o r h => by unfold yyh at h; split at h <;> first | (skip; cases h; rfl) | cases h) (yyj k)
def yyl (k : Nat) : Orc := mutOrc [.agg [(.int .i64), (.int .i64), (.int .i64), (.sl (.st .task)), (.int .i64), (.int .i64), (.int .i64), (.int .i64)], .keep, .keep] (yyi k)
theorem yym (k : Nat) : OrcOk Try.prog 251 (yyl k) := mutOrc_ok (yyk k)
noncomputable def yyn (k : Nat) : Env := { P := Try.prog, tt := tt, orc := fun g => cond (Nat.beq g 120) (ym0 k) (noOrc) }
theorem yyo (k : Nat) : EnvOk (yyn k) := fun g => (orc_cond (ym1 k) (noOrc_ok _ _))
noncomputable def yyp : Code := (Try.f253.body).getD .skip
def yyq (ρ : Type) (k : Nat) : Nat → Ev ρ → Ev ρ := fun _ _ _ _ => none
def yyr (a : Task × Sched) : List SV := [.agg [.r [] (.int .i64 a.1.id), .r [] (.sl (.int .i64) a.1.costs), .r [] (.int .i64 a.1.at_), .r [] (.int .i64 a.1.due), .r [] (.int .i64 a.1.born)], .ptr 0 0 0]
def yys (a : Task × Sched) : List Blk := [.box [.r [] (.int .i64 a.2.now), .r [] (.int .i64 a.2.slack), .r [] (.int .i64 a.2.age), .r [] (.sl (.st .task) a.2.tasks), .r [] (.int .i64 a.2.run), .r [] (.int .i64 a.2.left), .r [] (.int .i64 a.2.turns), .r [] (.int .i64 a.2.next)]]
def yyt (l : List SV) (b : List Blk) : Option (Task × Sched) := match l, b with
  | [.agg [.r [] (.int .i64 w0), .r [] (.sl (.int .i64) w1), .r [] (.int .i64 w2), .r [] (.int .i64 w3), .r [] (.int .i64 w4)], .ptr 0 0 0], [.box [.r [] (.int .i64 w5), .r [] (.int .i64 w6), .r [] (.int .i64 w7), .r [] (.sl (.st .task) w8), .r [] (.int .i64 w9), .r [] (.int .i64 w10), .r [] (.int .i64 w11), .r [] (.int .i64 w12)]] => some ((⟨w0, w1, w2, w3, w4⟩ : Task), (⟨w5, w6, w7, w8, w9, w10, w11, w12⟩ : Sched))
  | _, _ => none
def yyu (a : Task × Sched) (r : Bool) : MOut := ⟨.r [] (.bool r), [some (.box [.r [] (.int .i64 a.2.now), .r [] (.int .i64 a.2.slack), .r [] (.int .i64 a.2.age), .r [] (.sl (.st .task) a.2.tasks), .r [] (.int .i64 a.2.run), .r [] (.int .i64 a.2.left), .r [] (.int .i64 a.2.turns), .r [] (.int .i64 a.2.next)])], []⟩
def yyv (a : Task × Sched) (o : MOut) : Option (Bool) := match o with
  | ⟨.r [] (.bool z1), [some (.box [.r [] (.int .i64 z2), .r [] (.int .i64 z3), .r [] (.int .i64 z4), .r [] (.sl (.st .task) z5), .r [] (.int .i64 z6), .r [] (.int .i64 z7), .r [] (.int .i64 z8), .r [] (.int .i64 z9)])], []⟩ => cond (@sameL Int _ z2 a.2.now) (cond (@sameL Int _ z3 a.2.slack) (cond (@sameL Int _ z4 a.2.age) (cond (@sameL (List Task) _ z5 a.2.tasks) (cond (@sameL Int _ z6 a.2.run) (cond (@sameL Int _ z7 a.2.left) (cond (@sameL Int _ z8 a.2.turns) (cond (@sameL Int _ z9 a.2.next) (some z1) none) none) none) none) none) none) none) none
  | _ => none
def yyw (k : Nat) : MG := fun _ l b K => (yyt l b).bind fun a => (I_Sched_pick_c2_m k a.1 a.2).bind fun r => K (yyu a r)
theorem yyx (k : Nat) (a : Task × Sched) : ev (yyn k) (yyq (Bool) k) 0 yyp (st0M Try.f253 (yyr a) (yys a)) (finM Try.prog Try.f253 (.sc) [.box [.sc, .sc, .sc, .ro (.st .task), .sc, .sc, .sc, .sc]] (yyv a)) = I_Sched_pick_c2_m k a.1 a.2 := by kernel_rfl
theorem yyy (k : Nat) : MutOk Try.prog 253 (yyw k) :=
  mutOk_of_ev (yyo k) Try.func253 (by kernel_rfl) (by kernel_rfl) yyr yys yyt
    (fun l b a h => by unfold yyt at h; split at h <;> first | (cases h; exact ⟨rfl, rfl⟩) | cases h) (fun a => rfl) (lpgood_none (by kernel_rfl)) (fun a r => rfl)
    (fun a o r h => by unfold yyv at h; split at h <;> first | (obtain ⟨e0, e1, e2, e3, e4, e5, e6, e7, hq⟩ := dec_chk8 h; clear h; subst e0; subst e1; subst e2; subst e3; subst e4; subst e5; subst e6; subst e7; have h := hq; clear hq; cases h; rfl) | cases h) (yyx k)
def yyz (k : Nat) : Orc := mutOrc [.agg [(.int .i64), (.sl (.int .i64)), (.int .i64), (.int .i64), (.int .i64)], .keep] (yyw k)
theorem yz0 (k : Nat) : OrcOk Try.prog 253 (yyz k) := mutOrc_ok (yyy k)
noncomputable def yz1 (k : Nat) : Env := { P := Try.prog, tt := tt, orc := fun g => cond (Nat.beq g 253) (yyz k) (noOrc), wr := fun g => mem g [253], wt := true }
theorem yz2 (k : Nat) : EnvOk (yz1 k) := fun g => (orc_cond (yz0 k) (noOrc_ok _ _))
noncomputable def yz3 : Code := (Try.f269.body).getD .skip
def yz4 (ρ : Type) (k : Nat) : Nat → Ev ρ → Ev ρ := fun _ _ _ _ => none
def yz5 (a : Task × Sched) : List SV := [.agg [.r [] (.int .i64 a.1.id), .r [] (.sl (.int .i64) a.1.costs), .r [] (.int .i64 a.1.at_), .r [] (.int .i64 a.1.due), .r [] (.int .i64 a.1.born)], .ptr 0 0 0]
def yz6 (a : Task × Sched) : List Blk := [.box [.fn (.func 253) [] [.ptr 1 0 0]], .box [.r [] (.int .i64 a.2.now), .r [] (.int .i64 a.2.slack), .r [] (.int .i64 a.2.age), .r [] (.sl (.st .task) a.2.tasks), .r [] (.int .i64 a.2.run), .r [] (.int .i64 a.2.left), .r [] (.int .i64 a.2.turns), .r [] (.int .i64 a.2.next)]]
def yz7 (l : List SV) (b : List Blk) : Option (Task × Sched) := match l, b with
  | [.agg [.r [] (.int .i64 w0), .r [] (.sl (.int .i64) w1), .r [] (.int .i64 w2), .r [] (.int .i64 w3), .r [] (.int .i64 w4)], .ptr 0 0 0], [.box [.fn (.func 253) [] [.ptr 1 0 0]], .box [.r [] (.int .i64 w5), .r [] (.int .i64 w6), .r [] (.int .i64 w7), .r [] (.sl (.st .task) w8), .r [] (.int .i64 w9), .r [] (.int .i64 w10), .r [] (.int .i64 w11), .r [] (.int .i64 w12)]] => some ((⟨w0, w1, w2, w3, w4⟩ : Task), (⟨w5, w6, w7, w8, w9, w10, w11, w12⟩ : Sched))
  | _, _ => none
def yz8 (a : Task × Sched) (r : Bool) : MOut := ⟨.r [] (.bool r), [some (.box [.fn (.func 253) [] [.ptr 1 0 0]]), some (.box [.r [] (.int .i64 a.2.now), .r [] (.int .i64 a.2.slack), .r [] (.int .i64 a.2.age), .r [] (.sl (.st .task) a.2.tasks), .r [] (.int .i64 a.2.run), .r [] (.int .i64 a.2.left), .r [] (.int .i64 a.2.turns), .r [] (.int .i64 a.2.next)])], []⟩
def yz9 (a : Task × Sched) (o : MOut) : Option (Bool) := match o with
  | ⟨.r [] (.bool z1), [some (.box [.fn (.func 253) [] [.ptr 1 0 0]]), some (.box [.r [] (.int .i64 z2), .r [] (.int .i64 z3), .r [] (.int .i64 z4), .r [] (.sl (.st .task) z5), .r [] (.int .i64 z6), .r [] (.int .i64 z7), .r [] (.int .i64 z8), .r [] (.int .i64 z9)])], []⟩ => cond (@sameL Int _ z2 a.2.now) (cond (@sameL Int _ z3 a.2.slack) (cond (@sameL Int _ z4 a.2.age) (cond (@sameL (List Task) _ z5 a.2.tasks) (cond (@sameL Int _ z6 a.2.run) (cond (@sameL Int _ z7 a.2.left) (cond (@sameL Int _ z8 a.2.turns) (cond (@sameL Int _ z9 a.2.next) (some z1) none) none) none) none) none) none) none) none
  | _ => none
def yza (k : Nat) : MG := fun _ l b K => (yz7 l b).bind fun a => (I_Sched_first_c1_m3 k a.1 a.2).bind fun r => K (yz8 a r)
theorem yzb (k : Nat) (a : Task × Sched) : ev (yz1 k) (yz4 (Bool) k) 0 yz3 (st0M Try.f269 (yz5 a) (yz6 a)) (finM Try.prog Try.f269 (.sc) [.box [.fn [] [.ptr]], .box [.sc, .sc, .sc, .ro (.st .task), .sc, .sc, .sc, .sc]] (yz9 a)) = I_Sched_first_c1_m3 k a.1 a.2 := by kernel_rfl
theorem yzc (k : Nat) : MutOk Try.prog 269 (yza k) :=
  mutOk_of_ev (yz2 k) Try.func269 (by kernel_rfl) (by kernel_rfl) yz5 yz6 yz7
    (fun l b a h => by unfold yz7 at h; split at h <;> first | (cases h; exact ⟨rfl, rfl⟩) | cases h) (fun a => rfl) (lpgood_none (by kernel_rfl)) (fun a r => rfl)
    (fun a o r h => by unfold yz9 at h; split at h <;> first | (obtain ⟨e0, e1, e2, e3, e4, e5, e6, e7, hq⟩ := dec_chk8 h; clear h; subst e0; subst e1; subst e2; subst e3; subst e4; subst e5; subst e6; subst e7; have h := hq; clear hq; cases h; rfl) | cases h) (yzb k)
def yzd (k : Nat) : Orc := mutOrc [.agg [(.int .i64), (.sl (.int .i64)), (.int .i64), (.int .i64), (.int .i64)], .keep] (yza k)
theorem yze (k : Nat) : OrcOk Try.prog 269 (yzd k) := mutOrc_ok (yzc k)
noncomputable def yzf (k : Nat) : Env := { P := Try.prog, tt := tt, orc := fun g => cond (Nat.beq g 253) (yyz k) (noOrc), wr := fun g => mem g [253], wt := true }
theorem yzg (k : Nat) : EnvOk (yzf k) := fun g => (orc_cond (yz0 k) (noOrc_ok _ _))
noncomputable def yzh : Code := (Try.f269.body).getD .skip
def yzi (ρ : Type) (k : Nat) : Nat → Ev ρ → Ev ρ := fun _ _ _ _ => none
def yzj (a : Task × Sched) : List SV := [.agg [.r [] (.int .i64 a.1.id), .r [] (.sl (.int .i64) a.1.costs), .r [] (.int .i64 a.1.at_), .r [] (.int .i64 a.1.due), .r [] (.int .i64 a.1.born)], .ptr 0 0 0]
def yzk (a : Task × Sched) : List Blk := [.box [.fn (.func 253) [] [.ptr 1 0 0]], .box [.r [] (.int .i64 a.2.now), .r [] (.int .i64 a.2.slack), .r [] (.int .i64 a.2.age), .r [] (.sl (.st .task) a.2.tasks), .r [] (.int .i64 a.2.run), .r [] (.int .i64 a.2.left), .r [] (.int .i64 a.2.turns), .r [] (.int .i64 a.2.next)]]
def yzl (l : List SV) (b : List Blk) : Option (Task × Sched) := match l, b with
  | [.agg [.r [] (.int .i64 w0), .r [] (.sl (.int .i64) w1), .r [] (.int .i64 w2), .r [] (.int .i64 w3), .r [] (.int .i64 w4)], .ptr 0 0 0], [.box [.fn (.func 253) [] [.ptr 1 0 0]], .box [.r [] (.int .i64 w5), .r [] (.int .i64 w6), .r [] (.int .i64 w7), .r [] (.sl (.st .task) w8), .r [] (.int .i64 w9), .r [] (.int .i64 w10), .r [] (.int .i64 w11), .r [] (.int .i64 w12)]] => some ((⟨w0, w1, w2, w3, w4⟩ : Task), (⟨w5, w6, w7, w8, w9, w10, w11, w12⟩ : Sched))
  | _, _ => none
def yzm (a : Task × Sched) (r : Bool) : MOut := ⟨.r [] (.bool r), [some (.box [.fn (.func 253) [] [.ptr 1 0 0]]), some (.box [.r [] (.int .i64 a.2.now), .r [] (.int .i64 a.2.slack), .r [] (.int .i64 a.2.age), .r [] (.sl (.st .task) a.2.tasks), .r [] (.int .i64 a.2.run), .r [] (.int .i64 a.2.left), .r [] (.int .i64 a.2.turns), .r [] (.int .i64 a.2.next)])], []⟩
def yzn (a : Task × Sched) (o : MOut) : Option (Bool) := match o with
  | ⟨.r [] (.bool z1), [some (.box [.fn (.func 253) [] [.ptr 1 0 0]]), some (.box [.r [] (.int .i64 z2), .r [] (.int .i64 z3), .r [] (.int .i64 z4), .r [] (.sl (.st .task) z5), .r [] (.int .i64 z6), .r [] (.int .i64 z7), .r [] (.int .i64 z8), .r [] (.int .i64 z9)])], []⟩ => cond (@sameL Int _ z2 a.2.now) (cond (@sameL Int _ z3 a.2.slack) (cond (@sameL Int _ z4 a.2.age) (cond (@sameL (List Task) _ z5 a.2.tasks) (cond (@sameL Int _ z6 a.2.run) (cond (@sameL Int _ z7 a.2.left) (cond (@sameL Int _ z8 a.2.turns) (cond (@sameL Int _ z9 a.2.next) (some z1) none) none) none) none) none) none) none) none
  | _ => none
def yzo (k : Nat) : MG := fun _ l b K => (yzl l b).bind fun a => (I_Sched_first_c1_m4 k a.1 a.2).bind fun r => K (yzm a r)
theorem yzp (k : Nat) (a : Task × Sched) : ev (yzf k) (yzi (Bool) k) 0 yzh (st0M Try.f269 (yzj a) (yzk a)) (finM Try.prog Try.f269 (.sc) [.box [.fn [] [.ptr]], .box [.sc, .sc, .sc, .ro (.st .task), .sc, .sc, .sc, .sc]] (yzn a)) = I_Sched_first_c1_m4 k a.1 a.2 := by kernel_rfl
theorem yzq (k : Nat) : MutOk Try.prog 269 (yzo k) :=
  mutOk_of_ev (yzg k) Try.func269 (by kernel_rfl) (by kernel_rfl) yzj yzk yzl
    (fun l b a h => by unfold yzl at h; split at h <;> first | (cases h; exact ⟨rfl, rfl⟩) | cases h) (fun a => rfl) (lpgood_none (by kernel_rfl)) (fun a r => rfl)
    (fun a o r h => by unfold yzn at h; split at h <;> first | (obtain ⟨e0, e1, e2, e3, e4, e5, e6, e7, hq⟩ := dec_chk8 h; clear h; subst e0; subst e1; subst e2; subst e3; subst e4; subst e5; subst e6; subst e7; have h := hq; clear hq; cases h; rfl) | cases h) (yzp k)
def yzr (k : Nat) : Orc := mutOrc [.keep, .keep] (yzo k)
theorem yzs (k : Nat) : OrcOk Try.prog 269 (yzr k) := mutOrc_ok (yzq k)
noncomputable def yzt (k : Nat) : Env := { P := Try.prog, tt := tt, orc := fun g => cond (Nat.beq g 269) (yzd k) (noOrc), wr := fun g => mem g [269], wt := true }
theorem yzu (k : Nat) : EnvOk (yzt k) := fun g => (orc_cond (yze k) (noOrc_ok _ _))
noncomputable def yzv : Code := (Try.f192.body).getD .skip
noncomputable def yzw : Code := ((loopsIn 0 yzv).getD 0 (0, .skip)).2
def yzx : List Nat := [0, 1, 7, 8]
def yzy : List (Where × Co) := []
def yzz : Ex → List Nat
  | .exit j => cond (Nat.beq j 0) [] []
  | .ret => [4]
  | .normal => []
def y100 : Ex → List (Where × Co)
  | .exit j => cond (Nat.beq j 0) [] []
  | .ret => []
  | .normal => []
def y101 (pv : (Int × List Task × Int × Int × Int × List Task × Int × Int × Int × Int) × (Int)) : St := { slots := [(0, .own 0), (1, .fn (.func 269) [] [.ptr 1 0 0]), (7, .r [] (.int .i64 pv.1.1)), (8, .r [] (.int .i64 pv.2))], heap := [(0, .arr (some []) (.st .task) pv.1.2.1), (1, .box [.fn (.func 253) [] [.ptr 2 0 0]]), (2, .box [.r [] (.int .i64 pv.1.2.2.1), .r [] (.int .i64 pv.1.2.2.2.1), .r [] (.int .i64 pv.1.2.2.2.2.1), .r [] (.sl (.st .task) pv.1.2.2.2.2.2.1), .r [] (.int .i64 pv.1.2.2.2.2.2.2.1), .r [] (.int .i64 pv.1.2.2.2.2.2.2.2.1), .r [] (.int .i64 pv.1.2.2.2.2.2.2.2.2.1), .r [] (.int .i64 pv.1.2.2.2.2.2.2.2.2.2)])], nid := 3, n := 19, gh := [some 0, some 1, some 2] }
def y102 (nf : NF) : Option ((Int × List Task × Int × Int × Int × List Task × Int × Int × Int × Int) × (Int)) := match nf with
  | ([.own 0, .fn (.func 269) [] [.ptr 1 0 0], .r [] (.int .i64 w0), .r [] (.int .i64 w1)], [.arr (some []) (.st .task) w2, .box [.fn (.func 253) [] [.ptr 2 0 0]], .box [.r [] (.int .i64 w3), .r [] (.int .i64 w4), .r [] (.int .i64 w5), .r [] (.sl (.st .task) w6), .r [] (.int .i64 w7), .r [] (.int .i64 w8), .r [] (.int .i64 w9), .r [] (.int .i64 w10)]], [some 0, some 1, some 2]) => some ((w0, w2, w3, w4, w5, w6, w7, w8, w9, w10), w1)
  | _ => none
theorem y103 (nf : NF) (v : (Int × List Task × Int × Int × Int × List Task × Int × Int × Int × Int) × (Int)) (h : y102 nf = some v) : denorm yzx 19 nf = y101 v := by
  unfold y102 at h
  split at h
  · cases h; rfl
  · cases h
def y104 (p : Int × List Task × Int × Int × Int × List Task × Int × Int × Int × Int) (x : Unit) : St := { slots := [], heap := [(0, .arr (some []) (.st .task) p.2.1), (1, .box [.fn (.func 253) [] [.ptr 2 0 0]]), (2, .box [.r [] (.int .i64 p.2.2.1), .r [] (.int .i64 p.2.2.2.1), .r [] (.int .i64 p.2.2.2.2.1), .r [] (.sl (.st .task) p.2.2.2.2.2.1), .r [] (.int .i64 p.2.2.2.2.2.2.1), .r [] (.int .i64 p.2.2.2.2.2.2.2.1), .r [] (.int .i64 p.2.2.2.2.2.2.2.2.1), .r [] (.int .i64 p.2.2.2.2.2.2.2.2.2)])], nid := 3, n := 19, gh := [some 0, some 1, some 2] }
def y105 (p : Int × List Task × Int × Int × Int × List Task × Int × Int × Int × Int) (x : Int) : St := { slots := [(4, .r [] (.int .i64 x))], heap := [(0, .arr (some []) (.st .task) p.2.1), (1, .box [.fn (.func 253) [] [.ptr 2 0 0]]), (2, .box [.r [] (.int .i64 p.2.2.1), .r [] (.int .i64 p.2.2.2.1), .r [] (.int .i64 p.2.2.2.2.1), .r [] (.sl (.st .task) p.2.2.2.2.2.1), .r [] (.int .i64 p.2.2.2.2.2.2.1), .r [] (.int .i64 p.2.2.2.2.2.2.2.1), .r [] (.int .i64 p.2.2.2.2.2.2.2.2.1), .r [] (.int .i64 p.2.2.2.2.2.2.2.2.2)])], nid := 3, n := 19, gh := [some 0, some 1, some 2] }
def y106 (ρ : Type) (k : Nat) : Nat → Ev ρ → Ev ρ := fun id f => cond (Nat.beq id 0) (loopOrc yzx yzy (fun n nf => cond (Nat.beq n 19) (y102 nf) none) fun pv K => iter (fun v next => slices_IndexFunc_lI_Task_I_Task_m9_g0 k pv.1 v next (fun x => K (.exit 0) (y104 pv.1 x)) (fun x => K .ret (y105 pv.1 x))) k pv.2) ((fun _ _ _ _ => none) id f)
theorem y107 {ρ : Type} (k : Nat) (p : Int × List Task × Int × Int × Int × List Task × Int × Int × Int × Int) (v : Int) (K K1 : Ex → St → Option ρ) : ev (yzt k) (y106 ρ k) 0 yzw (y101 (p, v)) (fun e st' => match e with
    | .normal => (normC yzx yzy st').bind fun nf => K1 .normal (denorm yzx st'.n nf)
    | e => (normC (yzz e) (y100 e) st').bind fun nf => K e (denorm (yzz e) st'.n nf)) = slices_IndexFunc_lI_Task_I_Task_m9_g0 k p v (fun v' => K1 .normal (y101 (p, v'))) (fun x => K (.exit 0) (y104 p x)) (fun x => K .ret (y105 p x)) := by kernel_rfl
theorem y108 {ρ : Type} (k : Nat) : Sound Try.prog (.loop yzw) (y106 ρ k 0 fun st K => ev (yzt k) (y106 ρ k) 0 yzw st K) :=
  loop_ok (ev_sound (yzu k) yzw 0 (lpgood_none (by kernel_rfl))) yzz y100 k (g := fun p v next K => slices_IndexFunc_lI_Task_I_Task_m9_g0 k p v next (fun x => K (.exit 0) (y104 p x)) (fun x => K .ret (y105 p x))) (dec_at y103) (fun p v K K1 => y107 k p v K K1)
def y109 (a : List Task × Sched) : List SV := [.own 0, .fn (.func 269) [] [.ptr 1 0 0]]
def y10a (a : List Task × Sched) : List Blk := [.arr (some []) (.st .task) a.1, .box [.fn (.func 253) [] [.ptr 2 0 0]], .box [.r [] (.int .i64 a.2.now), .r [] (.int .i64 a.2.slack), .r [] (.int .i64 a.2.age), .r [] (.sl (.st .task) a.2.tasks), .r [] (.int .i64 a.2.run), .r [] (.int .i64 a.2.left), .r [] (.int .i64 a.2.turns), .r [] (.int .i64 a.2.next)]]
def y10b (l : List SV) (b : List Blk) : Option (List Task × Sched) := match l, b with
  | [.own 0, .fn (.func 269) [] [.ptr 1 0 0]], [.arr (some []) (.st .task) w0, .box [.fn (.func 253) [] [.ptr 2 0 0]], .box [.r [] (.int .i64 w1), .r [] (.int .i64 w2), .r [] (.int .i64 w3), .r [] (.sl (.st .task) w4), .r [] (.int .i64 w5), .r [] (.int .i64 w6), .r [] (.int .i64 w7), .r [] (.int .i64 w8)]] => some (w0, (⟨w1, w2, w3, w4, w5, w6, w7, w8⟩ : Sched))
  | _, _ => none
def y10c (a : List Task × Sched) (r : Int) : MOut := ⟨.r [] (.int .i64 r), [some (.arr (some []) (.st .task) a.1), some (.box [.fn (.func 253) [] [.ptr 2 0 0]]), some (.box [.r [] (.int .i64 a.2.now), .r [] (.int .i64 a.2.slack), .r [] (.int .i64 a.2.age), .r [] (.sl (.st .task) a.2.tasks), .r [] (.int .i64 a.2.run), .r [] (.int .i64 a.2.left), .r [] (.int .i64 a.2.turns), .r [] (.int .i64 a.2.next)])], []⟩
def y10d (a : List Task × Sched) (o : MOut) : Option (Int) := match o with
  | ⟨.r [] (.int .i64 z1), [some (.arr (some []) (.st .task) z2), some (.box [.fn (.func 253) [] [.ptr 2 0 0]]), some (.box [.r [] (.int .i64 z3), .r [] (.int .i64 z4), .r [] (.int .i64 z5), .r [] (.sl (.st .task) z6), .r [] (.int .i64 z7), .r [] (.int .i64 z8), .r [] (.int .i64 z9), .r [] (.int .i64 z10)])], []⟩ => cond (@sameL (List Task) _ z2 a.1) (cond (@sameL Int _ z3 a.2.now) (cond (@sameL Int _ z4 a.2.slack) (cond (@sameL Int _ z5 a.2.age) (cond (@sameL (List Task) _ z6 a.2.tasks) (cond (@sameL Int _ z7 a.2.run) (cond (@sameL Int _ z8 a.2.left) (cond (@sameL Int _ z9 a.2.turns) (cond (@sameL Int _ z10 a.2.next) (some z1) none) none) none) none) none) none) none) none) none
  | _ => none
def y10e (k : Nat) : MG := fun _ l b K => (y10b l b).bind fun a => (slices_IndexFunc_lI_Task_I_Task_m9 k a.1 a.2).bind fun r => K (y10c a r)
theorem y10f (k : Nat) (a : List Task × Sched) : ev (yzt k) (y106 (Int) k) 0 yzv (st0M Try.f192 (y109 a) (y10a a)) (finM Try.prog Try.f192 (.sc) [.arr, .box [.fn [] [.ptr]], .box [.sc, .sc, .sc, .ro (.st .task), .sc, .sc, .sc, .sc]] (y10d a)) = slices_IndexFunc_lI_Task_I_Task_m9 k a.1 a.2 := by kernel_rfl
theorem y10g (k : Nat) : MutOk Try.prog 192 (y10e k) :=
  mutOk_of_ev (yzu k) Try.func192 (by kernel_rfl) (by kernel_rfl) y109 y10a y10b
    (fun l b a h => by unfold y10b at h; split at h <;> first | (cases h; exact ⟨rfl, rfl⟩) | cases h) (fun a => rfl) (lpgood_of (l := [(0, yzw)]) (by kernel_rfl) ⟨y108 k, trivial⟩) (fun a r => rfl)
    (fun a o r h => by unfold y10d at h; split at h <;> first | (obtain ⟨e0, e1, e2, e3, e4, e5, e6, e7, e8, hq⟩ := dec_chk9 h; clear h; subst e0; subst e1; subst e2; subst e3; subst e4; subst e5; subst e6; subst e7; subst e8; have h := hq; clear hq; cases h; rfl) | cases h) (y10f k)
def y10h (k : Nat) : Orc := mutOrc [.keep, .keep] (y10e k)
theorem y10i (k : Nat) : OrcOk Try.prog 192 (y10h k) := mutOrc_ok (y10g k)
noncomputable def y10j (k : Nat) : Env := { P := Try.prog, tt := tt, orc := fun g => cond (Nat.beq g 192) (y10h k) (cond (Nat.beq g 269) (yzr k) (noOrc)), wr := fun g => mem g [192, 269], wt := true }
theorem y10k (k : Nat) : EnvOk (y10j k) := fun g => (orc_cond (y10i k) (orc_cond (yzs k) (noOrc_ok _ _)))
noncomputable def y10l : Code := (Try.f228.body).getD .skip
noncomputable def y10m : Code := ((loopsIn 0 y10l).getD 0 (0, .skip)).2
def y10n : List Nat := [0, 1, 5, 6]
def y10o : List (Where × Co) := []
def y10p : Ex → List Nat
  | .exit j => cond (Nat.beq j 0) [0, 5] []
  | .ret => []
  | .normal => []
def y10q : Ex → List (Where × Co)
  | .exit j => cond (Nat.beq j 0) [] []
  | .ret => []
  | .normal => []
def y10r (pv : (Int × Int × Int × List Task × Int × Int × Int × Int) × (Int × Int × List Task)) : St := { slots := [(0, .own 0), (1, .fn (.func 269) [] [.ptr 1 0 0]), (5, .r [] (.int .i64 pv.2.1)), (6, .r [] (.int .i64 pv.2.2.1))], heap := [(0, .arr (some []) (.st .task) pv.2.2.2), (1, .box [.fn (.func 253) [] [.ptr 2 0 0]]), (2, .box [.r [] (.int .i64 pv.1.1), .r [] (.int .i64 pv.1.2.1), .r [] (.int .i64 pv.1.2.2.1), .r [] (.sl (.st .task) pv.1.2.2.2.1), .r [] (.int .i64 pv.1.2.2.2.2.1), .r [] (.int .i64 pv.1.2.2.2.2.2.1), .r [] (.int .i64 pv.1.2.2.2.2.2.2.1), .r [] (.int .i64 pv.1.2.2.2.2.2.2.2)])], nid := 3, n := 42, gh := [some 0, some 1, some 2] }
def y10s (nf : NF) : Option ((Int × Int × Int × List Task × Int × Int × Int × Int) × (Int × Int × List Task)) := match nf with
  | ([.own 0, .fn (.func 269) [] [.ptr 1 0 0], .r [] (.int .i64 w0), .r [] (.int .i64 w1)], [.arr (some []) (.st .task) w2, .box [.fn (.func 253) [] [.ptr 2 0 0]], .box [.r [] (.int .i64 w3), .r [] (.int .i64 w4), .r [] (.int .i64 w5), .r [] (.sl (.st .task) w6), .r [] (.int .i64 w7), .r [] (.int .i64 w8), .r [] (.int .i64 w9), .r [] (.int .i64 w10)]], [some 0, some 1, some 2]) => some ((w3, w4, w5, w6, w7, w8, w9, w10), (w0, w1, w2))
  | _ => none
theorem y10t (nf : NF) (v : (Int × Int × Int × List Task × Int × Int × Int × Int) × (Int × Int × List Task)) (h : y10s nf = some v) : denorm y10n 42 nf = y10r v := by
  unfold y10s at h
  split at h
  · cases h; rfl
  · cases h
def y10u (p : Int × Int × Int × List Task × Int × Int × Int × Int) (x : Int × List Task) : St := { slots := [(0, .own 0), (5, .r [] (.int .i64 x.1))], heap := [(0, .arr (some []) (.st .task) x.2), (1, .box [.fn (.func 253) [] [.ptr 2 0 0]]), (2, .box [.r [] (.int .i64 p.1), .r [] (.int .i64 p.2.1), .r [] (.int .i64 p.2.2.1), .r [] (.sl (.st .task) p.2.2.2.1), .r [] (.int .i64 p.2.2.2.2.1), .r [] (.int .i64 p.2.2.2.2.2.1), .r [] (.int .i64 p.2.2.2.2.2.2.1), .r [] (.int .i64 p.2.2.2.2.2.2.2)])], nid := 3, n := 42, gh := [some 0, some 1, some 2] }
def y10v (ρ : Type) (k : Nat) : Nat → Ev ρ → Ev ρ := fun id f => cond (Nat.beq id 0) (loopOrc y10n y10o (fun n nf => cond (Nat.beq n 42) (y10s nf) none) fun pv K => iter (fun v next => slices_DeleteFunc_lI_Task_I_Task_m8_g0 k pv.1 v next (fun x => K (.exit 0) (y10u pv.1 x))) k pv.2) ((fun _ _ _ _ => none) id f)
theorem y10w {ρ : Type} (k : Nat) (p : Int × Int × Int × List Task × Int × Int × Int × Int) (v : Int × Int × List Task) (K K1 : Ex → St → Option ρ) : ev (y10j k) (y10v ρ k) 0 y10m (y10r (p, v)) (fun e st' => match e with
    | .normal => (normC y10n y10o st').bind fun nf => K1 .normal (denorm y10n st'.n nf)
    | e => (normC (y10p e) (y10q e) st').bind fun nf => K e (denorm (y10p e) st'.n nf)) = slices_DeleteFunc_lI_Task_I_Task_m8_g0 k p v (fun v' => K1 .normal (y10r (p, v'))) (fun x => K (.exit 0) (y10u p x)) := by kernel_rfl
theorem y10x {ρ : Type} (k : Nat) : Sound Try.prog (.loop y10m) (y10v ρ k 0 fun st K => ev (y10j k) (y10v ρ k) 0 y10m st K) :=
  loop_ok (ev_sound (y10k k) y10m 0 (lpgood_none (by kernel_rfl))) y10p y10q k (g := fun p v next K => slices_DeleteFunc_lI_Task_I_Task_m8_g0 k p v next (fun x => K (.exit 0) (y10u p x))) (dec_at y10t) (fun p v K K1 => y10w k p v K K1)
def y10y (a : List Task × Sched) : List SV := [.own 0, .fn (.func 269) [] [.ptr 1 0 0]]
def y10z (a : List Task × Sched) : List Blk := [.arr (some []) (.st .task) a.1, .box [.fn (.func 253) [] [.ptr 2 0 0]], .box [.r [] (.int .i64 a.2.now), .r [] (.int .i64 a.2.slack), .r [] (.int .i64 a.2.age), .r [] (.sl (.st .task) a.2.tasks), .r [] (.int .i64 a.2.run), .r [] (.int .i64 a.2.left), .r [] (.int .i64 a.2.turns), .r [] (.int .i64 a.2.next)]]
def y110 (l : List SV) (b : List Blk) : Option (List Task × Sched) := match l, b with
  | [.own 0, .fn (.func 269) [] [.ptr 1 0 0]], [.arr (some []) (.st .task) w0, .box [.fn (.func 253) [] [.ptr 2 0 0]], .box [.r [] (.int .i64 w1), .r [] (.int .i64 w2), .r [] (.int .i64 w3), .r [] (.sl (.st .task) w4), .r [] (.int .i64 w5), .r [] (.int .i64 w6), .r [] (.int .i64 w7), .r [] (.int .i64 w8)]] => some (w0, (⟨w1, w2, w3, w4, w5, w6, w7, w8⟩ : Sched))
  | _, _ => none
def y111 (a : List Task × Sched) (r : List Task) : MOut := ⟨.own 3, [none, some (.box [.fn (.func 253) [] [.ptr 2 0 0]]), some (.box [.r [] (.int .i64 a.2.now), .r [] (.int .i64 a.2.slack), .r [] (.int .i64 a.2.age), .r [] (.sl (.st .task) a.2.tasks), .r [] (.int .i64 a.2.run), .r [] (.int .i64 a.2.left), .r [] (.int .i64 a.2.turns), .r [] (.int .i64 a.2.next)])], [.arr (some []) (.st .task) r]⟩
def y112 (a : List Task × Sched) (o : MOut) : Option (List Task) := match o with
  | ⟨.own 3, [none, some (.box [.fn (.func 253) [] [.ptr 2 0 0]]), some (.box [.r [] (.int .i64 z1), .r [] (.int .i64 z2), .r [] (.int .i64 z3), .r [] (.sl (.st .task) z4), .r [] (.int .i64 z5), .r [] (.int .i64 z6), .r [] (.int .i64 z7), .r [] (.int .i64 z8)])], [.arr (some []) (.st .task) z9]⟩ => cond (@sameL Int _ z1 a.2.now) (cond (@sameL Int _ z2 a.2.slack) (cond (@sameL Int _ z3 a.2.age) (cond (@sameL (List Task) _ z4 a.2.tasks) (cond (@sameL Int _ z5 a.2.run) (cond (@sameL Int _ z6 a.2.left) (cond (@sameL Int _ z7 a.2.turns) (cond (@sameL Int _ z8 a.2.next) (some z9) none) none) none) none) none) none) none) none
  | _ => none
def y113 (k : Nat) : MG := fun _ l b K => (y110 l b).bind fun a => (slices_DeleteFunc_lI_Task_I_Task_m8 k a.1 a.2).bind fun r => K (y111 a r)
theorem y114 (k : Nat) (a : List Task × Sched) : ev (y10j k) (y10v (List Task) k) 0 y10l (st0M Try.f228 (y10y a) (y10z a)) (finM Try.prog Try.f228 (.shl (.st .task)) [.gone, .box [.fn [] [.ptr]], .box [.sc, .sc, .sc, .ro (.st .task), .sc, .sc, .sc, .sc]] (y112 a)) = slices_DeleteFunc_lI_Task_I_Task_m8 k a.1 a.2 := by kernel_rfl
theorem y115 (k : Nat) : MutOk Try.prog 228 (y113 k) :=
  mutOk_of_ev (y10k k) Try.func228 (by kernel_rfl) (by kernel_rfl) y10y y10z y110
    (fun l b a h => by unfold y110 at h; split at h <;> first | (cases h; exact ⟨rfl, rfl⟩) | cases h) (fun a => rfl) (lpgood_of (l := [(0, y10m)]) (by kernel_rfl) ⟨y10x k, trivial⟩) (fun a r => rfl)
    (fun a o r h => by unfold y112 at h; split at h <;> first | (obtain ⟨e0, e1, e2, e3, e4, e5, e6, e7, hq⟩ := dec_chk8 h; clear h; subst e0; subst e1; subst e2; subst e3; subst e4; subst e5; subst e6; subst e7; have h := hq; clear hq; cases h; rfl) | cases h) (y114 k)
def y116 (k : Nat) : Orc := mutOrc [.keep, .keep] (y113 k)
theorem y117 (k : Nat) : OrcOk Try.prog 228 (y116 k) := mutOrc_ok (y115 k)
noncomputable def y118 (k : Nat) : Env := { P := Try.prog, tt := tt, orc := fun g => noOrc }
theorem y119 (k : Nat) : EnvOk (y118 k) := fun g => (noOrc_ok _ _)
noncomputable def y11a : Code := (Try.f254.body).getD .skip
def y11b (ρ : Type) (k : Nat) : Nat → Ev ρ → Ev ρ := fun _ _ _ _ => none
def y11c (a : Task) : List Arg := [.agg [.int .i64 a.id, .sl (.int .i64) a.costs, .int .i64 a.at_, .int .i64 a.due, .int .i64 a.born]]
def y11d (l : List Arg) : Option (Task) := match l with
  | [.agg [.int .i64 b0_0, .sl (.int .i64) b0_1, .int .i64 b0_2, .int .i64 b0_3, .int .i64 b0_4]] => some (⟨b0_0, b0_1, b0_2, b0_3, b0_4⟩ : Task)
  | _ => none
def y11e (r : Int) : Out := (.r [] (.int .i64 r), [])
def y11f (o : Out) : Option (Int) := match o with
  | (.r [] (.int .i64 z1), []) => some z1
  | _ => none
def y11g (k : Nat) : PG := fun _ l K => (y11d l).bind fun a => (I_Sched_pick_c3 k a).bind fun r => K (y11e r)
theorem y11h (k : Nat) (a : Task) : ev (y118 k) (y11b (Int) k) 0 y11a (st0 Try.f254 (y11c a)) (fin Try.prog Try.f254 (.sc) y11f) = I_Sched_pick_c3 k a := by kernel_rfl
theorem y11i (k : Nat) : PureOk Try.prog 254 (y11g k) :=
  pureOk_of_ev (y119 k) Try.func254 (by kernel_rfl) (by kernel_rfl) y11c y11d
    (fun l a h => by unfold y11d at h; split at h <;> first | (cases h; rfl) | cases h) (fun a => rfl) (lpgood_none (by kernel_rfl))
    (fun o r h => by unfold y11f at h; split at h <;> first | (cases h; rfl) | cases h) (y11h k)
def y11j (k : Nat) : Orc := pureOrc [.agg [(.int .i64), (.sl (.int .i64)), (.int .i64), (.int .i64), (.int .i64)]] (y11g k)
theorem y11k (k : Nat) : OrcOk Try.prog 254 (y11j k) := pureOrc_ok (y11i k)
noncomputable def y11l (k : Nat) : Env := { P := Try.prog, tt := tt, orc := fun g => cond (Nat.beq g 168) (ywf k) (cond (Nat.beq g 254) (y11j k) (cond (Nat.beq g 272) (yx4 k) (noOrc))) }
theorem y11m (k : Nat) : EnvOk (y11l k) := fun g => (orc_cond (ywg k) (orc_cond (y11k k) (orc_cond (yx5 k) (noOrc_ok _ _))))
noncomputable def y11n : Code := (Try.f271.body).getD .skip
def y11o (ρ : Type) (k : Nat) : Nat → Ev ρ → Ev ρ := fun _ _ _ _ => none
def y11p (a : Task × Task) : List SV := [.agg [.r [] (.int .i64 a.1.id), .r [] (.sl (.int .i64) a.1.costs), .r [] (.int .i64 a.1.at_), .r [] (.int .i64 a.1.due), .r [] (.int .i64 a.1.born)], .agg [.r [] (.int .i64 a.2.id), .r [] (.sl (.int .i64) a.2.costs), .r [] (.int .i64 a.2.at_), .r [] (.int .i64 a.2.due), .r [] (.int .i64 a.2.born)], .ptr 0 0 0]
def y11q (a : Task × Task) : List Blk := [.box [.fn (.func 254) [] []]]
def y11r (l : List SV) (b : List Blk) : Option (Task × Task) := match l, b with
  | [.agg [.r [] (.int .i64 w0), .r [] (.sl (.int .i64) w1), .r [] (.int .i64 w2), .r [] (.int .i64 w3), .r [] (.int .i64 w4)], .agg [.r [] (.int .i64 w5), .r [] (.sl (.int .i64) w6), .r [] (.int .i64 w7), .r [] (.int .i64 w8), .r [] (.int .i64 w9)], .ptr 0 0 0], [.box [.fn (.func 254) [] []]] => some ((⟨w0, w1, w2, w3, w4⟩ : Task), (⟨w5, w6, w7, w8, w9⟩ : Task))
  | _, _ => none
def y11s (a : Task × Task) (r : Int) : MOut := ⟨.r [] (.int .i64 r), [some (.box [.fn (.func 254) [] []])], []⟩
def y11t (a : Task × Task) (o : MOut) : Option (Int) := match o with
  | ⟨.r [] (.int .i64 z1), [some (.box [.fn (.func 254) [] []])], []⟩ => some z1
  | _ => none
def y11u (k : Nat) : MG := fun _ l b K => (y11r l b).bind fun a => (I_Sched_first_c2_m2 k a.1 a.2).bind fun r => K (y11s a r)
theorem y11v (k : Nat) (a : Task × Task) : ev (y11l k) (y11o (Int) k) 0 y11n (st0M Try.f271 (y11p a) (y11q a)) (finM Try.prog Try.f271 (.sc) [.box [.fn [] []]] (y11t a)) = I_Sched_first_c2_m2 k a.1 a.2 := by kernel_rfl
theorem y11w (k : Nat) : MutOk Try.prog 271 (y11u k) :=
  mutOk_of_ev (y11m k) Try.func271 (by kernel_rfl) (by kernel_rfl) y11p y11q y11r
    (fun l b a h => by unfold y11r at h; split at h <;> first | (cases h; exact ⟨rfl, rfl⟩) | cases h) (fun a => rfl) (lpgood_none (by kernel_rfl)) (fun a r => rfl)
    (fun a o r h => by unfold y11t at h; split at h <;> first | (skip; cases h; rfl) | cases h) (y11v k)
def y11x (k : Nat) : Orc := mutOrc [.agg [(.int .i64), (.sl (.int .i64)), (.int .i64), (.int .i64), (.int .i64)], .agg [(.int .i64), (.sl (.int .i64)), (.int .i64), (.int .i64), (.int .i64)], .keep] (y11u k)
theorem y11y (k : Nat) : OrcOk Try.prog 271 (y11x k) := mutOrc_ok (y11w k)
noncomputable def y11z (k : Nat) : Env := { P := Try.prog, tt := tt, orc := fun g => cond (Nat.beq g 271) (y11x k) (noOrc), wr := fun g => mem g [271], wt := true }
theorem y120 (k : Nat) : EnvOk (y11z k) := fun g => (orc_cond (y11y k) (noOrc_ok _ _))
noncomputable def y121 : Code := (Try.f270.body).getD .skip
noncomputable def y122 : Code := ((loopsIn 0 y121).getD 0 (0, .skip)).2
def y123 : List Nat := [0, 1, 4, 5, 6]
def y124 : List (Where × Co) := []
def y125 : Ex → List Nat
  | .exit j => cond (Nat.beq j 0) [4, 5] []
  | .ret => []
  | .normal => []
def y126 : Ex → List (Where × Co)
  | .exit j => cond (Nat.beq j 0) [] []
  | .ret => []
  | .normal => []
def y127 (pv : (List Task × Int × Int × Int × Int) × (Int × Int × List Int × Int × Int × Int)) : St := { slots := [(0, .r [] (.sl (.st .task) pv.1.1)), (1, .fn (.func 271) [] [.ptr 0 0 0]), (4, .ptr 1 0 0), (5, .ptr 2 0 0), (6, .r [] (.int .i64 pv.2.1))], heap := [(0, .box [.fn (.func 254) [] []]), (1, .box [.r [] (.int .i64 pv.1.2.1), .nilS, .r [] (.int .i64 pv.1.2.2.1), .r [] (.int .i64 pv.1.2.2.2.1), .r [] (.int .i64 pv.1.2.2.2.2)]), (2, .box [.r [] (.int .i64 pv.2.2.1), .r [] (.sl (.int .i64) pv.2.2.2.1), .r [] (.int .i64 pv.2.2.2.2.1), .r [] (.int .i64 pv.2.2.2.2.2.1), .r [] (.int .i64 pv.2.2.2.2.2.2)])], nid := 3, n := 33, gh := [some 0] }
def y128 (nf : NF) : Option ((List Task × Int × Int × Int × Int) × (Int × Int × List Int × Int × Int × Int)) := match nf with
  | ([.r [] (.sl (.st .task) w0), .fn (.func 271) [] [.ptr 0 0 0], .ptr 1 0 0, .ptr 2 0 0, .r [] (.int .i64 w1)], [.box [.fn (.func 254) [] []], .box [.r [] (.int .i64 w2), .nilS, .r [] (.int .i64 w3), .r [] (.int .i64 w4), .r [] (.int .i64 w5)], .box [.r [] (.int .i64 w6), .r [] (.sl (.int .i64) w7), .r [] (.int .i64 w8), .r [] (.int .i64 w9), .r [] (.int .i64 w10)]], [some 0]) => some ((w0, w2, w3, w4, w5), (w1, w6, w7, w8, w9, w10))
  | _ => none
theorem y129 (nf : NF) (v : (List Task × Int × Int × Int × Int) × (Int × Int × List Int × Int × Int × Int)) (h : y128 nf = some v) : denorm y123 33 nf = y127 v := by
  unfold y128 at h
  split at h
  · cases h; rfl
  · cases h
def y12a (p : List Task × Int × Int × Int × Int) (x : Int × List Int × Int × Int × Int) : St := { slots := [(4, .ptr 0 0 0), (5, .ptr 1 0 0)], heap := [(0, .box [.r [] (.int .i64 p.2.1), .nilS, .r [] (.int .i64 p.2.2.1), .r [] (.int .i64 p.2.2.2.1), .r [] (.int .i64 p.2.2.2.2)]), (1, .box [.r [] (.int .i64 x.1), .r [] (.sl (.int .i64) x.2.1), .r [] (.int .i64 x.2.2.1), .r [] (.int .i64 x.2.2.2.1), .r [] (.int .i64 x.2.2.2.2)]), (2, .box [.fn (.func 254) [] []])], nid := 3, n := 33, gh := [some 2] }
def y12b (ρ : Type) (k : Nat) : Nat → Ev ρ → Ev ρ := fun id f => cond (Nat.beq id 0) (loopOrc y123 y124 (fun n nf => cond (Nat.beq n 33) (y128 nf) none) fun pv K => iter (fun v next => slices_MinFunc_lI_Task_I_Task_m2_g0 k pv.1 v next (fun x => K (.exit 0) (y12a pv.1 x))) k pv.2) ((fun _ _ _ _ => none) id f)
theorem y12c {ρ : Type} (k : Nat) (p : List Task × Int × Int × Int × Int) (v : Int × Int × List Int × Int × Int × Int) (K K1 : Ex → St → Option ρ) : ev (y11z k) (y12b ρ k) 0 y122 (y127 (p, v)) (fun e st' => match e with
    | .normal => (normC y123 y124 st').bind fun nf => K1 .normal (denorm y123 st'.n nf)
    | e => (normC (y125 e) (y126 e) st').bind fun nf => K e (denorm (y125 e) st'.n nf)) = slices_MinFunc_lI_Task_I_Task_m2_g0 k p v (fun v' => K1 .normal (y127 (p, v'))) (fun x => K (.exit 0) (y12a p x)) := by kernel_rfl
theorem y12d {ρ : Type} (k : Nat) : Sound Try.prog (.loop y122) (y12b ρ k 0 fun st K => ev (y11z k) (y12b ρ k) 0 y122 st K) :=
  loop_ok (ev_sound (y120 k) y122 0 (lpgood_none (by kernel_rfl))) y125 y126 k (g := fun p v next K => slices_MinFunc_lI_Task_I_Task_m2_g0 k p v next (fun x => K (.exit 0) (y12a p x))) (dec_at y129) (fun p v K K1 => y12c k p v K K1)
def y12e (a : List Task) : List SV := [.r [] (.sl (.st .task) a), .fn (.func 271) [] [.ptr 0 0 0]]
def y12f (a : List Task) : List Blk := [.box [.fn (.func 254) [] []]]
def y12g (l : List SV) (b : List Blk) : Option (List Task) := match l, b with
  | [.r [] (.sl (.st .task) w0), .fn (.func 271) [] [.ptr 0 0 0]], [.box [.fn (.func 254) [] []]] => some w0
  | _, _ => none
def y12h (a : List Task) (r : Task) : MOut := ⟨.agg [.r [] (.int .i64 r.id), .r [] (.sl (.int .i64) r.costs), .r [] (.int .i64 r.at_), .r [] (.int .i64 r.due), .r [] (.int .i64 r.born)], [some (.box [.fn (.func 254) [] []])], []⟩
def y12i (a : List Task) (o : MOut) : Option (Task) := match o with
  | ⟨.agg [.r [] (.int .i64 z1), .r [] (.sl (.int .i64) z2), .r [] (.int .i64 z3), .r [] (.int .i64 z4), .r [] (.int .i64 z5)], [some (.box [.fn (.func 254) [] []])], []⟩ => some (⟨z1, z2, z3, z4, z5⟩ : Task)
  | _ => none
def y12j (k : Nat) : MG := fun _ l b K => (y12g l b).bind fun a => (slices_MinFunc_lI_Task_I_Task_m2 k a).bind fun r => K (y12h a r)
theorem y12k (k : Nat) (a : List Task) : ev (y11z k) (y12b (Task) k) 0 y121 (st0M Try.f270 (y12e a) (y12f a)) (finM Try.prog Try.f270 (.agg [.sc, .ro (.int .i64), .sc, .sc, .sc]) [.box [.fn [] []]] (y12i a)) = slices_MinFunc_lI_Task_I_Task_m2 k a := by kernel_rfl
theorem y12l (k : Nat) : MutOk Try.prog 270 (y12j k) :=
  mutOk_of_ev (y120 k) Try.func270 (by kernel_rfl) (by kernel_rfl) y12e y12f y12g
    (fun l b a h => by unfold y12g at h; split at h <;> first | (cases h; exact ⟨rfl, rfl⟩) | cases h) (fun a => rfl) (lpgood_of (l := [(0, y122)]) (by kernel_rfl) ⟨y12d k, trivial⟩) (fun a r => rfl)
    (fun a o r h => by unfold y12i at h; split at h <;> first | (skip; cases h; rfl) | cases h) (y12k k)
def y12m (k : Nat) : Orc := mutOrc [.one (.sl (.st .task)), .keep] (y12j k)
theorem y12n (k : Nat) : OrcOk Try.prog 270 (y12m k) := mutOrc_ok (y12l k)
noncomputable def y12o (k : Nat) : Env := { P := Try.prog, tt := tt, orc := fun g => cond (Nat.beq g 228) (y116 k) (cond (Nat.beq g 268) (yt5 k) (cond (Nat.beq g 270) (y12m k) (noOrc))), wr := fun g => mem g [228, 270], wt := true }
theorem y12p (k : Nat) : EnvOk (y12o k) := fun g => (orc_cond (y117 k) (orc_cond (yt6 k) (orc_cond (y12n k) (noOrc_ok _ _))))
noncomputable def y12q : Code := (Try.f251.body).getD .skip
def y12r (ρ : Type) (k : Nat) : Nat → Ev ρ → Ev ρ := fun _ _ _ _ => none
def y12s (a : Sched × Sched) : List SV := [.agg [.r [] (.int .i64 a.1.now), .r [] (.int .i64 a.1.slack), .r [] (.int .i64 a.1.age), .r [] (.sl (.st .task) a.1.tasks), .r [] (.int .i64 a.1.run), .r [] (.int .i64 a.1.left), .r [] (.int .i64 a.1.turns), .r [] (.int .i64 a.1.next)], .fn (.func 253) [] [.ptr 0 0 0], .fn (.func 254) [] []]
def y12t (a : Sched × Sched) : List Blk := [.box [.r [] (.int .i64 a.2.now), .r [] (.int .i64 a.2.slack), .r [] (.int .i64 a.2.age), .r [] (.sl (.st .task) a.2.tasks), .r [] (.int .i64 a.2.run), .r [] (.int .i64 a.2.left), .r [] (.int .i64 a.2.turns), .r [] (.int .i64 a.2.next)]]
def y12u (l : List SV) (b : List Blk) : Option (Sched × Sched) := match l, b with
  | [.agg [.r [] (.int .i64 w0), .r [] (.int .i64 w1), .r [] (.int .i64 w2), .r [] (.sl (.st .task) w3), .r [] (.int .i64 w4), .r [] (.int .i64 w5), .r [] (.int .i64 w6), .r [] (.int .i64 w7)], .fn (.func 253) [] [.ptr 0 0 0], .fn (.func 254) [] []], [.box [.r [] (.int .i64 w8), .r [] (.int .i64 w9), .r [] (.int .i64 w10), .r [] (.sl (.st .task) w11), .r [] (.int .i64 w12), .r [] (.int .i64 w13), .r [] (.int .i64 w14), .r [] (.int .i64 w15)]] => some ((⟨w0, w1, w2, w3, w4, w5, w6, w7⟩ : Sched), (⟨w8, w9, w10, w11, w12, w13, w14, w15⟩ : Sched))
  | _, _ => none
def y12v (a : Sched × Sched) (r : Int) : MOut := ⟨.r [] (.int .i64 r), [some (.box [.r [] (.int .i64 a.2.now), .r [] (.int .i64 a.2.slack), .r [] (.int .i64 a.2.age), .r [] (.sl (.st .task) a.2.tasks), .r [] (.int .i64 a.2.run), .r [] (.int .i64 a.2.left), .r [] (.int .i64 a.2.turns), .r [] (.int .i64 a.2.next)])], []⟩
def y12w (a : Sched × Sched) (o : MOut) : Option (Int) := match o with
  | ⟨.r [] (.int .i64 z1), [some (.box [.r [] (.int .i64 z2), .r [] (.int .i64 z3), .r [] (.int .i64 z4), .r [] (.sl (.st .task) z5), .r [] (.int .i64 z6), .r [] (.int .i64 z7), .r [] (.int .i64 z8), .r [] (.int .i64 z9)])], []⟩ => cond (@sameL Int _ z2 a.2.now) (cond (@sameL Int _ z3 a.2.slack) (cond (@sameL Int _ z4 a.2.age) (cond (@sameL (List Task) _ z5 a.2.tasks) (cond (@sameL Int _ z6 a.2.run) (cond (@sameL Int _ z7 a.2.left) (cond (@sameL Int _ z8 a.2.turns) (cond (@sameL Int _ z9 a.2.next) (some z1) none) none) none) none) none) none) none) none
  | _ => none
def y12x (k : Nat) : MG := fun _ l b K => (y12u l b).bind fun a => (I_Sched_first_m2 k a.1 a.2).bind fun r => K (y12v a r)
theorem y12y (k : Nat) (a : Sched × Sched) : ev (y12o k) (y12r (Int) k) 0 y12q (st0M Try.f251 (y12s a) (y12t a)) (finM Try.prog Try.f251 (.sc) [.box [.sc, .sc, .sc, .ro (.st .task), .sc, .sc, .sc, .sc]] (y12w a)) = I_Sched_first_m2 k a.1 a.2 := by kernel_rfl
theorem y12z (k : Nat) : MutOk Try.prog 251 (y12x k) :=
  mutOk_of_ev (y12p k) Try.func251 (by kernel_rfl) (by kernel_rfl) y12s y12t y12u
    (fun l b a h => by unfold y12u at h; split at h <;> first | (cases h; exact ⟨rfl, rfl⟩) | cases h) (fun a => rfl) (lpgood_none (by kernel_rfl)) (fun a r => rfl)
    (fun a o r h => by unfold y12w at h; split at h <;> first | (obtain ⟨e0, e1, e2, e3, e4, e5, e6, e7, hq⟩ := dec_chk8 h; clear h; subst e0; subst e1; subst e2; subst e3; subst e4; subst e5; subst e6; subst e7; have h := hq; clear hq; cases h; rfl) | cases h) (y12y k)
def y130 (k : Nat) : Orc := mutOrc [.agg [(.int .i64), (.int .i64), (.int .i64), (.sl (.st .task)), (.int .i64), (.int .i64), (.int .i64), (.int .i64)], .keep, .keep] (y12x k)
theorem y131 (k : Nat) : OrcOk Try.prog 251 (y130 k) := mutOrc_ok (y12z k)
noncomputable def y132 (k : Nat) : Env := { P := Try.prog, tt := tt, orc := fun g => cond (Nat.beq g 251) (altB (mutT [.agg [(.int .i64), (.int .i64), (.int .i64), (.sl (.st .task)), (.int .i64), (.int .i64), (.int .i64), (.int .i64)], .keep, .keep] y12u) (y130 k) (yyl k)) (noOrc), wr := fun g => mem g [251], wt := true }
theorem y133 (k : Nat) : EnvOk (y132 k) := fun g => (orc_cond (altB_ok (y131 k) (yym k)) (noOrc_ok _ _))
noncomputable def y134 : Code := (Try.f227.body).getD .skip
def y135 (ρ : Type) (k : Nat) : Nat → Ev ρ → Ev ρ := fun _ _ _ _ => none
def y136 (a : Sched) : List Arg := [.agg [.int .i64 a.now, .int .i64 a.slack, .int .i64 a.age, .sl (.st .task) a.tasks, .int .i64 a.run, .int .i64 a.left, .int .i64 a.turns, .int .i64 a.next]]
def y137 (l : List Arg) : Option (Sched) := match l with
  | [.agg [.int .i64 b0_0, .int .i64 b0_1, .int .i64 b0_2, .sl (.st .task) b0_3, .int .i64 b0_4, .int .i64 b0_5, .int .i64 b0_6, .int .i64 b0_7]] => some (⟨b0_0, b0_1, b0_2, b0_3, b0_4, b0_5, b0_6, b0_7⟩ : Sched)
  | _ => none
def y138 (r : Int) : Out := (.r [] (.int .i64 r), [])
def y139 (o : Out) : Option (Int) := match o with
  | (.r [] (.int .i64 z1), []) => some z1
  | _ => none
def y13a (k : Nat) : PG := fun _ l K => (y137 l).bind fun a => (I_Sched_pick k a).bind fun r => K (y138 r)
theorem y13b (k : Nat) (a : Sched) : ev (y132 k) (y135 (Int) k) 0 y134 (st0 Try.f227 (y136 a)) (fin Try.prog Try.f227 (.sc) y139) = I_Sched_pick k a := by kernel_rfl
theorem y13c (k : Nat) : PureOk Try.prog 227 (y13a k) :=
  pureOk_of_ev (y133 k) Try.func227 (by kernel_rfl) (by kernel_rfl) y136 y137
    (fun l a h => by unfold y137 at h; split at h <;> first | (cases h; rfl) | cases h) (fun a => rfl) (lpgood_none (by kernel_rfl))
    (fun o r h => by unfold y139 at h; split at h <;> first | (cases h; rfl) | cases h) (y13b k)
def y13d (k : Nat) : Orc := pureOrc [.agg [(.int .i64), (.int .i64), (.int .i64), (.sl (.st .task)), (.int .i64), (.int .i64), (.int .i64), (.int .i64)]] (y13a k)
theorem y13e (k : Nat) : OrcOk Try.prog 227 (y13d k) := pureOrc_ok (y13c k)
noncomputable def y13f (k : Nat) : Env := { P := Try.prog, tt := tt, orc := fun g => cond (Nat.beq g 134) (yjw k) (cond (Nat.beq g 227) (y13d k) (noOrc)) }
theorem y13g (k : Nat) : EnvOk (y13f k) := fun g => (orc_cond (yjx k) (orc_cond (y13e k) (noOrc_ok _ _)))
noncomputable def y13h : Code := (Try.f198.body).getD .skip
def y13i (ρ : Type) (k : Nat) : Nat → Ev ρ → Ev ρ := fun _ _ _ _ => none
def y13j (a : Sched) : List SV := [.ptr 0 0 0]
def y13k (a : Sched) : List Blk := [.box [.r [] (.int .i64 a.now), .r [] (.int .i64 a.slack), .r [] (.int .i64 a.age), .own 1, .r [] (.int .i64 a.run), .r [] (.int .i64 a.left), .r [] (.int .i64 a.turns), .r [] (.int .i64 a.next)], .arr none (.st .task) a.tasks]
def y13l (l : List SV) (b : List Blk) : Option (Sched) := match l, b with
  | [.ptr 0 0 0], [.box [.r [] (.int .i64 w0), .r [] (.int .i64 w1), .r [] (.int .i64 w2), .own 1, .r [] (.int .i64 w3), .r [] (.int .i64 w4), .r [] (.int .i64 w5), .r [] (.int .i64 w6)], .arr none (.st .task) w7] => some (⟨w0, w1, w2, w7, w3, w4, w5, w6⟩ : Sched)
  | _, _ => none
def y13m (a : Sched) (r : Bool × Int × Int × Int) : MOut := ⟨.r [] (.bool r.1), [some (.box [.r [] (.int .i64 a.now), .r [] (.int .i64 a.slack), .r [] (.int .i64 a.age), .own 2, .r [] (.int .i64 r.2.1), .r [] (.int .i64 r.2.2.1), .r [] (.int .i64 r.2.2.2), .r [] (.int .i64 a.next)]), none], [.arr none (.st .task) a.tasks]⟩
def y13n (a : Sched) (o : MOut) : Option (Bool × Int × Int × Int) := match o with
  | ⟨.r [] (.bool z1), [some (.box [.r [] (.int .i64 z2), .r [] (.int .i64 z3), .r [] (.int .i64 z4), .own 2, .r [] (.int .i64 z5), .r [] (.int .i64 z6), .r [] (.int .i64 z7), .r [] (.int .i64 z8)]), none], [.arr none (.st .task) z9]⟩ => cond (@sameL Int _ z2 a.now) (cond (@sameL Int _ z3 a.slack) (cond (@sameL Int _ z4 a.age) (cond (@sameL (List Task) _ z9 a.tasks) (cond (@sameL Int _ z8 a.next) (some (z1, z5, z6, z7)) none) none) none) none) none
  | _ => none
def y13o (k : Nat) : MG := fun _ l b K => (y13l l b).bind fun a => (pI_Sched_start_m k a).bind fun r => K (y13m a r)
theorem y13p (k : Nat) (a : Sched) : ev (y13f k) (y13i (Bool × Int × Int × Int) k) 0 y13h (st0M Try.f198 (y13j a) (y13k a)) (finM Try.prog Try.f198 (.sc) [.box [.sc, .sc, .sc, .own (.st .task), .sc, .sc, .sc, .sc], .gone] (y13n a)) = pI_Sched_start_m k a := by kernel_rfl
theorem y13q (k : Nat) : MutOk Try.prog 198 (y13o k) :=
  mutOk_of_ev (y13g k) Try.func198 (by kernel_rfl) (by kernel_rfl) y13j y13k y13l
    (fun l b a h => by unfold y13l at h; split at h <;> first | (cases h; exact ⟨rfl, rfl⟩) | cases h) (fun a => rfl) (lpgood_none (by kernel_rfl)) (fun a r => rfl)
    (fun a o r h => by unfold y13n at h; split at h <;> first | (obtain ⟨e0, e1, e2, e3, e4, hq⟩ := dec_chk5 h; clear h; subst e0; subst e1; subst e2; subst e3; subst e4; have h := hq; clear hq; cases h; rfl) | cases h) (y13p k)
def y13r (k : Nat) : Orc := mutOrc [.keep] (y13o k)
theorem y13s (k : Nat) : OrcOk Try.prog 198 (y13r k) := mutOrc_ok (y13q k)
noncomputable def y13t (k : Nat) : Env := { P := Try.prog, tt := tt, orc := fun g => cond (Nat.beq g 134) (yjw k) (cond (Nat.beq g 198) (y13r k) (cond (Nat.beq g 199) (mutOrc [.keep, .one (.int .i64)] (numG .task .taskK 1 (yse k))) (noOrc))), wr := fun g => mem g [198, 199], wt := true }
theorem y13u (k : Nat) : EnvOk (y13t k) := fun g => (orc_cond (yjx k) (orc_cond (y13s k) (orc_cond (mutOrc_ok (numOk (s := .task) (s' := .taskK) rfl rfl rfl 1 (fun _ _ _ _ => by simp only [yse, Option.bind_assoc, Option.bind_some]) (fun T => @ysg T k))) (noOrc_ok _ _))))
noncomputable def y13v : Code := (Try.f138.body).getD .skip
def y13w (ρ : Type) (k : Nat) : Nat → Ev ρ → Ev ρ := fun _ _ _ _ => none
def y13x (a : Sched × Bool) : List SV := [.ptr 0 0 0, .r [] (.bool a.2)]
def y13y (a : Sched × Bool) : List Blk := [.box [.r [] (.int .i64 a.1.now), .r [] (.int .i64 a.1.slack), .r [] (.int .i64 a.1.age), .own 1, .r [] (.int .i64 a.1.run), .r [] (.int .i64 a.1.left), .r [] (.int .i64 a.1.turns), .r [] (.int .i64 a.1.next)], .arr none (.st .task) a.1.tasks]
def y13z (l : List SV) (b : List Blk) : Option (Sched × Bool) := match l, b with
  | [.ptr 0 0 0, .r [] (.bool w0)], [.box [.r [] (.int .i64 w1), .r [] (.int .i64 w2), .r [] (.int .i64 w3), .own 1, .r [] (.int .i64 w4), .r [] (.int .i64 w5), .r [] (.int .i64 w6), .r [] (.int .i64 w7)], .arr none (.st .task) w8] => some ((⟨w1, w2, w3, w8, w4, w5, w6, w7⟩ : Sched), w0)
  | _, _ => none
def y140 (a : Sched × Bool) (r : (Int × Bool) × Int × List Task × Int × Int × Int) : MOut := ⟨.tup [.r [] (.int .i64 r.1.1), .r [] (.bool r.1.2)], [some (.box [.r [] (.int .i64 r.2.1), .r [] (.int .i64 a.1.slack), .r [] (.int .i64 a.1.age), .own 2, .r [] (.int .i64 r.2.2.2.1), .r [] (.int .i64 r.2.2.2.2.1), .r [] (.int .i64 r.2.2.2.2.2), .r [] (.int .i64 a.1.next)]), none], [.arr none (.st .task) r.2.2.1]⟩
def y141 (a : Sched × Bool) (o : MOut) : Option ((Int × Bool) × Int × List Task × Int × Int × Int) := match o with
  | ⟨.tup [.r [] (.int .i64 z1), .r [] (.bool z2)], [some (.box [.r [] (.int .i64 z3), .r [] (.int .i64 z4), .r [] (.int .i64 z5), .own 2, .r [] (.int .i64 z6), .r [] (.int .i64 z7), .r [] (.int .i64 z8), .r [] (.int .i64 z9)]), none], [.arr none (.st .task) z10]⟩ => cond (@sameL Int _ z4 a.1.slack) (cond (@sameL Int _ z5 a.1.age) (cond (@sameL Int _ z9 a.1.next) (some ((z1, z2), z3, z10, z6, z7, z8)) none) none) none
  | _ => none
def y142 (k : Nat) : MG := fun _ l b K => (y13z l b).bind fun a => (pI_Sched_tick_m k a.1 a.2).bind fun r => K (y140 a r)
theorem y143 (k : Nat) (a : Sched × Bool) : ev (y13t k) (y13w ((Int × Bool) × Int × List Task × Int × Int × Int) k) 0 y13v (st0M Try.f138 (y13x a) (y13y a)) (finM Try.prog Try.f138 (.tup [.sc, .sc]) [.box [.sc, .sc, .sc, .own (.st .task), .sc, .sc, .sc, .sc], .gone] (y141 a)) = pI_Sched_tick_m k a.1 a.2 := by kernel_rfl
theorem y144 (k : Nat) : MutOk Try.prog 138 (y142 k) :=
  mutOk_of_ev (y13u k) Try.func138 (by kernel_rfl) (by kernel_rfl) y13x y13y y13z
    (fun l b a h => by unfold y13z at h; split at h <;> first | (cases h; exact ⟨rfl, rfl⟩) | cases h) (fun a => rfl) (lpgood_none (by kernel_rfl)) (fun a r => rfl)
    (fun a o r h => by unfold y141 at h; split at h <;> first | (obtain ⟨e0, e1, e2, hq⟩ := dec_chk3 h; clear h; subst e0; subst e1; subst e2; have h := hq; clear hq; cases h; rfl) | cases h) (y143 k)
def y145 (k : Nat) : Orc := mutOrc [.keep, .one .bool] (y142 k)
theorem y146 (k : Nat) : OrcOk Try.prog 138 (y145 k) := mutOrc_ok (y144 k)
noncomputable def y147 (k : Nat) : Env := { P := Try.prog, tt := tt, orc := fun g => cond (Nat.beq g 40) (yk9 k) (cond (Nat.beq g 116) (yln k) (cond (Nat.beq g 138) (y145 k) (noOrc))), wr := fun g => mem g [138], wt := true }
theorem y148 (k : Nat) : EnvOk (y147 k) := fun g => (orc_cond (yka k) (orc_cond (ylo k) (orc_cond (y146 k) (noOrc_ok _ _))))
noncomputable def y149 : Code := (Try.f42.body).getD .skip
def y14a (ρ : Type) (k : Nat) : Nat → Ev ρ → Ev ρ := fun _ _ _ _ => none
def y14b (a : Sched × Bool) : List Arg := [.agg [.int .i64 a.1.now, .int .i64 a.1.slack, .int .i64 a.1.age, .sl (.st .task) a.1.tasks, .int .i64 a.1.run, .int .i64 a.1.left, .int .i64 a.1.turns, .int .i64 a.1.next], .one (.bool a.2)]
def y14c (l : List Arg) : Option (Sched × Bool) := match l with
  | [.agg [.int .i64 b0_0, .int .i64 b0_1, .int .i64 b0_2, .sl (.st .task) b0_3, .int .i64 b0_4, .int .i64 b0_5, .int .i64 b0_6, .int .i64 b0_7], .one (.bool b1)] => some ((⟨b0_0, b0_1, b0_2, b0_3, b0_4, b0_5, b0_6, b0_7⟩ : Sched), b1)
  | _ => none
def y14d (r : Sched × Int × Bool) : Out := (.tup [.agg [.r [] (.int .i64 r.1.now), .r [] (.int .i64 r.1.slack), .r [] (.int .i64 r.1.age), .own 0, .r [] (.int .i64 r.1.run), .r [] (.int .i64 r.1.left), .r [] (.int .i64 r.1.turns), .r [] (.int .i64 r.1.next)], .r [] (.int .i64 r.2.1), .r [] (.bool r.2.2)], [.arr none (.st .task) r.1.tasks])
def y14e (o : Out) : Option (Sched × Int × Bool) := match o with
  | (.tup [.agg [.r [] (.int .i64 z1), .r [] (.int .i64 z2), .r [] (.int .i64 z3), .own 0, .r [] (.int .i64 z5), .r [] (.int .i64 z6), .r [] (.int .i64 z7), .r [] (.int .i64 z8)], .r [] (.int .i64 z9), .r [] (.bool z10)], [.arr none (.st .task) z4]) => some ((⟨z1, z2, z3, z4, z5, z6, z7, z8⟩ : Sched), z9, z10)
  | _ => none
def y14f (k : Nat) : PG := fun _ l K => (y14c l).bind fun a => (I_TickSched k a.1 a.2).bind fun r => K (y14d r)
theorem y14g (k : Nat) (a : Sched × Bool) : ev (y147 k) (y14a (Sched × Int × Bool) k) 0 y149 (st0 Try.f42 (y14b a)) (fin Try.prog Try.f42 (.tup [.agg [.sc, .sc, .sc, .own (.st .task), .sc, .sc, .sc, .sc], .sc, .sc]) y14e) = I_TickSched k a.1 a.2 := by kernel_rfl
theorem y14h (k : Nat) : PureOk Try.prog 42 (y14f k) :=
  pureOk_of_ev (y148 k) Try.func42 (by kernel_rfl) (by kernel_rfl) y14b y14c
    (fun l a h => by unfold y14c at h; split at h <;> first | (cases h; rfl) | cases h) (fun a => rfl) (lpgood_none (by kernel_rfl))
    (fun o r h => by unfold y14e at h; split at h <;> first | (cases h; rfl) | cases h) (y14g k)
def y14i (k : Nat) : Orc := pureOrc [.agg [(.int .i64), (.int .i64), (.int .i64), (.sl (.st .task)), (.int .i64), (.int .i64), (.int .i64), (.int .i64)], .one .bool] (y14f k)
theorem y14j (k : Nat) : OrcOk Try.prog 42 (y14i k) := pureOrc_ok (y14h k)
noncomputable def y14k (k : Nat) : Env := { P := Try.prog, tt := tt, orc := fun g => cond (Nat.beq g 32) (yqa k) (cond (Nat.beq g 42) (y14i k) (cond (Nat.beq g 196) (yss k) (noOrc))) }
theorem y14l (k : Nat) : EnvOk (y14k k) := fun g => (orc_cond (yqb k) (orc_cond (y14j k) (orc_cond (yst k) (noOrc_ok _ _))))
noncomputable def y14m : Code := (Try.f130.body).getD .skip
def y14n (ρ : Type) (k : Nat) : Nat → Ev ρ → Ev ρ := fun _ _ _ _ => none
def y14o (a : Sched × List Int) : List SV := [.ptr 0 0 0, .r [] (.sl (.int .i64) a.2)]
def y14p (a : Sched × List Int) : List Blk := [.box [.r [] (.int .i64 a.1.now), .r [] (.int .i64 a.1.slack), .r [] (.int .i64 a.1.age), .own 1, .r [] (.int .i64 a.1.run), .r [] (.int .i64 a.1.left), .r [] (.int .i64 a.1.turns), .r [] (.int .i64 a.1.next)], .arr none (.st .task) a.1.tasks]
def y14q (l : List SV) (b : List Blk) : Option (Sched × List Int) := match l, b with
  | [.ptr 0 0 0, .r [] (.sl (.int .i64) w0)], [.box [.r [] (.int .i64 w1), .r [] (.int .i64 w2), .r [] (.int .i64 w3), .own 1, .r [] (.int .i64 w4), .r [] (.int .i64 w5), .r [] (.int .i64 w6), .r [] (.int .i64 w7)], .arr none (.st .task) w8] => some ((⟨w1, w2, w3, w8, w4, w5, w6, w7⟩ : Sched), w0)
  | _, _ => none
def y14r (a : Sched × List Int) (r : Int × Int × Int × Int × List Task × Int × Int × Int × Int) : MOut := ⟨.r [] (.int .i64 r.1), [some (.box [.r [] (.int .i64 r.2.1), .r [] (.int .i64 r.2.2.1), .r [] (.int .i64 r.2.2.2.1), .own 2, .r [] (.int .i64 r.2.2.2.2.2.1), .r [] (.int .i64 r.2.2.2.2.2.2.1), .r [] (.int .i64 r.2.2.2.2.2.2.2.1), .r [] (.int .i64 r.2.2.2.2.2.2.2.2)]), none], [.arr none (.st .task) r.2.2.2.2.1]⟩
def y14s (a : Sched × List Int) (o : MOut) : Option (Int × Int × Int × Int × List Task × Int × Int × Int × Int) := match o with
  | ⟨.r [] (.int .i64 z1), [some (.box [.r [] (.int .i64 z2), .r [] (.int .i64 z3), .r [] (.int .i64 z4), .own 2, .r [] (.int .i64 z5), .r [] (.int .i64 z6), .r [] (.int .i64 z7), .r [] (.int .i64 z8)]), none], [.arr none (.st .task) z9]⟩ => some (z1, z2, z3, z4, z9, z5, z6, z7, z8)
  | _ => none
def y14t (k : Nat) : MG := fun _ l b K => (y14q l b).bind fun a => (pI_Sched_play_m k a.1 a.2).bind fun r => K (y14r a r)
theorem y14u (k : Nat) (a : Sched × List Int) : ev (y14k k) (y14n (Int × Int × Int × Int × List Task × Int × Int × Int × Int) k) 0 y14m (st0M Try.f130 (y14o a) (y14p a)) (finM Try.prog Try.f130 (.sc) [.box [.sc, .sc, .sc, .own (.st .task), .sc, .sc, .sc, .sc], .gone] (y14s a)) = pI_Sched_play_m k a.1 a.2 := by kernel_rfl
theorem y14v (k : Nat) : MutOk Try.prog 130 (y14t k) :=
  mutOk_of_ev (y14l k) Try.func130 (by kernel_rfl) (by kernel_rfl) y14o y14p y14q
    (fun l b a h => by unfold y14q at h; split at h <;> first | (cases h; exact ⟨rfl, rfl⟩) | cases h) (fun a => rfl) (lpgood_none (by kernel_rfl)) (fun a r => rfl)
    (fun a o r h => by unfold y14s at h; split at h <;> first | (skip; cases h; rfl) | cases h) (y14u k)
def y14w (k : Nat) : Orc := mutOrc [.keep, .one (.sl (.int .i64))] (y14t k)
theorem y14x (k : Nat) : OrcOk Try.prog 130 (y14w k) := mutOrc_ok (y14v k)
noncomputable def y14y (k : Nat) : Env := { P := Try.prog, tt := tt, orc := fun g => cond (Nat.beq g 35) (ykm k) (cond (Nat.beq g 130) (y14w k) (noOrc)), wr := fun g => mem g [130], wt := true }
theorem y14z (k : Nat) : EnvOk (y14y k) := fun g => (orc_cond (ykn k) (orc_cond (y14x k) (noOrc_ok _ _)))
noncomputable def y150 : Code := (Try.f38.body).getD .skip
noncomputable def y151 : Code := ((loopsIn 0 y150).getD 0 (0, .skip)).2
def y152 : List Nat := [6, 8, 10, 28, 29, 30]
def y153 : List (Where × Co) := []
def y154 : Ex → List Nat
  | .exit j => cond (Nat.beq j 0) [6, 8, 10] []
  | .ret => []
  | .normal => []
def y155 : Ex → List (Where × Co)
  | .exit j => cond (Nat.beq j 0) [] []
  | .ret => []
  | .normal => []
def y156 (pv : (List (List Int) × Int × Int × Int × Int × Int × Int × Int × Int) × (Int × Int × Int × Int × Int × Int × Int × Int × List Int × List Task)) : St := { slots := [(6, .ptr 0 0 0), (8, .ptr 1 0 0), (10, .own 2), (28, .r [] (.sl (.sl (.int .i64)) pv.1.1)), (29, .r [] (.int .i64 pv.1.2.1)), (30, .r [] (.int .i64 pv.2.1))], heap := [(0, .box [.r [] (.int .i64 pv.1.2.2.1), .r [] (.int .i64 pv.1.2.2.2.1), .r [] (.int .i64 pv.1.2.2.2.2.1), .nilS, .r [] (.int .i64 pv.1.2.2.2.2.2.1), .r [] (.int .i64 pv.1.2.2.2.2.2.2.1), .r [] (.int .i64 pv.1.2.2.2.2.2.2.2.1), .r [] (.int .i64 pv.1.2.2.2.2.2.2.2.2)]), (1, .box [.r [] (.int .i64 pv.2.2.1), .r [] (.int .i64 pv.2.2.2.1), .r [] (.int .i64 pv.2.2.2.2.1), .own 3, .r [] (.int .i64 pv.2.2.2.2.2.1), .r [] (.int .i64 pv.2.2.2.2.2.2.1), .r [] (.int .i64 pv.2.2.2.2.2.2.2.1), .r [] (.int .i64 pv.2.2.2.2.2.2.2.2.1)]), (2, .arr none (.int .i64) pv.2.2.2.2.2.2.2.2.2.1), (3, .arr none (.st .task) pv.2.2.2.2.2.2.2.2.2.2)], nid := 4, n := 42, gh := [] }
def y157 (nf : NF) : Option ((List (List Int) × Int × Int × Int × Int × Int × Int × Int × Int) × (Int × Int × Int × Int × Int × Int × Int × Int × List Int × List Task)) := match nf with
  | ([.ptr 0 0 0, .ptr 1 0 0, .own 2, .r [] (.sl (.sl (.int .i64)) w0), .r [] (.int .i64 w1), .r [] (.int .i64 w2)], [.box [.r [] (.int .i64 w3), .r [] (.int .i64 w4), .r [] (.int .i64 w5), .nilS, .r [] (.int .i64 w6), .r [] (.int .i64 w7), .r [] (.int .i64 w8), .r [] (.int .i64 w9)], .box [.r [] (.int .i64 w10), .r [] (.int .i64 w11), .r [] (.int .i64 w12), .own 3, .r [] (.int .i64 w13), .r [] (.int .i64 w14), .r [] (.int .i64 w15), .r [] (.int .i64 w16)], .arr none (.int .i64) w17, .arr none (.st .task) w18], []) => some ((w0, w1, w3, w4, w5, w6, w7, w8, w9), (w2, w10, w11, w12, w13, w14, w15, w16, w17, w18))
  | _ => none
theorem y158 (nf : NF) (v : (List (List Int) × Int × Int × Int × Int × Int × Int × Int × Int) × (Int × Int × Int × Int × Int × Int × Int × Int × List Int × List Task)) (h : y157 nf = some v) : denorm y152 42 nf = y156 v := by
  unfold y157 at h
  split at h
  · cases h; rfl
  · cases h
def y159 (p : List (List Int) × Int × Int × Int × Int × Int × Int × Int × Int) (x : Int × Int × Int × Int × Int × Int × Int × List Int × List Task) : St := { slots := [(6, .ptr 0 0 0), (8, .ptr 1 0 0), (10, .own 2)], heap := [(0, .box [.r [] (.int .i64 p.2.2.1), .r [] (.int .i64 p.2.2.2.1), .r [] (.int .i64 p.2.2.2.2.1), .nilS, .r [] (.int .i64 p.2.2.2.2.2.1), .r [] (.int .i64 p.2.2.2.2.2.2.1), .r [] (.int .i64 p.2.2.2.2.2.2.2.1), .r [] (.int .i64 p.2.2.2.2.2.2.2.2)]), (1, .box [.r [] (.int .i64 x.1), .r [] (.int .i64 x.2.1), .r [] (.int .i64 x.2.2.1), .own 3, .r [] (.int .i64 x.2.2.2.1), .r [] (.int .i64 x.2.2.2.2.1), .r [] (.int .i64 x.2.2.2.2.2.1), .r [] (.int .i64 x.2.2.2.2.2.2.1)]), (2, .arr none (.int .i64) x.2.2.2.2.2.2.2.1), (3, .arr none (.st .task) x.2.2.2.2.2.2.2.2)], nid := 4, n := 42, gh := [] }
def y15a (ρ : Type) (k : Nat) : Nat → Ev ρ → Ev ρ := fun id f => cond (Nat.beq id 0) (loopOrc y152 y153 (fun n nf => cond (Nat.beq n 42) (y157 nf) none) fun pv K => iter (fun v next => I_PlaySched_g0 k pv.1 v next (fun x => K (.exit 0) (y159 pv.1 x))) k pv.2) ((fun _ _ _ _ => none) id f)
theorem y15b {ρ : Type} (k : Nat) (p : List (List Int) × Int × Int × Int × Int × Int × Int × Int × Int) (v : Int × Int × Int × Int × Int × Int × Int × Int × List Int × List Task) (K K1 : Ex → St → Option ρ) : ev (y14y k) (y15a ρ k) 0 y151 (y156 (p, v)) (fun e st' => match e with
    | .normal => (normC y152 y153 st').bind fun nf => K1 .normal (denorm y152 st'.n nf)
    | e => (normC (y154 e) (y155 e) st').bind fun nf => K e (denorm (y154 e) st'.n nf)) = I_PlaySched_g0 k p v (fun v' => K1 .normal (y156 (p, v'))) (fun x => K (.exit 0) (y159 p x)) := by kernel_rfl
theorem y15c {ρ : Type} (k : Nat) : Sound Try.prog (.loop y151) (y15a ρ k 0 fun st K => ev (y14y k) (y15a ρ k) 0 y151 st K) :=
  loop_ok (ev_sound (y14z k) y151 0 (lpgood_none (by kernel_rfl))) y154 y155 k (g := fun p v next K => I_PlaySched_g0 k p v next (fun x => K (.exit 0) (y159 p x))) (dec_at y158) (fun p v K K1 => y15b k p v K K1)
def y15d (a : Int × Int × List (List Int)) : List Arg := [.one (.int .i64 a.1), .one (.int .i64 a.2.1), .one (.sl (.sl (.int .i64)) a.2.2)]
def y15e (l : List Arg) : Option (Int × Int × List (List Int)) := match l with
  | [.one (.int .i64 b0), .one (.int .i64 b1), .one (.sl (.sl (.int .i64)) b2)] => some (b0, b1, b2)
  | _ => none
def y15f (r : Sched × List Int) : Out := (.tup [.agg [.r [] (.int .i64 r.1.now), .r [] (.int .i64 r.1.slack), .r [] (.int .i64 r.1.age), .own 0, .r [] (.int .i64 r.1.run), .r [] (.int .i64 r.1.left), .r [] (.int .i64 r.1.turns), .r [] (.int .i64 r.1.next)], .own 1], [.arr none (.st .task) r.1.tasks, .arr none (.int .i64) r.2])
def y15g (o : Out) : Option (Sched × List Int) := match o with
  | (.tup [.agg [.r [] (.int .i64 z1), .r [] (.int .i64 z2), .r [] (.int .i64 z3), .own 0, .r [] (.int .i64 z5), .r [] (.int .i64 z6), .r [] (.int .i64 z7), .r [] (.int .i64 z8)], .own 1], [.arr none (.st .task) z4, .arr none (.int .i64) z9]) => some ((⟨z1, z2, z3, z4, z5, z6, z7, z8⟩ : Sched), z9)
  | _ => none
def y15h (k : Nat) : PG := fun _ l K => (y15e l).bind fun a => (I_PlaySched k a.1 a.2.1 a.2.2).bind fun r => K (y15f r)
theorem y15i (k : Nat) (a : Int × Int × List (List Int)) : ev (y14y k) (y15a (Sched × List Int) k) 0 y150 (st0 Try.f38 (y15d a)) (fin Try.prog Try.f38 (.tup [.agg [.sc, .sc, .sc, .own (.st .task), .sc, .sc, .sc, .sc], .own (.int .i64)]) y15g) = I_PlaySched k a.1 a.2.1 a.2.2 := by kernel_rfl
theorem y15j (k : Nat) : PureOk Try.prog 38 (y15h k) :=
  pureOk_of_ev (y14z k) Try.func38 (by kernel_rfl) (by kernel_rfl) y15d y15e
    (fun l a h => by unfold y15e at h; split at h <;> first | (cases h; rfl) | cases h) (fun a => rfl) (lpgood_of (l := [(0, y151)]) (by kernel_rfl) ⟨y15c k, trivial⟩)
    (fun o r h => by unfold y15g at h; split at h <;> first | (cases h; rfl) | cases h) (y15i k)
def y15k (k : Nat) : Orc := pureOrc [.one (.int .i64), .one (.int .i64), .one (.sl (.sl (.int .i64)))] (y15h k)
theorem y15l (k : Nat) : OrcOk Try.prog 38 (y15k k) := pureOrc_ok (y15j k)
noncomputable def y15m (k : Nat) : Env := { P := Try.prog, tt := tt, orc := fun g => noOrc }
theorem y15n (k : Nat) : EnvOk (y15m k) := fun g => (noOrc_ok _ _)
noncomputable def y15o : Code := (Try.f39.body).getD .skip
noncomputable def y15p : Code := ((loopsIn 0 y15o).getD 0 (0, .skip)).2
def y15q : List Nat := [0, 1, 5]
def y15r : List (Where × Co) := []
def y15s : Ex → List Nat
  | .exit j => cond (Nat.beq j 0) [] []
  | .ret => [4]
  | .normal => []
def y15t : Ex → List (Where × Co)
  | .exit j => cond (Nat.beq j 0) [] []
  | .ret => []
  | .normal => []
def y15u (pv : (List Int × List Int) × (Int)) : St := { slots := [(0, .r [] (.sl (.int .i64) pv.1.1)), (1, .r [] (.sl (.int .i64) pv.1.2)), (5, .r [] (.int .i64 pv.2))], heap := [], nid := 0, n := 26, gh := [] }
def y15v (nf : NF) : Option ((List Int × List Int) × (Int)) := match nf with
  | ([.r [] (.sl (.int .i64) w0), .r [] (.sl (.int .i64) w1), .r [] (.int .i64 w2)], [], []) => some ((w0, w1), w2)
  | _ => none
theorem y15w (nf : NF) (v : (List Int × List Int) × (Int)) (h : y15v nf = some v) : denorm y15q 26 nf = y15u v := by
  unfold y15v at h
  split at h
  · cases h; rfl
  · cases h
def y15x (p : List Int × List Int) (x : Unit) : St := { slots := [], heap := [], nid := 0, n := 26, gh := [] }
def y15y (p : List Int × List Int) (x : Bool) : St := { slots := [(4, .r [] (.bool x))], heap := [], nid := 0, n := 26, gh := [] }
def y15z (ρ : Type) (k : Nat) : Nat → Ev ρ → Ev ρ := fun id f => cond (Nat.beq id 0) (loopOrc y15q y15r (fun n nf => cond (Nat.beq n 26) (y15v nf) none) fun pv K => iter (fun v next => L_same_g0 k pv.1 v next (fun x => K (.exit 0) (y15x pv.1 x)) (fun x => K .ret (y15y pv.1 x))) k pv.2) ((fun _ _ _ _ => none) id f)
theorem y160 {ρ : Type} (k : Nat) (p : List Int × List Int) (v : Int) (K K1 : Ex → St → Option ρ) : ev (y15m k) (y15z ρ k) 0 y15p (y15u (p, v)) (fun e st' => match e with
    | .normal => (normC y15q y15r st').bind fun nf => K1 .normal (denorm y15q st'.n nf)
    | e => (normC (y15s e) (y15t e) st').bind fun nf => K e (denorm (y15s e) st'.n nf)) = L_same_g0 k p v (fun v' => K1 .normal (y15u (p, v'))) (fun x => K (.exit 0) (y15x p x)) (fun x => K .ret (y15y p x)) := by kernel_rfl
theorem y161 {ρ : Type} (k : Nat) : Sound Try.prog (.loop y15p) (y15z ρ k 0 fun st K => ev (y15m k) (y15z ρ k) 0 y15p st K) :=
  loop_ok (ev_sound (y15n k) y15p 0 (lpgood_none (by kernel_rfl))) y15s y15t k (g := fun p v next K => L_same_g0 k p v next (fun x => K (.exit 0) (y15x p x)) (fun x => K .ret (y15y p x))) (dec_at y15w) (fun p v K K1 => y160 k p v K K1)
def y162 (a : List Int × List Int) : List Arg := [.one (.sl (.int .i64) a.1), .one (.sl (.int .i64) a.2)]
def y163 (l : List Arg) : Option (List Int × List Int) := match l with
  | [.one (.sl (.int .i64) b0), .one (.sl (.int .i64) b1)] => some (b0, b1)
  | _ => none
def y164 (r : Bool) : Out := (.r [] (.bool r), [])
def y165 (o : Out) : Option (Bool) := match o with
  | (.r [] (.bool z1), []) => some z1
  | _ => none
def y166 (k : Nat) : PG := fun _ l K => (y163 l).bind fun a => (L_same k a.1 a.2).bind fun r => K (y164 r)
theorem y167 (k : Nat) (a : List Int × List Int) : ev (y15m k) (y15z (Bool) k) 0 y15o (st0 Try.f39 (y162 a)) (fin Try.prog Try.f39 (.sc) y165) = L_same k a.1 a.2 := by kernel_rfl
theorem y168 (k : Nat) : PureOk Try.prog 39 (y166 k) :=
  pureOk_of_ev (y15n k) Try.func39 (by kernel_rfl) (by kernel_rfl) y162 y163
    (fun l a h => by unfold y163 at h; split at h <;> first | (cases h; rfl) | cases h) (fun a => rfl) (lpgood_of (l := [(0, y15p)]) (by kernel_rfl) ⟨y161 k, trivial⟩)
    (fun o r h => by unfold y165 at h; split at h <;> first | (cases h; rfl) | cases h) (y167 k)
def y169 (k : Nat) : Orc := pureOrc [.one (.sl (.int .i64)), .one (.sl (.int .i64))] (y166 k)
theorem y16a (k : Nat) : OrcOk Try.prog 39 (y169 k) := pureOrc_ok (y168 k)
noncomputable def y16b (k : Nat) : Env := { P := Try.prog, tt := tt, orc := fun g => cond (Nat.beq g 193) (yn1 k) (noOrc) }
theorem y16c (k : Nat) : EnvOk (y16b k) := fun g => (orc_cond (yn2 k) (noOrc_ok _ _))
noncomputable def y16d : Code := (Try.f123.body).getD .skip
noncomputable def y16e : Code := ((loopsIn 0 y16d).getD 0 (0, .skip)).2
def y16f : List Nat := [1, 3, 7, 8, 9]
def y16g : List (Where × Co) := []
def y16h : Ex → List Nat
  | .exit j => cond (Nat.beq j 0) [3] []
  | .ret => []
  | .normal => []
def y16i : Ex → List (Where × Co)
  | .exit j => cond (Nat.beq j 0) [] []
  | .ret => []
  | .normal => []
def y16j (pv : (List Task × Int × Int × Int × Int × List Task × Int × Int × Int × Int) × (Int × Int)) : St := { slots := [(1, .ptr 0 0 0), (3, .r [] (.int .i64 pv.2.1)), (7, .r [] (.sl (.st .task) pv.1.1)), (8, .r [] (.int .i64 pv.1.2.1)), (9, .r [] (.int .i64 pv.2.2))], heap := [(0, .box [.r [] (.int .i64 pv.1.2.2.1), .r [] (.int .i64 pv.1.2.2.2.1), .r [] (.int .i64 pv.1.2.2.2.2.1), .r [] (.sl (.st .task) pv.1.2.2.2.2.2.1), .r [] (.int .i64 pv.1.2.2.2.2.2.2.1), .r [] (.int .i64 pv.1.2.2.2.2.2.2.2.1), .r [] (.int .i64 pv.1.2.2.2.2.2.2.2.2.1), .r [] (.int .i64 pv.1.2.2.2.2.2.2.2.2.2)])], nid := 1, n := 20, gh := [] }
def y16k (nf : NF) : Option ((List Task × Int × Int × Int × Int × List Task × Int × Int × Int × Int) × (Int × Int)) := match nf with
  | ([.ptr 0 0 0, .r [] (.int .i64 w0), .r [] (.sl (.st .task) w1), .r [] (.int .i64 w2), .r [] (.int .i64 w3)], [.box [.r [] (.int .i64 w4), .r [] (.int .i64 w5), .r [] (.int .i64 w6), .r [] (.sl (.st .task) w7), .r [] (.int .i64 w8), .r [] (.int .i64 w9), .r [] (.int .i64 w10), .r [] (.int .i64 w11)]], []) => some ((w1, w2, w4, w5, w6, w7, w8, w9, w10, w11), (w0, w3))
  | _ => none
theorem y16l (nf : NF) (v : (List Task × Int × Int × Int × Int × List Task × Int × Int × Int × Int) × (Int × Int)) (h : y16k nf = some v) : denorm y16f 20 nf = y16j v := by
  unfold y16k at h
  split at h
  · cases h; rfl
  · cases h
def y16m (p : List Task × Int × Int × Int × Int × List Task × Int × Int × Int × Int) (x : Int) : St := { slots := [(3, .r [] (.int .i64 x))], heap := [], nid := 0, n := 20, gh := [] }
def y16n (ρ : Type) (k : Nat) : Nat → Ev ρ → Ev ρ := fun id f => cond (Nat.beq id 0) (loopOrc y16f y16g (fun n nf => cond (Nat.beq n 20) (y16k nf) none) fun pv K => iter (fun v next => I_Sched_workLeft_g0 k pv.1 v next (fun x => K (.exit 0) (y16m pv.1 x))) k pv.2) ((fun _ _ _ _ => none) id f)
theorem y16o {ρ : Type} (k : Nat) (p : List Task × Int × Int × Int × Int × List Task × Int × Int × Int × Int) (v : Int × Int) (K K1 : Ex → St → Option ρ) : ev (y16b k) (y16n ρ k) 0 y16e (y16j (p, v)) (fun e st' => match e with
    | .normal => (normC y16f y16g st').bind fun nf => K1 .normal (denorm y16f st'.n nf)
    | e => (normC (y16h e) (y16i e) st').bind fun nf => K e (denorm (y16h e) st'.n nf)) = I_Sched_workLeft_g0 k p v (fun v' => K1 .normal (y16j (p, v'))) (fun x => K (.exit 0) (y16m p x)) := by kernel_rfl
theorem y16p {ρ : Type} (k : Nat) : Sound Try.prog (.loop y16e) (y16n ρ k 0 fun st K => ev (y16b k) (y16n ρ k) 0 y16e st K) :=
  loop_ok (ev_sound (y16c k) y16e 0 (lpgood_none (by kernel_rfl))) y16h y16i k (g := fun p v next K => I_Sched_workLeft_g0 k p v next (fun x => K (.exit 0) (y16m p x))) (dec_at y16l) (fun p v K K1 => y16o k p v K K1)
def y16q (a : Sched) : List Arg := [.agg [.int .i64 a.now, .int .i64 a.slack, .int .i64 a.age, .sl (.st .task) a.tasks, .int .i64 a.run, .int .i64 a.left, .int .i64 a.turns, .int .i64 a.next]]
def y16r (l : List Arg) : Option (Sched) := match l with
  | [.agg [.int .i64 b0_0, .int .i64 b0_1, .int .i64 b0_2, .sl (.st .task) b0_3, .int .i64 b0_4, .int .i64 b0_5, .int .i64 b0_6, .int .i64 b0_7]] => some (⟨b0_0, b0_1, b0_2, b0_3, b0_4, b0_5, b0_6, b0_7⟩ : Sched)
  | _ => none
def y16s (r : Int) : Out := (.r [] (.int .i64 r), [])
def y16t (o : Out) : Option (Int) := match o with
  | (.r [] (.int .i64 z1), []) => some z1
  | _ => none
def y16u (k : Nat) : PG := fun _ l K => (y16r l).bind fun a => (I_Sched_workLeft k a).bind fun r => K (y16s r)
theorem y16v (k : Nat) (a : Sched) : ev (y16b k) (y16n (Int) k) 0 y16d (st0 Try.f123 (y16q a)) (fin Try.prog Try.f123 (.sc) y16t) = I_Sched_workLeft k a := by kernel_rfl
theorem y16w (k : Nat) : PureOk Try.prog 123 (y16u k) :=
  pureOk_of_ev (y16c k) Try.func123 (by kernel_rfl) (by kernel_rfl) y16q y16r
    (fun l a h => by unfold y16r at h; split at h <;> first | (cases h; rfl) | cases h) (fun a => rfl) (lpgood_of (l := [(0, y16e)]) (by kernel_rfl) ⟨y16p k, trivial⟩)
    (fun o r h => by unfold y16t at h; split at h <;> first | (cases h; rfl) | cases h) (y16v k)
def y16x (k : Nat) : Orc := pureOrc [.agg [(.int .i64), (.int .i64), (.int .i64), (.sl (.st .task)), (.int .i64), (.int .i64), (.int .i64), (.int .i64)]] (y16u k)
theorem y16y (k : Nat) : OrcOk Try.prog 123 (y16x k) := pureOrc_ok (y16w k)
noncomputable def y16z (k : Nat) : Env := { P := Try.prog, tt := tt, orc := fun g => cond (Nat.beq g 40) (yk9 k) (cond (Nat.beq g 123) (y16x k) (noOrc)) }
theorem y170 (k : Nat) : EnvOk (y16z k) := fun g => (orc_cond (yka k) (orc_cond (y16y k) (noOrc_ok _ _)))
noncomputable def y171 : Code := (Try.f34.body).getD .skip
def y172 (ρ : Type) (k : Nat) : Nat → Ev ρ → Ev ρ := fun _ _ _ _ => none
def y173 (a : Sched) : List Arg := [.agg [.int .i64 a.now, .int .i64 a.slack, .int .i64 a.age, .sl (.st .task) a.tasks, .int .i64 a.run, .int .i64 a.left, .int .i64 a.turns, .int .i64 a.next]]
def y174 (l : List Arg) : Option (Sched) := match l with
  | [.agg [.int .i64 b0_0, .int .i64 b0_1, .int .i64 b0_2, .sl (.st .task) b0_3, .int .i64 b0_4, .int .i64 b0_5, .int .i64 b0_6, .int .i64 b0_7]] => some (⟨b0_0, b0_1, b0_2, b0_3, b0_4, b0_5, b0_6, b0_7⟩ : Sched)
  | _ => none
def y175 (r : Int) : Out := (.r [] (.int .i64 r), [])
def y176 (o : Out) : Option (Int) := match o with
  | (.r [] (.int .i64 z1), []) => some z1
  | _ => none
def y177 (k : Nat) : PG := fun _ l K => (y174 l).bind fun a => (I_WorkLeft k a).bind fun r => K (y175 r)
theorem y178 (k : Nat) (a : Sched) : ev (y16z k) (y172 (Int) k) 0 y171 (st0 Try.f34 (y173 a)) (fin Try.prog Try.f34 (.sc) y176) = I_WorkLeft k a := by kernel_rfl
theorem y179 (k : Nat) : PureOk Try.prog 34 (y177 k) :=
  pureOk_of_ev (y170 k) Try.func34 (by kernel_rfl) (by kernel_rfl) y173 y174
    (fun l a h => by unfold y174 at h; split at h <;> first | (cases h; rfl) | cases h) (fun a => rfl) (lpgood_none (by kernel_rfl))
    (fun o r h => by unfold y176 at h; split at h <;> first | (cases h; rfl) | cases h) (y178 k)
def y17a (k : Nat) : Orc := pureOrc [.agg [(.int .i64), (.int .i64), (.int .i64), (.sl (.st .task)), (.int .i64), (.int .i64), (.int .i64), (.int .i64)]] (y177 k)
theorem y17b (k : Nat) : OrcOk Try.prog 34 (y17a k) := pureOrc_ok (y179 k)
noncomputable def y17c (k : Nat) : Env := { P := Try.prog, tt := tt, orc := fun g => cond (Nat.beq g 29) (yj k) (cond (Nat.beq g 34) (y17a k) (cond (Nat.beq g 36) (y4p k) (cond (Nat.beq g 37) (yfc k) (cond (Nat.beq g 38) (y15k k) (cond (Nat.beq g 39) (y169 k) (cond (Nat.beq g 40) (yk9 k) (cond (Nat.beq g 41) (y7i k) (cond (Nat.beq g 42) (y14i k) (noOrc))))))))) }
theorem y17d (k : Nat) : EnvOk (y17c k) := fun g => (orc_cond (yk k) (orc_cond (y17b k) (orc_cond (y4q k) (orc_cond (yfd k) (orc_cond (y15l k) (orc_cond (y16a k) (orc_cond (yka k) (orc_cond (y7j k) (orc_cond (y14j k) (noOrc_ok _ _))))))))))
noncomputable def y17e : Code := (Try.f6.body).getD .skip
def y17f (ρ : Type) (k : Nat) : Nat → Ev ρ → Ev ρ := fun _ _ _ _ => none
def y17g (a : List Int) : List Arg := [.one (.sl (.int .u8) a)]
def y17h (l : List Arg) : Option (List Int) := match l with
  | [.one (.sl (.int .u8) b0)] => some b0
  | _ => none
def y17i (r : Bool) : Out := (.r [] (.bool r), [])
def y17j (o : Out) : Option (Bool) := match o with
  | (.r [] (.bool z1), []) => some z1
  | _ => none
def y17k (k : Nat) : PG := fun _ l K => (y17h l).bind fun a => (L_FnScheds k a).bind fun r => K (y17i r)
theorem y17l (k : Nat) (a : List Int) : ev (y17c k) (y17f (Bool) k) 0 y17e (st0 Try.f6 (y17g a)) (fin Try.prog Try.f6 (.sc) y17j) = L_FnScheds k a := by kernel_rfl
theorem y17m (k : Nat) : PureOk Try.prog 6 (y17k k) :=
  pureOk_of_ev (y17d k) Try.func6 (by kernel_rfl) (by kernel_rfl) y17g y17h
    (fun l a h => by unfold y17h at h; split at h <;> first | (cases h; rfl) | cases h) (fun a => rfl) (lpgood_none (by kernel_rfl))
    (fun o r h => by unfold y17j at h; split at h <;> first | (cases h; rfl) | cases h) (y17l k)
end
end Go.Proofs.Ev
