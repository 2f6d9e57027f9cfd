/- Text of this claim. -/
import Derived.Test.YtcohhbpegbhcgaaEvK5
import Derived.Test.YtcohhbpegbhcgaaProg
import Derived.Test.YtcohhbpegbhcgaaEvD1
import Derived.Test.YtcohhbpegbhcgaaEvD10
import Derived.Test.YtcohhbpegbhcgaaEvD2
import Derived.Test.YtcohhbpegbhcgaaEvD3
import Derived.Test.YtcohhbpegbhcgaaEvD5
import Derived.Test.YtcohhbpegbhcgaaEvD9
import Derived.Test.YtcohhbpegbhcgaaEvXCFnExactEvalBatch
set_option linter.unusedVariables false
set_option linter.unusedSimpArgs false
set_option linter.unusedVariables false
set_option linter.unusedSimpArgs false
set_option maxRecDepth 100000
set_option maxHeartbeats 4000000
namespace Go.Proofs.Ev
noncomputable section
variable [Tok]
set_option linter.unusedSectionVars false
def ynf (r : Bool) : Out := (.r [] (.bool r), [])
def yng (o : Out) : Option (Bool) := match o with
  | (.r [] (.bool z1), []) => some z1
  | _ => none
def ynh (k : Nat) : PG := fun _ l K => (yne l).bind fun a => (I_Layer_hasNone k a).bind fun r => K (ynf r)
theorem yni (k : Nat) (a : Layer) : ev (yn9 k) (ync (Bool) k) 0 ynb (st0 Try.f77 (ynd a)) (fin Try.prog Try.f77 (.sc) yng) = I_Layer_hasNone k a := by kernel_rfl
theorem ynj (k : Nat) : PureOk Try.prog 77 (ynh k) :=
  pureOk_of_ev (yna k) Try.func77 (by kernel_rfl) (by kernel_rfl) ynd yne
    (fun l a h => by unfold yne at h; split at h <;> first | (cases h; rfl) | cases h) (fun a => rfl) (lpgood_none (by kernel_rfl))
    (fun o r h => by unfold yng at h; split at h <;> first | (cases h; rfl) | cases h) (yni k)
def ynk (k : Nat) : Orc := pureOrc [.agg [(.int .i64), (.int .i64), (.int .i64), (.int .i64), (.int .i64), (.int .i64), (.int .i64), (.sl (.int .i64)), (.sl (.int .i64))]] (ynh k)
theorem ynl (k : Nat) : OrcOk Try.prog 77 (ynk k) := pureOrc_ok (ynj k)
noncomputable def ynm (k : Nat) : Env := { P := Try.prog, tt := tt, orc := fun g => cond (Nat.beq g 26) (o_I_in k) (noOrc) }
theorem ynn (k : Nat) : EnvOk (ynm k) := fun g => (orc_cond (ymi k) (noOrc_ok _ _))
noncomputable def yno : Code := (Try.f76.body).getD .skip
def ynp (ρ : Type) (k : Nat) : Nat → Ev ρ → Ev ρ := fun _ _ _ _ => none
def ynq (a : Int) : List Arg := [.one (.int .i64 a)]
def ynr (l : List Arg) : Option (Int) := match l with
  | [.one (.int .i64 b0)] => some b0
  | _ => none
def yns (r : Bool) : Out := (.r [] (.bool r), [])
def ynt (o : Out) : Option (Bool) := match o with
  | (.r [] (.bool z1), []) => some z1
  | _ => none
def ynu (k : Nat) : PG := fun _ l K => (ynr l).bind fun a => (I_areItems_c1 k a).bind fun r => K (yns r)
theorem ynv (k : Nat) (a : Int) : ev (ynm k) (ynp (Bool) k) 0 yno (st0 Try.f76 (ynq a)) (fin Try.prog Try.f76 (.sc) ynt) = I_areItems_c1 k a := by kernel_rfl
theorem ynw (k : Nat) : PureOk Try.prog 76 (ynu k) :=
  pureOk_of_ev (ynn k) Try.func76 (by kernel_rfl) (by kernel_rfl) ynq ynr
    (fun l a h => by unfold ynr at h; split at h <;> first | (cases h; rfl) | cases h) (fun a => rfl) (lpgood_none (by kernel_rfl))
    (fun o r h => by unfold ynt at h; split at h <;> first | (cases h; rfl) | cases h) (ynv k)
def ynx (k : Nat) : Orc := pureOrc [.one (.int .i64)] (ynu k)
theorem yny (k : Nat) : OrcOk Try.prog 76 (ynx k) := pureOrc_ok (ynw k)
noncomputable def ynz (k : Nat) : Env := { P := Try.prog, tt := tt, orc := fun g => cond (Nat.beq g 76) (ynx k) (noOrc) }
theorem yo0 (k : Nat) : EnvOk (ynz k) := fun g => (orc_cond (yny k) (noOrc_ok _ _))
noncomputable def yo1 : Code := (Try.f92.body).getD .skip
noncomputable def yo2 : Code := ((loopsIn 0 yo1).getD 0 (0, .skip)).2
def yo3 : List Nat := [0, 1, 7, 8]
def yo4 : List (Where × Co) := []
def yo5 : Ex → List Nat
  | .exit j => cond (Nat.beq j 0) [] []
  | .ret => [4]
  | .normal => []
def yo6 : Ex → List (Where × Co)
  | .exit j => cond (Nat.beq j 0) [] []
  | .ret => []
  | .normal => []
def yo7 (pv : (List Int × Int) × (Int)) : St := { slots := [(0, .r [] (.sl (.int .i64) pv.1.1)), (1, .fn (.func 76) [] []), (7, .r [] (.int .i64 pv.1.2)), (8, .r [] (.int .i64 pv.2))], heap := [], nid := 0, n := 19, gh := [] }
def yo8 (nf : NF) : Option ((List Int × Int) × (Int)) := match nf with
  | ([.r [] (.sl (.int .i64) w0), .fn (.func 76) [] [], .r [] (.int .i64 w1), .r [] (.int .i64 w2)], [], []) => some ((w0, w1), w2)
  | _ => none
theorem yo9 (nf : NF) (v : (List Int × Int) × (Int)) (h : yo8 nf = some v) : denorm yo3 19 nf = yo7 v := by
  unfold yo8 at h
  split at h
  · cases h; rfl
  · cases h
def yoa (p : List Int × Int) (x : Unit) : St := { slots := [], heap := [], nid := 0, n := 19, gh := [] }
def yob (p : List Int × Int) (x : Int) : St := { slots := [(4, .r [] (.int .i64 x))], heap := [], nid := 0, n := 19, gh := [] }
def yoc (ρ : Type) (k : Nat) : Nat → Ev ρ → Ev ρ := fun id f => cond (Nat.beq id 0) (loopOrc yo3 yo4 (fun n nf => cond (Nat.beq n 19) (yo8 nf) none) fun pv K => iter (fun v next => slices_IndexFunc_lint_int__I_areItems_c1_g0 k pv.1 v next (fun x => K (.exit 0) (yoa pv.1 x)) (fun x => K .ret (yob pv.1 x))) k pv.2) ((fun _ _ _ _ => none) id f)
theorem yod {ρ : Type} (k : Nat) (p : List Int × Int) (v : Int) (K K1 : Ex → St → Option ρ) : ev (ynz k) (yoc ρ k) 0 yo2 (yo7 (p, v)) (fun e st' => match e with
    | .normal => (normC yo3 yo4 st').bind fun nf => K1 .normal (denorm yo3 st'.n nf)
    | e => (normC (yo5 e) (yo6 e) st').bind fun nf => K e (denorm (yo5 e) st'.n nf)) = slices_IndexFunc_lint_int__I_areItems_c1_g0 k p v (fun v' => K1 .normal (yo7 (p, v'))) (fun x => K (.exit 0) (yoa p x)) (fun x => K .ret (yob p x)) := by kernel_rfl
theorem yoe {ρ : Type} (k : Nat) : Sound Try.prog (.loop yo2) (yoc ρ k 0 fun st K => ev (ynz k) (yoc ρ k) 0 yo2 st K) :=
  loop_ok (ev_sound (yo0 k) yo2 0 (lpgood_none (by kernel_rfl))) yo5 yo6 k (g := fun p v next K => slices_IndexFunc_lint_int__I_areItems_c1_g0 k p v next (fun x => K (.exit 0) (yoa p x)) (fun x => K .ret (yob p x))) (dec_at yo9) (fun p v K K1 => yod k p v K K1)
def yof (a : List Int) : List Arg := [.one (.sl (.int .i64) a), .fn (.func 76) [] []]
def yog (l : List Arg) : Option (List Int) := match l with
  | [.one (.sl (.int .i64) b0), .fn (.func 76) [] []] => some b0
  | _ => none
def yoh (r : Int) : Out := (.r [] (.int .i64 r), [])
def yoi (o : Out) : Option (Int) := match o with
  | (.r [] (.int .i64 z1), []) => some z1
  | _ => none
def yoj (k : Nat) : PG := fun _ l K => (yog l).bind fun a => (slices_IndexFunc_lint_int__I_areItems_c1 k a).bind fun r => K (yoh r)
theorem yok (k : Nat) (a : List Int) : ev (ynz k) (yoc (Int) k) 0 yo1 (st0 Try.f92 (yof a)) (fin Try.prog Try.f92 (.sc) yoi) = slices_IndexFunc_lint_int__I_areItems_c1 k a := by kernel_rfl
theorem yol (k : Nat) : PureOk Try.prog 92 (yoj k) :=
  pureOk_of_ev (yo0 k) Try.func92 (by kernel_rfl) (by kernel_rfl) yof yog
    (fun l a h => by unfold yog at h; split at h <;> first | (cases h; rfl) | cases h) (fun a => rfl) (lpgood_of (l := [(0, yo2)]) (by kernel_rfl) ⟨yoe k, trivial⟩)
    (fun o r h => by unfold yoi at h; split at h <;> first | (cases h; rfl) | cases h) (yok k)
def yom (k : Nat) : Orc := pureOrc [.one (.sl (.int .i64)), .fn] (yoj k)
theorem yon (k : Nat) : OrcOk Try.prog 92 (yom k) := pureOrc_ok (yol k)
noncomputable def yoo (k : Nat) : Env := { P := Try.prog, tt := tt, orc := fun g => cond (Nat.beq g 92) (yom k) (noOrc) }
theorem yop (k : Nat) : EnvOk (yoo k) := fun g => (orc_cond (yon k) (noOrc_ok _ _))
noncomputable def yoq : Code := (Try.f75.body).getD .skip
def yor (ρ : Type) (k : Nat) : Nat → Ev ρ → Ev ρ := fun _ _ _ _ => none
def yos (a : List Int) : List Arg := [.one (.sl (.int .i64) a), .fn (.func 76) [] []]
def yot (l : List Arg) : Option (List Int) := match l with
  | [.one (.sl (.int .i64) b0), .fn (.func 76) [] []] => some b0
  | _ => none
def you (r : Bool) : Out := (.r [] (.bool r), [])
def yov (o : Out) : Option (Bool) := match o with
  | (.r [] (.bool z1), []) => some z1
  | _ => none
def yow (k : Nat) : PG := fun _ l K => (yot l).bind fun a => (slices_ContainsFunc_lint_int__I_areItems_c1 k a).bind fun r => K (you r)
theorem yox (k : Nat) (a : List Int) : ev (yoo k) (yor (Bool) k) 0 yoq (st0 Try.f75 (yos a)) (fin Try.prog Try.f75 (.sc) yov) = slices_ContainsFunc_lint_int__I_areItems_c1 k a := by kernel_rfl
theorem yoy (k : Nat) : PureOk Try.prog 75 (yow k) :=
  pureOk_of_ev (yop k) Try.func75 (by kernel_rfl) (by kernel_rfl) yos yot
    (fun l a h => by unfold yot at h; split at h <;> first | (cases h; rfl) | cases h) (fun a => rfl) (lpgood_none (by kernel_rfl))
    (fun o r h => by unfold yov at h; split at h <;> first | (cases h; rfl) | cases h) (yox k)
def yoz (k : Nat) : Orc := pureOrc [.one (.sl (.int .i64)), .fn] (yow k)
theorem yp0 (k : Nat) : OrcOk Try.prog 75 (yoz k) := pureOrc_ok (yoy k)
noncomputable def yp1 (k : Nat) : Env := { P := Try.prog, tt := tt, orc := fun g => cond (Nat.beq g 75) (yoz k) (noOrc) }
theorem yp2 (k : Nat) : EnvOk (yp1 k) := fun g => (orc_cond (yp0 k) (noOrc_ok _ _))
noncomputable def yp3 : Code := (Try.f65.body).getD .skip
def yp4 (ρ : Type) (k : Nat) : Nat → Ev ρ → Ev ρ := fun _ _ _ _ => none
def yp5 (a : List Int) : List Arg := [.one (.sl (.int .i64) a)]
def yp6 (l : List Arg) : Option (List Int) := match l with
  | [.one (.sl (.int .i64) b0)] => some b0
  | _ => none
def yp7 (r : Bool) : Out := (.r [] (.bool r), [])
def yp8 (o : Out) : Option (Bool) := match o with
  | (.r [] (.bool z1), []) => some z1
  | _ => none
def yp9 (k : Nat) : PG := fun _ l K => (yp6 l).bind fun a => (I_areItems k a).bind fun r => K (yp7 r)
theorem ypa (k : Nat) (a : List Int) : ev (yp1 k) (yp4 (Bool) k) 0 yp3 (st0 Try.f65 (yp5 a)) (fin Try.prog Try.f65 (.sc) yp8) = I_areItems k a := by kernel_rfl
theorem ypb (k : Nat) : PureOk Try.prog 65 (yp9 k) :=
  pureOk_of_ev (yp2 k) Try.func65 (by kernel_rfl) (by kernel_rfl) yp5 yp6
    (fun l a h => by unfold yp6 at h; split at h <;> first | (cases h; rfl) | cases h) (fun a => rfl) (lpgood_none (by kernel_rfl))
    (fun o r h => by unfold yp8 at h; split at h <;> first | (cases h; rfl) | cases h) (ypa k)
def ypc (k : Nat) : Orc := pureOrc [.one (.sl (.int .i64))] (yp9 k)
theorem ypd (k : Nat) : OrcOk Try.prog 65 (ypc k) := pureOrc_ok (ypb k)
noncomputable def ype (k : Nat) : Env := { P := Try.prog, tt := tt, orc := fun g => cond (Nat.beq g 26) (o_I_in k) (noOrc) }
theorem ypf (k : Nat) : EnvOk (ype k) := fun g => (orc_cond (ymi k) (noOrc_ok _ _))
noncomputable def ypg : Code := (Try.f93.body).getD .skip
def yph (ρ : Type) (k : Nat) : Nat → Ev ρ → Ev ρ := fun _ _ _ _ => none
def ypi (a : Int) : List Arg := [.one (.int .i64 a)]
def ypj (l : List Arg) : Option (Int) := match l with
  | [.one (.int .i64 b0)] => some b0
  | _ => none
def ypk (r : Bool) : Out := (.r [] (.bool r), [])
def ypl (o : Out) : Option (Bool) := match o with
  | (.r [] (.bool z1), []) => some z1
  | _ => none
def ypm (k : Nat) : PG := fun _ l K => (ypj l).bind fun a => (I_Layer_isScaled_c1 k a).bind fun r => K (ypk r)
theorem ypn (k : Nat) (a : Int) : ev (ype k) (yph (Bool) k) 0 ypg (st0 Try.f93 (ypi a)) (fin Try.prog Try.f93 (.sc) ypl) = I_Layer_isScaled_c1 k a := by kernel_rfl
theorem ypo (k : Nat) : PureOk Try.prog 93 (ypm k) :=
  pureOk_of_ev (ypf k) Try.func93 (by kernel_rfl) (by kernel_rfl) ypi ypj
    (fun l a h => by unfold ypj at h; split at h <;> first | (cases h; rfl) | cases h) (fun a => rfl) (lpgood_none (by kernel_rfl))
    (fun o r h => by unfold ypl at h; split at h <;> first | (cases h; rfl) | cases h) (ypn k)
def ypp (k : Nat) : Orc := pureOrc [.one (.int .i64)] (ypm k)
theorem ypq (k : Nat) : OrcOk Try.prog 93 (ypp k) := pureOrc_ok (ypo k)
noncomputable def ypr (k : Nat) : Env := { P := Try.prog, tt := tt, orc := fun g => cond (Nat.beq g 93) (ypp k) (noOrc) }
theorem yps (k : Nat) : EnvOk (ypr k) := fun g => (orc_cond (ypq k) (noOrc_ok _ _))
noncomputable def ypt : Code := (Try.f92.body).getD .skip
noncomputable def ypu : Code := ((loopsIn 0 ypt).getD 0 (0, .skip)).2
def ypv : List Nat := [0, 1, 7, 8]
def ypw : List (Where × Co) := []
def ypx : Ex → List Nat
  | .exit j => cond (Nat.beq j 0) [] []
  | .ret => [4]
  | .normal => []
def ypy : Ex → List (Where × Co)
  | .exit j => cond (Nat.beq j 0) [] []
  | .ret => []
  | .normal => []
def ypz (pv : (List Int × Int) × (Int)) : St := { slots := [(0, .r [] (.sl (.int .i64) pv.1.1)), (1, .fn (.func 93) [] []), (7, .r [] (.int .i64 pv.1.2)), (8, .r [] (.int .i64 pv.2))], heap := [], nid := 0, n := 19, gh := [] }
def yq0 (nf : NF) : Option ((List Int × Int) × (Int)) := match nf with
  | ([.r [] (.sl (.int .i64) w0), .fn (.func 93) [] [], .r [] (.int .i64 w1), .r [] (.int .i64 w2)], [], []) => some ((w0, w1), w2)
  | _ => none
theorem yq1 (nf : NF) (v : (List Int × Int) × (Int)) (h : yq0 nf = some v) : denorm ypv 19 nf = ypz v := by
  unfold yq0 at h
  split at h
  · cases h; rfl
  · cases h
def yq2 (p : List Int × Int) (x : Unit) : St := { slots := [], heap := [], nid := 0, n := 19, gh := [] }
def yq3 (p : List Int × Int) (x : Int) : St := { slots := [(4, .r [] (.int .i64 x))], heap := [], nid := 0, n := 19, gh := [] }
def yq4 (ρ : Type) (k : Nat) : Nat → Ev ρ → Ev ρ := fun id f => cond (Nat.beq id 0) (loopOrc ypv ypw (fun n nf => cond (Nat.beq n 19) (yq0 nf) none) fun pv K => iter (fun v next => slices_IndexFunc_lint_int__I_Layer_isScaled_c1_g0 k pv.1 v next (fun x => K (.exit 0) (yq2 pv.1 x)) (fun x => K .ret (yq3 pv.1 x))) k pv.2) ((fun _ _ _ _ => none) id f)
theorem yq5 {ρ : Type} (k : Nat) (p : List Int × Int) (v : Int) (K K1 : Ex → St → Option ρ) : ev (ypr k) (yq4 ρ k) 0 ypu (ypz (p, v)) (fun e st' => match e with
    | .normal => (normC ypv ypw st').bind fun nf => K1 .normal (denorm ypv st'.n nf)
    | e => (normC (ypx e) (ypy e) st').bind fun nf => K e (denorm (ypx e) st'.n nf)) = slices_IndexFunc_lint_int__I_Layer_isScaled_c1_g0 k p v (fun v' => K1 .normal (ypz (p, v'))) (fun x => K (.exit 0) (yq2 p x)) (fun x => K .ret (yq3 p x)) := by kernel_rfl
theorem yq6 {ρ : Type} (k : Nat) : Sound Try.prog (.loop ypu) (yq4 ρ k 0 fun st K => ev (ypr k) (yq4 ρ k) 0 ypu st K) :=
  loop_ok (ev_sound (yps k) ypu 0 (lpgood_none (by kernel_rfl))) ypx ypy k (g := fun p v next K => slices_IndexFunc_lint_int__I_Layer_isScaled_c1_g0 k p v next (fun x => K (.exit 0) (yq2 p x)) (fun x => K .ret (yq3 p x))) (dec_at yq1) (fun p v K K1 => yq5 k p v K K1)
def yq7 (a : List Int) : List Arg := [.one (.sl (.int .i64) a), .fn (.func 93) [] []]
def yq8 (l : List Arg) : Option (List Int) := match l with
  | [.one (.sl (.int .i64) b0), .fn (.func 93) [] []] => some b0
  | _ => none
def yq9 (r : Int) : Out := (.r [] (.int .i64 r), [])
def yqa (o : Out) : Option (Int) := match o with
  | (.r [] (.int .i64 z1), []) => some z1
  | _ => none
def yqb (k : Nat) : PG := fun _ l K => (yq8 l).bind fun a => (slices_IndexFunc_lint_int__I_Layer_isScaled_c1 k a).bind fun r => K (yq9 r)
theorem yqc (k : Nat) (a : List Int) : ev (ypr k) (yq4 (Int) k) 0 ypt (st0 Try.f92 (yq7 a)) (fin Try.prog Try.f92 (.sc) yqa) = slices_IndexFunc_lint_int__I_Layer_isScaled_c1 k a := by kernel_rfl
theorem yqd (k : Nat) : PureOk Try.prog 92 (yqb k) :=
  pureOk_of_ev (yps k) Try.func92 (by kernel_rfl) (by kernel_rfl) yq7 yq8
    (fun l a h => by unfold yq8 at h; split at h <;> first | (cases h; rfl) | cases h) (fun a => rfl) (lpgood_of (l := [(0, ypu)]) (by kernel_rfl) ⟨yq6 k, trivial⟩)
    (fun o r h => by unfold yqa at h; split at h <;> first | (cases h; rfl) | cases h) (yqc k)
def yqe (k : Nat) : Orc := pureOrc [.one (.sl (.int .i64)), .fn] (yqb k)
theorem yqf (k : Nat) : OrcOk Try.prog 92 (yqe k) := pureOrc_ok (yqd k)
noncomputable def yqg (k : Nat) : Env := { P := Try.prog, tt := tt, orc := fun g => cond (Nat.beq g 92) (yqe k) (noOrc) }
theorem yqh (k : Nat) : EnvOk (yqg k) := fun g => (orc_cond (yqf k) (noOrc_ok _ _))
noncomputable def yqi : Code := (Try.f75.body).getD .skip
def yqj (ρ : Type) (k : Nat) : Nat → Ev ρ → Ev ρ := fun _ _ _ _ => none
def yqk (a : List Int) : List Arg := [.one (.sl (.int .i64) a), .fn (.func 93) [] []]
def yql (l : List Arg) : Option (List Int) := match l with
  | [.one (.sl (.int .i64) b0), .fn (.func 93) [] []] => some b0
  | _ => none
def yqm (r : Bool) : Out := (.r [] (.bool r), [])
def yqn (o : Out) : Option (Bool) := match o with
  | (.r [] (.bool z1), []) => some z1
  | _ => none
def yqo (k : Nat) : PG := fun _ l K => (yql l).bind fun a => (slices_ContainsFunc_lint_int__I_Layer_isScaled_c1 k a).bind fun r => K (yqm r)
theorem yqp (k : Nat) (a : List Int) : ev (yqg k) (yqj (Bool) k) 0 yqi (st0 Try.f75 (yqk a)) (fin Try.prog Try.f75 (.sc) yqn) = slices_ContainsFunc_lint_int__I_Layer_isScaled_c1 k a := by kernel_rfl
theorem yqq (k : Nat) : PureOk Try.prog 75 (yqo k) :=
  pureOk_of_ev (yqh k) Try.func75 (by kernel_rfl) (by kernel_rfl) yqk yql
    (fun l a h => by unfold yql at h; split at h <;> first | (cases h; rfl) | cases h) (fun a => rfl) (lpgood_none (by kernel_rfl))
    (fun o r h => by unfold yqn at h; split at h <;> first | (cases h; rfl) | cases h) (yqp k)
def yqr (k : Nat) : Orc := pureOrc [.one (.sl (.int .i64)), .fn] (yqo k)
theorem yqs (k : Nat) : OrcOk Try.prog 75 (yqr k) := pureOrc_ok (yqq k)
noncomputable def yqt (k : Nat) : Env := { P := Try.prog, tt := tt, orc := fun g => cond (Nat.beq g 26) (o_I_in k) (cond (Nat.beq g 65) (ypc k) (cond (Nat.beq g 75) (yqr k) (noOrc))) }
theorem yqu (k : Nat) : EnvOk (yqt k) := fun g => (orc_cond (ymi k) (orc_cond (ypd k) (orc_cond (yqs k) (noOrc_ok _ _))))
noncomputable def yqv : Code := (Try.f78.body).getD .skip
def yqw (ρ : Type) (k : Nat) : Nat → Ev ρ → Ev ρ := fun _ _ _ _ => none
def yqx (a : Layer × Int) : List Arg := [.agg [.int .i64 a.1.kind, .int .i64 a.1.out, .int .i64 a.1.size, .int .i64 a.1.step, .int .i64 a.1.mult, .int .i64 a.1.shift, .int .i64 a.1.zero, .sl (.int .i64) a.1.weights, .sl (.int .i64) a.1.bias], .one (.int .i64 a.2)]
def yqy (l : List Arg) : Option (Layer × Int) := match l with
  | [.agg [.int .i64 b0_0, .int .i64 b0_1, .int .i64 b0_2, .int .i64 b0_3, .int .i64 b0_4, .int .i64 b0_5, .int .i64 b0_6, .sl (.int .i64) b0_7, .sl (.int .i64) b0_8], .one (.int .i64 b1)] => some ((⟨b0_0, b0_1, b0_2, b0_3, b0_4, b0_5, b0_6, b0_7, b0_8⟩ : Layer), b1)
  | _ => none
def yqz (r : Bool) : Out := (.r [] (.bool r), [])
def yr0 (o : Out) : Option (Bool) := match o with
  | (.r [] (.bool z1), []) => some z1
  | _ => none
def yr1 (k : Nat) : PG := fun _ l K => (yqy l).bind fun a => (I_Layer_isScaled k a.1 a.2).bind fun r => K (yqz r)
theorem yr2 (k : Nat) (a : Layer × Int) : ev (yqt k) (yqw (Bool) k) 0 yqv (st0 Try.f78 (yqx a)) (fin Try.prog Try.f78 (.sc) yr0) = I_Layer_isScaled k a.1 a.2 := by kernel_rfl
theorem yr3 (k : Nat) : PureOk Try.prog 78 (yr1 k) :=
  pureOk_of_ev (yqu k) Try.func78 (by kernel_rfl) (by kernel_rfl) yqx yqy
    (fun l a h => by unfold yqy at h; split at h <;> first | (cases h; rfl) | cases h) (fun a => rfl) (lpgood_none (by kernel_rfl))
    (fun o r h => by unfold yr0 at h; split at h <;> first | (cases h; rfl) | cases h) (yr2 k)
def yr4 (k : Nat) : Orc := pureOrc [.agg [(.int .i64), (.int .i64), (.int .i64), (.int .i64), (.int .i64), (.int .i64), (.int .i64), (.sl (.int .i64)), (.sl (.int .i64))], .one (.int .i64)] (yr1 k)
theorem yr5 (k : Nat) : OrcOk Try.prog 78 (yr4 k) := pureOrc_ok (yr3 k)
noncomputable def yr6 (k : Nat) : Env := { P := Try.prog, tt := tt, orc := fun g => cond (Nat.beq g 26) (o_I_in k) (noOrc) }
theorem yr7 (k : Nat) : EnvOk (yr6 k) := fun g => (orc_cond (ymi k) (noOrc_ok _ _))
noncomputable def yr8 : Code := (Try.f79.body).getD .skip
def yr9 (ρ : Type) (k : Nat) : Nat → Ev ρ → Ev ρ := fun _ _ _ _ => none
def yra (a : Layer × Shape) : List Arg := [.agg [.int .i64 a.1.kind, .int .i64 a.1.out, .int .i64 a.1.size, .int .i64 a.1.step, .int .i64 a.1.mult, .int .i64 a.1.shift, .int .i64 a.1.zero, .sl (.int .i64) a.1.weights, .sl (.int .i64) a.1.bias], .agg [.int .i64 a.2.h, .int .i64 a.2.w, .int .i64 a.2.c]]
def yrb (l : List Arg) : Option (Layer × Shape) := match l with
  | [.agg [.int .i64 b0_0, .int .i64 b0_1, .int .i64 b0_2, .int .i64 b0_3, .int .i64 b0_4, .int .i64 b0_5, .int .i64 b0_6, .sl (.int .i64) b0_7, .sl (.int .i64) b0_8], .agg [.int .i64 b1_0, .int .i64 b1_1, .int .i64 b1_2]] => some ((⟨b0_0, b0_1, b0_2, b0_3, b0_4, b0_5, b0_6, b0_7, b0_8⟩ : Layer), (⟨b1_0, b1_1, b1_2⟩ : Shape))
  | _ => none
def yrc (r : Bool) : Out := (.r [] (.bool r), [])
def yrd (o : Out) : Option (Bool) := match o with
  | (.r [] (.bool z1), []) => some z1
  | _ => none
def yre (k : Nat) : PG := fun _ l K => (yrb l).bind fun a => (I_Layer_isWindow k a.1 a.2).bind fun r => K (yrc r)
theorem yrf (k : Nat) (a : Layer × Shape) : ev (yr6 k) (yr9 (Bool) k) 0 yr8 (st0 Try.f79 (yra a)) (fin Try.prog Try.f79 (.sc) yrd) = I_Layer_isWindow k a.1 a.2 := by kernel_rfl
theorem yrg (k : Nat) : PureOk Try.prog 79 (yre k) :=
  pureOk_of_ev (yr7 k) Try.func79 (by kernel_rfl) (by kernel_rfl) yra yrb
    (fun l a h => by unfold yrb at h; split at h <;> first | (cases h; rfl) | cases h) (fun a => rfl) (lpgood_none (by kernel_rfl))
    (fun o r h => by unfold yrd at h; split at h <;> first | (cases h; rfl) | cases h) (yrf k)
def yrh (k : Nat) : Orc := pureOrc [.agg [(.int .i64), (.int .i64), (.int .i64), (.int .i64), (.int .i64), (.int .i64), (.int .i64), (.sl (.int .i64)), (.sl (.int .i64))], .agg [(.int .i64), (.int .i64), (.int .i64)]] (yre k)
theorem yri (k : Nat) : OrcOk Try.prog 79 (yrh k) := pureOrc_ok (yrg k)
noncomputable def yrj (k : Nat) : Env := { P := Try.prog, tt := tt, orc := fun g => noOrc }
theorem yrk (k : Nat) : EnvOk (yrj k) := fun g => (noOrc_ok _ _)
noncomputable def yrl : Code := (Try.f80.body).getD .skip
def yrm (ρ : Type) (k : Nat) : Nat → Ev ρ → Ev ρ := fun _ _ _ _ => none
def yrn (a : Layer × Shape × Int) : List Arg := [.agg [.int .i64 a.1.kind, .int .i64 a.1.out, .int .i64 a.1.size, .int .i64 a.1.step, .int .i64 a.1.mult, .int .i64 a.1.shift, .int .i64 a.1.zero, .sl (.int .i64) a.1.weights, .sl (.int .i64) a.1.bias], .agg [.int .i64 a.2.1.h, .int .i64 a.2.1.w, .int .i64 a.2.1.c], .one (.int .i64 a.2.2)]
def yro (l : List Arg) : Option (Layer × Shape × Int) := match l with
  | [.agg [.int .i64 b0_0, .int .i64 b0_1, .int .i64 b0_2, .int .i64 b0_3, .int .i64 b0_4, .int .i64 b0_5, .int .i64 b0_6, .sl (.int .i64) b0_7, .sl (.int .i64) b0_8], .agg [.int .i64 b1_0, .int .i64 b1_1, .int .i64 b1_2], .one (.int .i64 b2)] => some ((⟨b0_0, b0_1, b0_2, b0_3, b0_4, b0_5, b0_6, b0_7, b0_8⟩ : Layer), (⟨b1_0, b1_1, b1_2⟩ : Shape), b2)
  | _ => none
def yrp (r : Shape) : Out := (.agg [.r [] (.int .i64 r.h), .r [] (.int .i64 r.w), .r [] (.int .i64 r.c)], [])
def yrq (o : Out) : Option (Shape) := match o with
  | (.agg [.r [] (.int .i64 z1), .r [] (.int .i64 z2), .r [] (.int .i64 z3)], []) => some (⟨z1, z2, z3⟩ : Shape)
  | _ => none
def yrr (k : Nat) : PG := fun _ l K => (yro l).bind fun a => (I_Layer_windows k a.1 a.2.1 a.2.2).bind fun r => K (yrp r)
theorem yrs (k : Nat) (a : Layer × Shape × Int) : ev (yrj k) (yrm (Shape) k) 0 yrl (st0 Try.f80 (yrn a)) (fin Try.prog Try.f80 (.agg [.sc, .sc, .sc]) yrq) = I_Layer_windows k a.1 a.2.1 a.2.2 := by kernel_rfl
theorem yrt (k : Nat) : PureOk Try.prog 80 (yrr k) :=
  pureOk_of_ev (yrk k) Try.func80 (by kernel_rfl) (by kernel_rfl) yrn yro
    (fun l a h => by unfold yro at h; split at h <;> first | (cases h; rfl) | cases h) (fun a => rfl) (lpgood_none (by kernel_rfl))
    (fun o r h => by unfold yrq at h; split at h <;> first | (cases h; rfl) | cases h) (yrs k)
def yru (k : Nat) : Orc := pureOrc [.agg [(.int .i64), (.int .i64), (.int .i64), (.int .i64), (.int .i64), (.int .i64), (.int .i64), (.sl (.int .i64)), (.sl (.int .i64))], .agg [(.int .i64), (.int .i64), (.int .i64)], .one (.int .i64)] (yrr k)
theorem yrv (k : Nat) : OrcOk Try.prog 80 (yru k) := pureOrc_ok (yrt k)
noncomputable def yrw (k : Nat) : Env := { P := Try.prog, tt := tt, orc := fun g => noOrc }
theorem yrx (k : Nat) : EnvOk (yrw k) := fun g => (noOrc_ok _ _)
noncomputable def yry : Code := (Try.f81.body).getD .skip
def yrz (ρ : Type) (k : Nat) : Nat → Ev ρ → Ev ρ := fun _ _ _ _ => none
def ys0 (a : Layer) : List Arg := [.agg [.int .i64 a.kind, .int .i64 a.out, .int .i64 a.size, .int .i64 a.step, .int .i64 a.mult, .int .i64 a.shift, .int .i64 a.zero, .sl (.int .i64) a.weights, .sl (.int .i64) a.bias]]
def ys1 (l : List Arg) : Option (Layer) := match l with
  | [.agg [.int .i64 b0_0, .int .i64 b0_1, .int .i64 b0_2, .int .i64 b0_3, .int .i64 b0_4, .int .i64 b0_5, .int .i64 b0_6, .sl (.int .i64) b0_7, .sl (.int .i64) b0_8]] => some (⟨b0_0, b0_1, b0_2, b0_3, b0_4, b0_5, b0_6, b0_7, b0_8⟩ : Layer)
  | _ => none
def ys2 (r : Bool) : Out := (.r [] (.bool r), [])
def ys3 (o : Out) : Option (Bool) := match o with
  | (.r [] (.bool z1), []) => some z1
  | _ => none
def ys4 (k : Nat) : PG := fun _ l K => (ys1 l).bind fun a => (I_Layer_isBare k a).bind fun r => K (ys2 r)
theorem ys5 (k : Nat) (a : Layer) : ev (yrw k) (yrz (Bool) k) 0 yry (st0 Try.f81 (ys0 a)) (fin Try.prog Try.f81 (.sc) ys3) = I_Layer_isBare k a := by kernel_rfl
theorem ys6 (k : Nat) : PureOk Try.prog 81 (ys4 k) :=
  pureOk_of_ev (yrx k) Try.func81 (by kernel_rfl) (by kernel_rfl) ys0 ys1
    (fun l a h => by unfold ys1 at h; split at h <;> first | (cases h; rfl) | cases h) (fun a => rfl) (lpgood_none (by kernel_rfl))
    (fun o r h => by unfold ys3 at h; split at h <;> first | (cases h; rfl) | cases h) (ys5 k)
def ys7 (k : Nat) : Orc := pureOrc [.agg [(.int .i64), (.int .i64), (.int .i64), (.int .i64), (.int .i64), (.int .i64), (.int .i64), (.sl (.int .i64)), (.sl (.int .i64))]] (ys4 k)
theorem ys8 (k : Nat) : OrcOk Try.prog 81 (ys7 k) := pureOrc_ok (ys6 k)
noncomputable def ys9 (k : Nat) : Env := { P := Try.prog, tt := tt, orc := fun g => cond (Nat.beq g 26) (o_I_in k) (cond (Nat.beq g 63) (ymu k) (cond (Nat.beq g 64) (yn7 k) (cond (Nat.beq g 77) (ynk k) (cond (Nat.beq g 78) (yr4 k) (cond (Nat.beq g 79) (yrh k) (cond (Nat.beq g 80) (yru k) (cond (Nat.beq g 81) (ys7 k) (noOrc)))))))) }
theorem ysa (k : Nat) : EnvOk (ys9 k) := fun g => (orc_cond (ymi k) (orc_cond (ymv k) (orc_cond (yn8 k) (orc_cond (ynl k) (orc_cond (yr5 k) (orc_cond (yri k) (orc_cond (yrv k) (orc_cond (ys8 k) (noOrc_ok _ _)))))))))
noncomputable def ysb : Code := (Try.f66.body).getD .skip
def ysc (ρ : Type) (k : Nat) : Nat → Ev ρ → Ev ρ := fun _ _ _ _ => none
def ysd (a : Shape × Layer) : List Arg := [.agg [.int .i64 a.1.h, .int .i64 a.1.w, .int .i64 a.1.c], .agg [.int .i64 a.2.kind, .int .i64 a.2.out, .int .i64 a.2.size, .int .i64 a.2.step, .int .i64 a.2.mult, .int .i64 a.2.shift, .int .i64 a.2.zero, .sl (.int .i64) a.2.weights, .sl (.int .i64) a.2.bias]]
def yse (l : List Arg) : Option (Shape × Layer) := match l with
  | [.agg [.int .i64 b0_0, .int .i64 b0_1, .int .i64 b0_2], .agg [.int .i64 b1_0, .int .i64 b1_1, .int .i64 b1_2, .int .i64 b1_3, .int .i64 b1_4, .int .i64 b1_5, .int .i64 b1_6, .sl (.int .i64) b1_7, .sl (.int .i64) b1_8]] => some ((⟨b0_0, b0_1, b0_2⟩ : Shape), (⟨b1_0, b1_1, b1_2, b1_3, b1_4, b1_5, b1_6, b1_7, b1_8⟩ : Layer))
  | _ => none
def ysf (r : Shape × Bool) : Out := (.tup [.agg [.r [] (.int .i64 r.1.h), .r [] (.int .i64 r.1.w), .r [] (.int .i64 r.1.c)], .r [] (.bool r.2)], [])
def ysg (o : Out) : Option (Shape × Bool) := match o with
  | (.tup [.agg [.r [] (.int .i64 z1), .r [] (.int .i64 z2), .r [] (.int .i64 z3)], .r [] (.bool z4)], []) => some ((⟨z1, z2, z3⟩ : Shape), z4)
  | _ => none
def ysh (k : Nat) : PG := fun _ l K => (yse l).bind fun a => (I_OutShape k a.1 a.2).bind fun r => K (ysf r)
theorem ysi (k : Nat) (a : Shape × Layer) : ev (ys9 k) (ysc (Shape × Bool) k) 0 ysb (st0 Try.f66 (ysd a)) (fin Try.prog Try.f66 (.tup [.agg [.sc, .sc, .sc], .sc]) ysg) = I_OutShape k a.1 a.2 := by kernel_rfl
theorem ysj (k : Nat) : PureOk Try.prog 66 (ysh k) :=
  pureOk_of_ev (ysa k) Try.func66 (by kernel_rfl) (by kernel_rfl) ysd yse
    (fun l a h => by unfold yse at h; split at h <;> first | (cases h; rfl) | cases h) (fun a => rfl) (lpgood_none (by kernel_rfl))
    (fun o r h => by unfold ysg at h; split at h <;> first | (cases h; rfl) | cases h) (ysi k)
def ysk (k : Nat) : Orc := pureOrc [.agg [(.int .i64), (.int .i64), (.int .i64)], .agg [(.int .i64), (.int .i64), (.int .i64), (.int .i64), (.int .i64), (.int .i64), (.int .i64), (.sl (.int .i64)), (.sl (.int .i64))]] (ysh k)
theorem ysl (k : Nat) : OrcOk Try.prog 66 (ysk k) := pureOrc_ok (ysj k)
noncomputable def ysm (k : Nat) : Env := { P := Try.prog, tt := tt, orc := fun g => cond (Nat.beq g 66) (ysk k) (noOrc) }
theorem ysn (k : Nat) : EnvOk (ysm k) := fun g => (orc_cond (ysl k) (noOrc_ok _ _))
noncomputable def yso : Code := (Try.f57.body).getD .skip
noncomputable def ysp : Code := ((loopsIn 0 yso).getD 0 (0, .skip)).2
def ysq : List Nat := [4, 5, 16, 17, 18]
def ysr : List (Where × Co) := []
def yss : Ex → List Nat
  | .exit j => cond (Nat.beq j 0) [4] []
  | .ret => [2, 3]
  | .normal => []
def yst : Ex → List (Where × Co)
  | .exit j => cond (Nat.beq j 0) [] []
  | .ret => []
  | .normal => []
def ysu (pv : (List Layer × Int) × (Int × List Shape × Int × Int × Int)) : St := { slots := [(4, .own 0), (5, .ptr 1 0 0), (16, .r [] (.sl (.st .layer) pv.1.1)), (17, .r [] (.int .i64 pv.1.2)), (18, .r [] (.int .i64 pv.2.1))], heap := [(0, .arr none (.st .shape) pv.2.2.1), (1, .box [.r [] (.int .i64 pv.2.2.2.1), .r [] (.int .i64 pv.2.2.2.2.1), .r [] (.int .i64 pv.2.2.2.2.2)])], nid := 2, n := 37, gh := [] }
def ysv (nf : NF) : Option ((List Layer × Int) × (Int × List Shape × Int × Int × Int)) := match nf with
  | ([.own 0, .ptr 1 0 0, .r [] (.sl (.st .layer) w0), .r [] (.int .i64 w1), .r [] (.int .i64 w2)], [.arr none (.st .shape) w3, .box [.r [] (.int .i64 w4), .r [] (.int .i64 w5), .r [] (.int .i64 w6)]], []) => some ((w0, w1), (w2, w3, w4, w5, w6))
  | _ => none
theorem ysw (nf : NF) (v : (List Layer × Int) × (Int × List Shape × Int × Int × Int)) (h : ysv nf = some v) : denorm ysq 37 nf = ysu v := by
  unfold ysv at h
  split at h
  · cases h; rfl
  · cases h
def ysx (p : List Layer × Int) (x : List Shape) : St := { slots := [(4, .own 0)], heap := [(0, .arr none (.st .shape) x)], nid := 1, n := 37, gh := [] }
def ysy (p : List Layer × Int) (x : Bool) : St := { slots := [(2, .nilS), (3, .r [] (.bool x))], heap := [], nid := 0, n := 37, gh := [] }
def ysz (ρ : Type) (k : Nat) : Nat → Ev ρ → Ev ρ := fun id f => cond (Nat.beq id 0) (loopOrc ysq ysr (fun n nf => cond (Nat.beq n 37) (ysv nf) none) fun pv K => iter (fun v next => I_Model_shapes_g0 k pv.1 v next (fun x => K (.exit 0) (ysx pv.1 x)) (fun x => K .ret (ysy pv.1 x))) k pv.2) ((fun _ _ _ _ => none) id f)
theorem yt0 {ρ : Type} (k : Nat) (p : List Layer × Int) (v : Int × List Shape × Int × Int × Int) (K K1 : Ex → St → Option ρ) : ev (ysm k) (ysz ρ k) 0 ysp (ysu (p, v)) (fun e st' => match e with
    | .normal => (normC ysq ysr st').bind fun nf => K1 .normal (denorm ysq st'.n nf)
    | e => (normC (yss e) (yst e) st').bind fun nf => K e (denorm (yss e) st'.n nf)) = I_Model_shapes_g0 k p v (fun v' => K1 .normal (ysu (p, v'))) (fun x => K (.exit 0) (ysx p x)) (fun x => K .ret (ysy p x)) := by kernel_rfl
theorem yt1 {ρ : Type} (k : Nat) : Sound Try.prog (.loop ysp) (ysz ρ k 0 fun st K => ev (ysm k) (ysz ρ k) 0 ysp st K) :=
  loop_ok (ev_sound (ysn k) ysp 0 (lpgood_none (by kernel_rfl))) yss yst k (g := fun p v next K => I_Model_shapes_g0 k p v next (fun x => K (.exit 0) (ysx p x)) (fun x => K .ret (ysy p x))) (dec_at ysw) (fun p v K K1 => yt0 k p v K K1)
def yt2 (a : Model) : List Arg := [.agg [.int .i64 a.inp.h, .int .i64 a.inp.w, .int .i64 a.inp.c, .sl (.st .layer) a.layers]]
def yt3 (l : List Arg) : Option (Model) := match l with
  | [.agg [.int .i64 b0_0, .int .i64 b0_1, .int .i64 b0_2, .sl (.st .layer) b0_3]] => some (⟨(⟨b0_0, b0_1, b0_2⟩ : Shape), b0_3⟩ : Model)
  | _ => none
def yt4 (r : List Shape × Bool) : Out := (.tup [.own 0, .r [] (.bool r.2)], [.arr none (.st .shape) r.1])
def yt5 (o : Out) : Option (List Shape × Bool) := match o with
  | (.tup [.own 0, .r [] (.bool z2)], [.arr none (.st .shape) z1]) => some (z1, z2)
  | _ => none
def yt6 (k : Nat) : PG := fun _ l K => (yt3 l).bind fun a => (I_Model_shapes k a).bind fun r => K (yt4 r)
theorem yt7 (k : Nat) (a : Model) : ev (ysm k) (ysz (List Shape × Bool) k) 0 yso (st0 Try.f57 (yt2 a)) (fin Try.prog Try.f57 (.tup [.own (.st .shape), .sc]) yt5) = I_Model_shapes k a := by kernel_rfl
theorem yt8 (k : Nat) : PureOk Try.prog 57 (yt6 k) :=
  pureOk_of_ev (ysn k) Try.func57 (by kernel_rfl) (by kernel_rfl) yt2 yt3
    (fun l a h => by unfold yt3 at h; split at h <;> first | (cases h; rfl) | cases h) (fun a => rfl) (lpgood_of (l := [(0, ysp)]) (by kernel_rfl) ⟨yt1 k, trivial⟩)
    (fun o r h => by unfold yt5 at h; split at h <;> first | (cases h; rfl) | cases h) (yt7 k)
def yt9 (k : Nat) : Orc := pureOrc [.agg [(.int .i64), (.int .i64), (.int .i64), (.sl (.st .layer))]] (yt6 k)
theorem yta (k : Nat) : OrcOk Try.prog 57 (yt9 k) := pureOrc_ok (yt8 k)
noncomputable def ytb (k : Nat) : Env := { P := Try.prog, tt := tt, orc := fun g => cond (Nat.beq g 26) (o_I_in k) (cond (Nat.beq g 57) (yt9 k) (noOrc)) }
theorem ytc (k : Nat) : EnvOk (ytb k) := fun g => (orc_cond (ymi k) (orc_cond (yta k) (noOrc_ok _ _)))
noncomputable def ytd : Code := (Try.f38.body).getD .skip
def yte (ρ : Type) (k : Nat) : Nat → Ev ρ → Ev ρ := fun _ _ _ _ => none
def ytf (a : Model) : List Arg := [.agg [.int .i64 a.inp.h, .int .i64 a.inp.w, .int .i64 a.inp.c, .sl (.st .layer) a.layers]]
def ytg (l : List Arg) : Option (Model) := match l with
  | [.agg [.int .i64 b0_0, .int .i64 b0_1, .int .i64 b0_2, .sl (.st .layer) b0_3]] => some (⟨(⟨b0_0, b0_1, b0_2⟩ : Shape), b0_3⟩ : Model)
  | _ => none
def yth (r : Bool) : Out := (.r [] (.bool r), [])
def yti (o : Out) : Option (Bool) := match o with
  | (.r [] (.bool z1), []) => some z1
  | _ => none
def ytj (k : Nat) : PG := fun _ l K => (ytg l).bind fun a => (I_ModelOk k a).bind fun r => K (yth r)
theorem ytk (k : Nat) (a : Model) : ev (ytb k) (yte (Bool) k) 0 ytd (st0 Try.f38 (ytf a)) (fin Try.prog Try.f38 (.sc) yti) = I_ModelOk k a := by kernel_rfl
theorem ytl (k : Nat) : PureOk Try.prog 38 (ytj k) :=
  pureOk_of_ev (ytc k) Try.func38 (by kernel_rfl) (by kernel_rfl) ytf ytg
    (fun l a h => by unfold ytg at h; split at h <;> first | (cases h; rfl) | cases h) (fun a => rfl) (lpgood_none (by kernel_rfl))
    (fun o r h => by unfold yti at h; split at h <;> first | (cases h; rfl) | cases h) (ytk k)
def ytm (k : Nat) : Orc := pureOrc [.agg [(.int .i64), (.int .i64), (.int .i64), (.sl (.st .layer))]] (ytj k)
theorem ytn (k : Nat) : OrcOk Try.prog 38 (ytm k) := pureOrc_ok (ytl k)
noncomputable def yto (k : Nat) : Env := { P := Try.prog, tt := tt, orc := fun g => cond (Nat.beq g 63) (ymu k) (cond (Nat.beq g 64) (yn7 k) (cond (Nat.beq g 65) (ypc k) (noOrc))) }
theorem ytp (k : Nat) : EnvOk (yto k) := fun g => (orc_cond (ymv k) (orc_cond (yn8 k) (orc_cond (ypd k) (noOrc_ok _ _))))
noncomputable def ytq : Code := (Try.f50.body).getD .skip
def ytr (ρ : Type) (k : Nat) : Nat → Ev ρ → Ev ρ := fun _ _ _ _ => none
def yts (a : Tensor) : List Arg := [.agg [.int .i64 a.sh.h, .int .i64 a.sh.w, .int .i64 a.sh.c, .sl (.int .i64) a.data]]
def ytt (l : List Arg) : Option (Tensor) := match l with
  | [.agg [.int .i64 b0_0, .int .i64 b0_1, .int .i64 b0_2, .sl (.int .i64) b0_3]] => some (⟨(⟨b0_0, b0_1, b0_2⟩ : Shape), b0_3⟩ : Tensor)
  | _ => none
def ytu (r : Bool) : Out := (.r [] (.bool r), [])
def ytv (o : Out) : Option (Bool) := match o with
  | (.r [] (.bool z1), []) => some z1
  | _ => none
def ytw (k : Nat) : PG := fun _ l K => (ytt l).bind fun a => (I_TensorOk k a).bind fun r => K (ytu r)
theorem ytx (k : Nat) (a : Tensor) : ev (yto k) (ytr (Bool) k) 0 ytq (st0 Try.f50 (yts a)) (fin Try.prog Try.f50 (.sc) ytv) = I_TensorOk k a := by kernel_rfl
theorem yty (k : Nat) : PureOk Try.prog 50 (ytw k) :=
  pureOk_of_ev (ytp k) Try.func50 (by kernel_rfl) (by kernel_rfl) yts ytt
    (fun l a h => by unfold ytt at h; split at h <;> first | (cases h; rfl) | cases h) (fun a => rfl) (lpgood_none (by kernel_rfl))
    (fun o r h => by unfold ytv at h; split at h <;> first | (cases h; rfl) | cases h) (ytx k)
def ytz (k : Nat) : Orc := pureOrc [.agg [(.int .i64), (.int .i64), (.int .i64), (.sl (.int .i64))]] (ytw k)
theorem yu0 (k : Nat) : OrcOk Try.prog 50 (ytz k) := pureOrc_ok (yty k)
noncomputable def yu1 (k : Nat) : Env := { P := Try.prog, tt := tt, orc := fun g => noOrc }
theorem yu2 (k : Nat) : EnvOk (yu1 k) := fun g => (noOrc_ok _ _)
noncomputable def yu3 : Code := (Try.f103.body).getD .skip
def yu4 (ρ : Type) (k : Nat) : Nat → Ev ρ → Ev ρ := fun _ _ _ _ => none
def yu5 (a : Int × Int × Int) : List Arg := [.one (.int .i64 a.1), .one (.int .i64 a.2.1), .one (.int .i64 a.2.2)]
def yu6 (l : List Arg) : Option (Int × Int × Int) := match l with
  | [.one (.int .i64 b0), .one (.int .i64 b1), .one (.int .i64 b2)] => some (b0, b1, b2)
  | _ => none
def yu7 (r : Int) : Out := (.r [] (.int .i64 r), [])
def yu8 (o : Out) : Option (Int) := match o with
  | (.r [] (.int .i64 z1), []) => some z1
  | _ => none
def yu9 (k : Nat) : PG := fun _ l K => (yu6 l).bind fun a => (I_cut k a.1 a.2.1 a.2.2).bind fun r => K (yu7 r)
theorem yua (k : Nat) (a : Int × Int × Int) : ev (yu1 k) (yu4 (Int) k) 0 yu3 (st0 Try.f103 (yu5 a)) (fin Try.prog Try.f103 (.sc) yu8) = I_cut k a.1 a.2.1 a.2.2 := by kernel_rfl
theorem yub (k : Nat) : PureOk Try.prog 103 (yu9 k) :=
  pureOk_of_ev (yu2 k) Try.func103 (by kernel_rfl) (by kernel_rfl) yu5 yu6
    (fun l a h => by unfold yu6 at h; split at h <;> first | (cases h; rfl) | cases h) (fun a => rfl) (lpgood_none (by kernel_rfl))
    (fun o r h => by unfold yu8 at h; split at h <;> first | (cases h; rfl) | cases h) (yua k)
def yuc (k : Nat) : Orc := pureOrc [.one (.int .i64), .one (.int .i64), .one (.int .i64)] (yu9 k)
theorem yud (k : Nat) : OrcOk Try.prog 103 (yuc k) := pureOrc_ok (yub k)
noncomputable def yue (k : Nat) : Env := { P := Try.prog, tt := tt, orc := fun g => cond (Nat.beq g 103) (yuc k) (noOrc) }
theorem yuf (k : Nat) : EnvOk (yue k) := fun g => (orc_cond (yud k) (noOrc_ok _ _))
noncomputable def yug : Code := (Try.f99.body).getD .skip
def yuh (ρ : Type) (k : Nat) : Nat → Ev ρ → Ev ρ := fun _ _ _ _ => none
def yui (a : Int) : List Arg := [.one (.int .i64 a)]
def yuj (l : List Arg) : Option (Int) := match l with
  | [.one (.int .i64 b0)] => some b0
  | _ => none
def yuk (r : Int) : Out := (.r [] (.int .i64 r), [])
def yul (o : Out) : Option (Int) := match o with
  | (.r [] (.int .i64 z1), []) => some z1
  | _ => none
def yum (k : Nat) : PG := fun _ l K => (yuj l).bind fun a => (I_Sat8 k a).bind fun r => K (yuk r)
theorem yun (k : Nat) (a : Int) : ev (yue k) (yuh (Int) k) 0 yug (st0 Try.f99 (yui a)) (fin Try.prog Try.f99 (.sc) yul) = I_Sat8 k a := by kernel_rfl
theorem yuo (k : Nat) : PureOk Try.prog 99 (yum k) :=
  pureOk_of_ev (yuf k) Try.func99 (by kernel_rfl) (by kernel_rfl) yui yuj
    (fun l a h => by unfold yuj at h; split at h <;> first | (cases h; rfl) | cases h) (fun a => rfl) (lpgood_none (by kernel_rfl))
    (fun o r h => by unfold yul at h; split at h <;> first | (cases h; rfl) | cases h) (yun k)
def yup (k : Nat) : Orc := pureOrc [.one (.int .i64)] (yum k)
theorem yuq (k : Nat) : OrcOk Try.prog 99 (yup k) := pureOrc_ok (yuo k)
noncomputable def yur (k : Nat) : Env := { P := Try.prog, tt := tt, orc := fun g => cond (Nat.beq g 103) (yuc k) (noOrc) }
theorem yus (k : Nat) : EnvOk (yur k) := fun g => (orc_cond (yud k) (noOrc_ok _ _))
noncomputable def yut : Code := (Try.f102.body).getD .skip
def yuu (ρ : Type) (k : Nat) : Nat → Ev ρ → Ev ρ := fun _ _ _ _ => none
def yuv (a : Int) : List Arg := [.one (.int .i64 a)]
def yuw (l : List Arg) : Option (Int) := match l with
  | [.one (.int .i64 b0)] => some b0
  | _ => none
def yux (r : Int) : Out := (.r [] (.int .i64 r), [])
def yuy (o : Out) : Option (Int) := match o with
  | (.r [] (.int .i64 z1), []) => some z1
  | _ => none
def yuz (k : Nat) : PG := fun _ l K => (yuw l).bind fun a => (I_Sat32 k a).bind fun r => K (yux r)
theorem yv0 (k : Nat) (a : Int) : ev (yur k) (yuu (Int) k) 0 yut (st0 Try.f102 (yuv a)) (fin Try.prog Try.f102 (.sc) yuy) = I_Sat32 k a := by kernel_rfl
theorem yv1 (k : Nat) : PureOk Try.prog 102 (yuz k) :=
  pureOk_of_ev (yus k) Try.func102 (by kernel_rfl) (by kernel_rfl) yuv yuw
    (fun l a h => by unfold yuw at h; split at h <;> first | (cases h; rfl) | cases h) (fun a => rfl) (lpgood_none (by kernel_rfl))
    (fun o r h => by unfold yuy at h; split at h <;> first | (cases h; rfl) | cases h) (yv0 k)
def yv2 (k : Nat) : Orc := pureOrc [.one (.int .i64)] (yuz k)
theorem yv3 (k : Nat) : OrcOk Try.prog 102 (yv2 k) := pureOrc_ok (yv1 k)
noncomputable def yv4 (k : Nat) : Env := { P := Try.prog, tt := tt, orc := fun g => cond (Nat.beq g 102) (yv2 k) (noOrc) }
theorem yv5 (k : Nat) : EnvOk (yv4 k) := fun g => (orc_cond (yv3 k) (noOrc_ok _ _))
noncomputable def yv6 : Code := (Try.f96.body).getD .skip
def yv7 (ρ : Type) (k : Nat) : Nat → Ev ρ → Ev ρ := fun _ _ _ _ => none
def yv8 (a : Int × Int) : List Arg := [.one (.int .i64 a.1), .one (.int .i64 a.2)]
def yv9 (l : List Arg) : Option (Int × Int) := match l with
  | [.one (.int .i64 b0), .one (.int .i64 b1)] => some (b0, b1)
  | _ => none
def yva (r : Int) : Out := (.r [] (.int .i64 r), [])
def yvb (o : Out) : Option (Int) := match o with
  | (.r [] (.int .i64 z1), []) => some z1
  | _ => none
def yvc (k : Nat) : PG := fun _ l K => (yv9 l).bind fun a => (I_AddSat k a.1 a.2).bind fun r => K (yva r)
theorem yvd (k : Nat) (a : Int × Int) : ev (yv4 k) (yv7 (Int) k) 0 yv6 (st0 Try.f96 (yv8 a)) (fin Try.prog Try.f96 (.sc) yvb) = I_AddSat k a.1 a.2 := by kernel_rfl
theorem yve (k : Nat) : PureOk Try.prog 96 (yvc k) :=
  pureOk_of_ev (yv5 k) Try.func96 (by kernel_rfl) (by kernel_rfl) yv8 yv9
    (fun l a h => by unfold yv9 at h; split at h <;> first | (cases h; rfl) | cases h) (fun a => rfl) (lpgood_none (by kernel_rfl))
    (fun o r h => by unfold yvb at h; split at h <;> first | (cases h; rfl) | cases h) (yvd k)
def yvf (k : Nat) : Orc := pureOrc [.one (.int .i64), .one (.int .i64)] (yvc k)
theorem yvg (k : Nat) : OrcOk Try.prog 96 (yvf k) := pureOrc_ok (yve k)
noncomputable def yvh (k : Nat) : Env := { P := Try.prog, tt := tt, orc := fun g => cond (Nat.beq g 96) (yvf k) (cond (Nat.beq g 99) (yup k) (noOrc)) }
theorem yvi (k : Nat) : EnvOk (yvh k) := fun g => (orc_cond (yvg k) (orc_cond (yuq k) (noOrc_ok _ _)))
noncomputable def yvj : Code := (Try.f94.body).getD .skip
noncomputable def yvk : Code := ((loopsIn 0 yvj).getD 0 (0, .skip)).2
def yvl : List Nat := [0, 1, 5, 11, 12]
def yvm : List (Where × Co) := []
def yvn : Ex → List Nat
  | .exit j => cond (Nat.beq j 0) [5] []
  | .ret => []
  | .normal => []
def yvo : Ex → List (Where × Co)
  | .exit j => cond (Nat.beq j 0) [] []
  | .ret => []
  | .normal => []
def yvp (pv : (List Int × List Int × Int) × (Int × Int)) : St := { slots := [(0, .r [] (.sl (.int .i64) pv.1.1)), (1, .r [] (.sl (.int .i64) pv.1.2.1)), (5, .r [] (.int .i64 pv.2.1)), (11, .r [] (.int .i64 pv.1.2.2)), (12, .r [] (.int .i64 pv.2.2))], heap := [], nid := 0, n := 30, gh := [] }
def yvq (nf : NF) : Option ((List Int × List Int × Int) × (Int × Int)) := match nf with
  | ([.r [] (.sl (.int .i64) w0), .r [] (.sl (.int .i64) w1), .r [] (.int .i64 w2), .r [] (.int .i64 w3), .r [] (.int .i64 w4)], [], []) => some ((w0, w1, w3), (w2, w4))
  | _ => none
theorem yvr (nf : NF) (v : (List Int × List Int × Int) × (Int × Int)) (h : yvq nf = some v) : denorm yvl 30 nf = yvp v := by
  unfold yvq at h
  split at h
  · cases h; rfl
  · cases h
def yvs (p : List Int × List Int × Int) (x : Int) : St := { slots := [(5, .r [] (.int .i64 x))], heap := [], nid := 0, n := 30, gh := [] }
def yvt (ρ : Type) (k : Nat) : Nat → Ev ρ → Ev ρ := fun id f => cond (Nat.beq id 0) (loopOrc yvl yvm (fun n nf => cond (Nat.beq n 30) (yvq nf) none) fun pv K => iter (fun v next => I_DotOf_g0 k pv.1 v next (fun x => K (.exit 0) (yvs pv.1 x))) k pv.2) ((fun _ _ _ _ => none) id f)
theorem yvu {ρ : Type} (k : Nat) (p : List Int × List Int × Int) (v : Int × Int) (K K1 : Ex → St → Option ρ) : ev (yvh k) (yvt ρ k) 0 yvk (yvp (p, v)) (fun e st' => match e with
    | .normal => (normC yvl yvm st').bind fun nf => K1 .normal (denorm yvl st'.n nf)
    | e => (normC (yvn e) (yvo e) st').bind fun nf => K e (denorm (yvn e) st'.n nf)) = I_DotOf_g0 k p v (fun v' => K1 .normal (yvp (p, v'))) (fun x => K (.exit 0) (yvs p x)) := by kernel_rfl
theorem yvv {ρ : Type} (k : Nat) : Sound Try.prog (.loop yvk) (yvt ρ k 0 fun st K => ev (yvh k) (yvt ρ k) 0 yvk st K) :=
  loop_ok (ev_sound (yvi k) yvk 0 (lpgood_none (by kernel_rfl))) yvn yvo k (g := fun p v next K => I_DotOf_g0 k p v next (fun x => K (.exit 0) (yvs p x))) (dec_at yvr) (fun p v K K1 => yvu k p v K K1)
def yvw (a : List Int × List Int) : List Arg := [.one (.sl (.int .i64) a.1), .one (.sl (.int .i64) a.2)]
def yvx (l : List Arg) : Option (List Int × List Int) := match l with
  | [.one (.sl (.int .i64) b0), .one (.sl (.int .i64) b1)] => some (b0, b1)
  | _ => none
def yvy (r : Int) : Out := (.r [] (.int .i64 r), [])
def yvz (o : Out) : Option (Int) := match o with
  | (.r [] (.int .i64 z1), []) => some z1
  | _ => none
def yw0 (k : Nat) : PG := fun _ l K => (yvx l).bind fun a => (I_DotOf k a.1 a.2).bind fun r => K (yvy r)
theorem yw1 (k : Nat) (a : List Int × List Int) : ev (yvh k) (yvt (Int) k) 0 yvj (st0 Try.f94 (yvw a)) (fin Try.prog Try.f94 (.sc) yvz) = I_DotOf k a.1 a.2 := by kernel_rfl
theorem yw2 (k : Nat) : PureOk Try.prog 94 (yw0 k) :=
  pureOk_of_ev (yvi k) Try.func94 (by kernel_rfl) (by kernel_rfl) yvw yvx
    (fun l a h => by unfold yvx at h; split at h <;> first | (cases h; rfl) | cases h) (fun a => rfl) (lpgood_of (l := [(0, yvk)]) (by kernel_rfl) ⟨yvv k, trivial⟩)
    (fun o r h => by unfold yvz at h; split at h <;> first | (cases h; rfl) | cases h) (yw1 k)
def yw3 (k : Nat) : Orc := pureOrc [.one (.sl (.int .i64)), .one (.sl (.int .i64))] (yw0 k)
theorem yw4 (k : Nat) : OrcOk Try.prog 94 (yw3 k) := pureOrc_ok (yw2 k)
noncomputable def yw5 (k : Nat) : Env := { P := Try.prog, tt := tt, orc := fun g => cond (Nat.beq g 102) (yv2 k) (noOrc) }
theorem yw6 (k : Nat) : EnvOk (yw5 k) := fun g => (orc_cond (yv3 k) (noOrc_ok _ _))
noncomputable def yw7 : Code := (Try.f101.body).getD .skip
def yw8 (ρ : Type) (k : Nat) : Nat → Ev ρ → Ev ρ := fun _ _ _ _ => none
def yw9 (a : Int × Int) : List Arg := [.one (.int .i64 a.1), .one (.int .i64 a.2)]
def ywa (l : List Arg) : Option (Int × Int) := match l with
  | [.one (.int .i64 b0), .one (.int .i64 b1)] => some (b0, b1)
  | _ => none
def ywb (r : Int) : Out := (.r [] (.int .i64 r), [])
def ywc (o : Out) : Option (Int) := match o with
  | (.r [] (.int .i64 z1), []) => some z1
  | _ => none
def ywd (k : Nat) : PG := fun _ l K => (ywa l).bind fun a => (I_MulHigh k a.1 a.2).bind fun r => K (ywb r)
theorem ywe (k : Nat) (a : Int × Int) : ev (yw5 k) (yw8 (Int) k) 0 yw7 (st0 Try.f101 (yw9 a)) (fin Try.prog Try.f101 (.sc) ywc) = I_MulHigh k a.1 a.2 := by kernel_rfl
theorem ywf (k : Nat) : PureOk Try.prog 101 (ywd k) :=
  pureOk_of_ev (yw6 k) Try.func101 (by kernel_rfl) (by kernel_rfl) yw9 ywa
    (fun l a h => by unfold ywa at h; split at h <;> first | (cases h; rfl) | cases h) (fun a => rfl) (lpgood_none (by kernel_rfl))
    (fun o r h => by unfold ywc at h; split at h <;> first | (cases h; rfl) | cases h) (ywe k)
def ywg (k : Nat) : Orc := pureOrc [.one (.int .i64), .one (.int .i64)] (ywd k)
theorem ywh (k : Nat) : OrcOk Try.prog 101 (ywg k) := pureOrc_ok (ywf k)
noncomputable def ywi (k : Nat) : Env := { P := Try.prog, tt := tt, orc := fun g => noOrc }
theorem ywj (k : Nat) : EnvOk (ywi k) := fun g => (noOrc_ok _ _)
noncomputable def ywk : Code := (Try.f85.body).getD .skip
def ywl (ρ : Type) (k : Nat) : Nat → Ev ρ → Ev ρ := fun _ _ _ _ => none
def ywm (a : Int × Int) : List Arg := [.one (.int .i64 a.1), .one (.int .i64 a.2)]
def ywn (l : List Arg) : Option (Int × Int) := match l with
  | [.one (.int .i64 b0), .one (.int .i64 b1)] => some (b0, b1)
  | _ => none
def ywo (r : Int) : Out := (.r [] (.int .i64 r), [])
def ywp (o : Out) : Option (Int) := match o with
  | (.r [] (.int .i64 z1), []) => some z1
  | _ => none
def ywq (k : Nat) : PG := fun _ l K => (ywn l).bind fun a => (I_rounded__r0 k a.1 a.2).bind fun r => K (ywo r)
theorem ywr (k : Nat) (a : Int × Int) : ev (ywi k) (ywl (Int) k) 0 ywk (st0 Try.f85 (ywm a)) (fin Try.prog Try.f85 (.sc) ywp) = I_rounded__r0 k a.1 a.2 := by kernel_rfl
theorem yws (k : Nat) : PureOk Try.prog 85 (ywq k) :=
  pureOk_of_ev (ywj k) Try.func85 (by kernel_rfl) (by kernel_rfl) ywm ywn
    (fun l a h => by unfold ywn at h; split at h <;> first | (cases h; rfl) | cases h) (fun a => rfl) (lpgood_none (by kernel_rfl))
    (fun o r h => by unfold ywp at h; split at h <;> first | (cases h; rfl) | cases h) (ywr k)
def ywt (k : Nat) : Orc := pureOrc [.one (.int .i64), .one (.int .i64)] (ywq k)
theorem ywu (k : Nat) : OrcOk Try.prog 85 (ywt k) := pureOrc_ok (yws k)
noncomputable def ywv (k : Nat) : Env := { P := Try.prog, tt := tt, orc := fun g => cond (Nat.beq g 85) (ywt k) (noOrc) }
theorem yww (k : Nat) : EnvOk (ywv k) := fun g => (orc_cond (ywu k) (noOrc_ok _ _))
noncomputable def ywx : Code := (Try.f85.body).getD .skip
def ywy (ρ : Type) (k : Nat) : Nat → Ev ρ → Ev ρ := fun _ _ _ _ => none
def ywz (a : Int × Int) : List Arg := [.one (.int .i64 a.1), .one (.int .i64 a.2)]
def yx0 (l : List Arg) : Option (Int × Int) := match l with
  | [.one (.int .i64 b0), .one (.int .i64 b1)] => some (b0, b1)
  | _ => none
def yx1 (r : Int) : Out := (.r [] (.int .i64 r), [])
def yx2 (o : Out) : Option (Int) := match o with
  | (.r [] (.int .i64 z1), []) => some z1
  | _ => none
def yx3 (k : Nat) : PG := fun _ l K => (yx0 l).bind fun a => (I_rounded k a.1 a.2).bind fun r => K (yx1 r)
theorem yx4 (k : Nat) (a : Int × Int) : ev (ywv k) (ywy (Int) k) 0 ywx (st0 Try.f85 (ywz a)) (fin Try.prog Try.f85 (.sc) yx2) = I_rounded k a.1 a.2 := by kernel_rfl
theorem yx5 (k : Nat) : PureOk Try.prog 85 (yx3 k) :=
  pureOk_of_ev (yww k) Try.func85 (by kernel_rfl) (by kernel_rfl) ywz yx0
    (fun l a h => by unfold yx0 at h; split at h <;> first | (cases h; rfl) | cases h) (fun a => rfl) (lpgood_none (by kernel_rfl))
    (fun o r h => by unfold yx2 at h; split at h <;> first | (cases h; rfl) | cases h) (yx4 k)
def yx6 (k : Nat) : Orc := pureOrc [.one (.int .i64), .one (.int .i64)] (yx3 k)
theorem yx7 (k : Nat) : OrcOk Try.prog 85 (yx6 k) := pureOrc_ok (yx5 k)
noncomputable def yx8 (k : Nat) : Env := { P := Try.prog, tt := tt, orc := fun g => cond (Nat.beq g 85) (yx6 k) (cond (Nat.beq g 102) (yv2 k) (cond (Nat.beq g 103) (yuc k) (noOrc))) }
theorem yx9 (k : Nat) : EnvOk (yx8 k) := fun g => (orc_cond (yx7 k) (orc_cond (yv3 k) (orc_cond (yud k) (noOrc_ok _ _))))
noncomputable def yxa : Code := (Try.f100.body).getD .skip
def yxb (ρ : Type) (k : Nat) : Nat → Ev ρ → Ev ρ := fun _ _ _ _ => none
def yxc (a : Int × Int) : List Arg := [.one (.int .i64 a.1), .one (.int .i64 a.2)]
def yxd (l : List Arg) : Option (Int × Int) := match l with
  | [.one (.int .i64 b0), .one (.int .i64 b1)] => some (b0, b1)
  | _ => none
def yxe (r : Int) : Out := (.r [] (.int .i64 r), [])
def yxf (o : Out) : Option (Int) := match o with
  | (.r [] (.int .i64 z1), []) => some z1
  | _ => none
def yxg (k : Nat) : PG := fun _ l K => (yxd l).bind fun a => (I_RoundShift k a.1 a.2).bind fun r => K (yxe r)
theorem yxh (k : Nat) (a : Int × Int) : ev (yx8 k) (yxb (Int) k) 0 yxa (st0 Try.f100 (yxc a)) (fin Try.prog Try.f100 (.sc) yxf) = I_RoundShift k a.1 a.2 := by kernel_rfl
theorem yxi (k : Nat) : PureOk Try.prog 100 (yxg k) :=
  pureOk_of_ev (yx9 k) Try.func100 (by kernel_rfl) (by kernel_rfl) yxc yxd
    (fun l a h => by unfold yxd at h; split at h <;> first | (cases h; rfl) | cases h) (fun a => rfl) (lpgood_none (by kernel_rfl))
    (fun o r h => by unfold yxf at h; split at h <;> first | (cases h; rfl) | cases h) (yxh k)
def yxj (k : Nat) : Orc := pureOrc [.one (.int .i64), .one (.int .i64)] (yxg k)
theorem yxk (k : Nat) : OrcOk Try.prog 100 (yxj k) := pureOrc_ok (yxi k)
noncomputable def yxl (k : Nat) : Env := { P := Try.prog, tt := tt, orc := fun g => cond (Nat.beq g 99) (yup k) (cond (Nat.beq g 100) (yxj k) (cond (Nat.beq g 101) (ywg k) (noOrc))) }
theorem yxm (k : Nat) : EnvOk (yxl k) := fun g => (orc_cond (yuq k) (orc_cond (yxk k) (orc_cond (ywh k) (noOrc_ok _ _))))
noncomputable def yxn : Code := (Try.f95.body).getD .skip
def yxo (ρ : Type) (k : Nat) : Nat → Ev ρ → Ev ρ := fun _ _ _ _ => none
def yxp (a : Int × Int × Int × Int) : List Arg := [.one (.int .i64 a.1), .one (.int .i64 a.2.1), .one (.int .i64 a.2.2.1), .one (.int .i64 a.2.2.2)]
def yxq (l : List Arg) : Option (Int × Int × Int × Int) := match l with
  | [.one (.int .i64 b0), .one (.int .i64 b1), .one (.int .i64 b2), .one (.int .i64 b3)] => some (b0, b1, b2, b3)
  | _ => none
def yxr (r : Int) : Out := (.r [] (.int .i64 r), [])
def yxs (o : Out) : Option (Int) := match o with
  | (.r [] (.int .i64 z1), []) => some z1
  | _ => none
def yxt (k : Nat) : PG := fun _ l K => (yxq l).bind fun a => (I_Requant k a.1 a.2.1 a.2.2.1 a.2.2.2).bind fun r => K (yxr r)
theorem yxu (k : Nat) (a : Int × Int × Int × Int) : ev (yxl k) (yxo (Int) k) 0 yxn (st0 Try.f95 (yxp a)) (fin Try.prog Try.f95 (.sc) yxs) = I_Requant k a.1 a.2.1 a.2.2.1 a.2.2.2 := by kernel_rfl
theorem yxv (k : Nat) : PureOk Try.prog 95 (yxt k) :=
  pureOk_of_ev (yxm k) Try.func95 (by kernel_rfl) (by kernel_rfl) yxp yxq
    (fun l a h => by unfold yxq at h; split at h <;> first | (cases h; rfl) | cases h) (fun a => rfl) (lpgood_none (by kernel_rfl))
    (fun o r h => by unfold yxs at h; split at h <;> first | (cases h; rfl) | cases h) (yxu k)
def yxw (k : Nat) : Orc := pureOrc [.one (.int .i64), .one (.int .i64), .one (.int .i64), .one (.int .i64)] (yxt k)
theorem yxx (k : Nat) : OrcOk Try.prog 95 (yxw k) := pureOrc_ok (yxv k)
noncomputable def yxy (k : Nat) : Env := { P := Try.prog, tt := tt, orc := fun g => cond (Nat.beq g 94) (yw3 k) (cond (Nat.beq g 95) (yxw k) (cond (Nat.beq g 96) (yvf k) (noOrc))) }
theorem yxz (k : Nat) : EnvOk (yxy k) := fun g => (orc_cond (yw4 k) (orc_cond (yxx k) (orc_cond (yvg k) (noOrc_ok _ _))))
noncomputable def yy0 : Code := (Try.f82.body).getD .skip
def yy1 (ρ : Type) (k : Nat) : Nat → Ev ρ → Ev ρ := fun _ _ _ _ => none
def yy2 (a : Layer × List Int × Int) : List Arg := [.agg [.int .i64 a.1.kind, .int .i64 a.1.out, .int .i64 a.1.size, .int .i64 a.1.step, .int .i64 a.1.mult, .int .i64 a.1.shift, .int .i64 a.1.zero, .sl (.int .i64) a.1.weights, .sl (.int .i64) a.1.bias], .one (.sl (.int .i64) a.2.1), .one (.int .i64 a.2.2)]
def yy3 (l : List Arg) : Option (Layer × List Int × Int) := match l with
  | [.agg [.int .i64 b0_0, .int .i64 b0_1, .int .i64 b0_2, .int .i64 b0_3, .int .i64 b0_4, .int .i64 b0_5, .int .i64 b0_6, .sl (.int .i64) b0_7, .sl (.int .i64) b0_8], .one (.sl (.int .i64) b1), .one (.int .i64 b2)] => some ((⟨b0_0, b0_1, b0_2, b0_3, b0_4, b0_5, b0_6, b0_7, b0_8⟩ : Layer), b1, b2)
  | _ => none
def yy4 (r : Int) : Out := (.r [] (.int .i64 r), [])
def yy5 (o : Out) : Option (Int) := match o with
  | (.r [] (.int .i64 z1), []) => some z1
  | _ => none
def yy6 (k : Nat) : PG := fun _ l K => (yy3 l).bind fun a => (I_Layer_scaled k a.1 a.2.1 a.2.2).bind fun r => K (yy4 r)
theorem yy7 (k : Nat) (a : Layer × List Int × Int) : ev (yxy k) (yy1 (Int) k) 0 yy0 (st0 Try.f82 (yy2 a)) (fin Try.prog Try.f82 (.sc) yy5) = I_Layer_scaled k a.1 a.2.1 a.2.2 := by kernel_rfl
theorem yy8 (k : Nat) : PureOk Try.prog 82 (yy6 k) :=
  pureOk_of_ev (yxz k) Try.func82 (by kernel_rfl) (by kernel_rfl) yy2 yy3
    (fun l a h => by unfold yy3 at h; split at h <;> first | (cases h; rfl) | cases h) (fun a => rfl) (lpgood_none (by kernel_rfl))
    (fun o r h => by unfold yy5 at h; split at h <;> first | (cases h; rfl) | cases h) (yy7 k)
def yy9 (k : Nat) : Orc := pureOrc [.agg [(.int .i64), (.int .i64), (.int .i64), (.int .i64), (.int .i64), (.int .i64), (.int .i64), (.sl (.int .i64)), (.sl (.int .i64))], .one (.sl (.int .i64)), .one (.int .i64)] (yy6 k)
theorem yya (k : Nat) : OrcOk Try.prog 82 (yy9 k) := pureOrc_ok (yy8 k)
noncomputable def yyb (k : Nat) : Env := { P := Try.prog, tt := tt, orc := fun g => noOrc }
theorem yyc (k : Nat) : EnvOk (yyb k) := fun g => (noOrc_ok _ _)
noncomputable def yyd : Code := (Try.f86.body).getD .skip
def yye (ρ : Type) (k : Nat) : Nat → Ev ρ → Ev ρ := fun _ _ _ _ => none
def yyf (a : Shape × Int × Int × Int) : List Arg := [.agg [.int .i64 a.1.h, .int .i64 a.1.w, .int .i64 a.1.c], .one (.int .i64 a.2.1), .one (.int .i64 a.2.2.1), .one (.int .i64 a.2.2.2)]
def yyg (l : List Arg) : Option (Shape × Int × Int × Int) := match l with
  | [.agg [.int .i64 b0_0, .int .i64 b0_1, .int .i64 b0_2], .one (.int .i64 b1), .one (.int .i64 b2), .one (.int .i64 b3)] => some ((⟨b0_0, b0_1, b0_2⟩ : Shape), b1, b2, b3)
  | _ => none
def yyh (r : Int) : Out := (.r [] (.int .i64 r), [])
def yyi (o : Out) : Option (Int) := match o with
  | (.r [] (.int .i64 z1), []) => some z1
  | _ => none
def yyj (k : Nat) : PG := fun _ l K => (yyg l).bind fun a => (I_Shape_place k a.1 a.2.1 a.2.2.1 a.2.2.2).bind fun r => K (yyh r)
theorem yyk (k : Nat) (a : Shape × Int × Int × Int) : ev (yyb k) (yye (Int) k) 0 yyd (st0 Try.f86 (yyf a)) (fin Try.prog Try.f86 (.sc) yyi) = I_Shape_place k a.1 a.2.1 a.2.2.1 a.2.2.2 := by kernel_rfl
theorem yyl (k : Nat) : PureOk Try.prog 86 (yyj k) :=
  pureOk_of_ev (yyc k) Try.func86 (by kernel_rfl) (by kernel_rfl) yyf yyg
    (fun l a h => by unfold yyg at h; split at h <;> first | (cases h; rfl) | cases h) (fun a => rfl) (lpgood_none (by kernel_rfl))
    (fun o r h => by unfold yyi at h; split at h <;> first | (cases h; rfl) | cases h) (yyk k)
def yym (k : Nat) : Orc := pureOrc [.agg [(.int .i64), (.int .i64), (.int .i64)], .one (.int .i64), .one (.int .i64), .one (.int .i64)] (yyj k)
theorem yyn (k : Nat) : OrcOk Try.prog 86 (yym k) := pureOrc_ok (yyl k)
noncomputable def yyo (k : Nat) : Env := { P := Try.prog, tt := tt, orc := fun g => cond (Nat.beq g 86) (yym k) (noOrc) }
theorem yyp (k : Nat) : EnvOk (yyo k) := fun g => (orc_cond (yyn k) (noOrc_ok _ _))
noncomputable def yyq : Code := (Try.f83.body).getD .skip
noncomputable def yyr : Code := ((loopsIn 0 yyq).getD 0 (0, .skip)).2
noncomputable def yys : Code := ((loopsIn 0 yyr).getD 0 (0, .skip)).2
def yyt : List Nat := [2, 3, 4, 5, 6, 11, 12, 17, 18, 22, 23]
def yyu : List (Where × Co) := []
def yyv : Ex → List Nat
  | .exit j => cond (Nat.beq j 2) [2, 3, 4, 5, 6, 11, 17, 18] []
  | .ret => []
  | .normal => []
def yyw : Ex → List (Where × Co)
  | .exit j => cond (Nat.beq j 2) [] []
  | .ret => []
  | .normal => []
def yyx (pv : (Int × Int × Int × Int × Int × Int × Int × Int × Int × Int × Int × Int × Int × Int × List Int × List Int × Int × Int × Int × List Int) × (Int × List Int)) : St := { slots := [(2, .r [] (.int .i64 pv.1.1)), (3, .r [] (.int .i64 pv.1.2.1)), (4, .r [] (.int .i64 pv.1.2.2.1)), (5, .ptr 0 0 0), (6, .ptr 1 0 0), (11, .own 2), (12, .r [] (.int .i64 pv.1.2.2.2.1)), (17, .r [] (.int .i64 pv.1.2.2.2.2.1)), (18, .r [] (.int .i64 pv.1.2.2.2.2.2.1)), (22, .r [] (.int .i64 pv.1.2.2.2.2.2.2.1)), (23, .r [] (.int .i64 pv.2.1))], heap := [(0, .box [.r [] (.int .i64 pv.1.2.2.2.2.2.2.2.1), .r [] (.int .i64 pv.1.2.2.2.2.2.2.2.2.1), .r [] (.int .i64 pv.1.2.2.2.2.2.2.2.2.2.1), .r [] (.int .i64 pv.1.2.2.2.2.2.2.2.2.2.2.1), .r [] (.int .i64 pv.1.2.2.2.2.2.2.2.2.2.2.2.1), .r [] (.int .i64 pv.1.2.2.2.2.2.2.2.2.2.2.2.2.1), .r [] (.int .i64 pv.1.2.2.2.2.2.2.2.2.2.2.2.2.2.1), .r [] (.sl (.int .i64) pv.1.2.2.2.2.2.2.2.2.2.2.2.2.2.2.1), .r [] (.sl (.int .i64) pv.1.2.2.2.2.2.2.2.2.2.2.2.2.2.2.2.1)]), (1, .box [.r [] (.int .i64 pv.1.2.2.2.2.2.2.2.2.2.2.2.2.2.2.2.2.1), .r [] (.int .i64 pv.1.2.2.2.2.2.2.2.2.2.2.2.2.2.2.2.2.2.1), .r [] (.int .i64 pv.1.2.2.2.2.2.2.2.2.2.2.2.2.2.2.2.2.2.2.1), .r [] (.sl (.int .i64) pv.1.2.2.2.2.2.2.2.2.2.2.2.2.2.2.2.2.2.2.2)]), (2, .arr none (.int .i64) pv.2.2)], nid := 3, n := 67, gh := [] }
def yyy (nf : NF) : Option ((Int × Int × Int × Int × Int × Int × Int × Int × Int × Int × Int × Int × Int × Int × List Int × List Int × Int × Int × Int × List Int) × (Int × List Int)) := match nf with
  | ([.r [] (.int .i64 w0), .r [] (.int .i64 w1), .r [] (.int .i64 w2), .ptr 0 0 0, .ptr 1 0 0, .own 2, .r [] (.int .i64 w3), .r [] (.int .i64 w4), .r [] (.int .i64 w5), .r [] (.int .i64 w6), .r [] (.int .i64 w7)], [.box [.r [] (.int .i64 w8), .r [] (.int .i64 w9), .r [] (.int .i64 w10), .r [] (.int .i64 w11), .r [] (.int .i64 w12), .r [] (.int .i64 w13), .r [] (.int .i64 w14), .r [] (.sl (.int .i64) w15), .r [] (.sl (.int .i64) w16)], .box [.r [] (.int .i64 w17), .r [] (.int .i64 w18), .r [] (.int .i64 w19), .r [] (.sl (.int .i64) w20)], .arr none (.int .i64) w21], []) => some ((w0, w1, w2, w3, w4, w5, w6, w8, w9, w10, w11, w12, w13, w14, w15, w16, w17, w18, w19, w20), (w7, w21))
  | _ => none
theorem yyz (nf : NF) (v : (Int × Int × Int × Int × Int × Int × Int × Int × Int × Int × Int × Int × Int × Int × List Int × List Int × Int × Int × Int × List Int) × (Int × List Int)) (h : yyy nf = some v) : denorm yyt 67 nf = yyx v := by
  unfold yyy at h
  split at h
  · cases h; rfl
  · cases h
def yz0 (p : Int × Int × Int × Int × Int × Int × Int × Int × Int × Int × Int × Int × Int × Int × List Int × List Int × Int × Int × Int × List Int) (x : List Int) : St := { slots := [(2, .r [] (.int .i64 p.1)), (3, .r [] (.int .i64 p.2.1)), (4, .r [] (.int .i64 p.2.2.1)), (5, .ptr 0 0 0), (6, .ptr 1 0 0), (11, .own 2), (17, .r [] (.int .i64 p.2.2.2.2.1)), (18, .r [] (.int .i64 p.2.2.2.2.2.1))], heap := [(0, .box [.r [] (.int .i64 p.2.2.2.2.2.2.2.1), .r [] (.int .i64 p.2.2.2.2.2.2.2.2.1), .r [] (.int .i64 p.2.2.2.2.2.2.2.2.2.1), .r [] (.int .i64 p.2.2.2.2.2.2.2.2.2.2.1), .r [] (.int .i64 p.2.2.2.2.2.2.2.2.2.2.2.1), .r [] (.int .i64 p.2.2.2.2.2.2.2.2.2.2.2.2.1), .r [] (.int .i64 p.2.2.2.2.2.2.2.2.2.2.2.2.2.1), .r [] (.sl (.int .i64) p.2.2.2.2.2.2.2.2.2.2.2.2.2.2.1), .r [] (.sl (.int .i64) p.2.2.2.2.2.2.2.2.2.2.2.2.2.2.2.1)]), (1, .box [.r [] (.int .i64 p.2.2.2.2.2.2.2.2.2.2.2.2.2.2.2.2.1), .r [] (.int .i64 p.2.2.2.2.2.2.2.2.2.2.2.2.2.2.2.2.2.1), .r [] (.int .i64 p.2.2.2.2.2.2.2.2.2.2.2.2.2.2.2.2.2.2.1), .r [] (.sl (.int .i64) p.2.2.2.2.2.2.2.2.2.2.2.2.2.2.2.2.2.2.2)]), (2, .arr none (.int .i64) x)], nid := 3, n := 67, gh := [] }
def yz1 : List Nat := [2, 3, 4, 5, 6, 11, 17, 18]
def yz2 : List (Where × Co) := []
def yz3 : Ex → List Nat
  | .exit j => cond (Nat.beq j 0) [11] []
  | .ret => []
  | .normal => []
def yz4 : Ex → List (Where × Co)
  | .exit j => cond (Nat.beq j 0) [] []
  | .ret => []
  | .normal => []
def yz5 (pv : (Int × Int × Int × Int × Int × Int × Int × Int × Int × Int × Int × List Int × List Int × Int × Int × Int × List Int) × (Int × List Int)) : St := { slots := [(2, .r [] (.int .i64 pv.1.1)), (3, .r [] (.int .i64 pv.1.2.1)), (4, .r [] (.int .i64 pv.1.2.2.1)), (5, .ptr 0 0 0), (6, .ptr 1 0 0), (11, .own 2), (17, .r [] (.int .i64 pv.1.2.2.2.1)), (18, .r [] (.int .i64 pv.2.1))], heap := [(0, .box [.r [] (.int .i64 pv.1.2.2.2.2.1), .r [] (.int .i64 pv.1.2.2.2.2.2.1), .r [] (.int .i64 pv.1.2.2.2.2.2.2.1), .r [] (.int .i64 pv.1.2.2.2.2.2.2.2.1), .r [] (.int .i64 pv.1.2.2.2.2.2.2.2.2.1), .r [] (.int .i64 pv.1.2.2.2.2.2.2.2.2.2.1), .r [] (.int .i64 pv.1.2.2.2.2.2.2.2.2.2.2.1), .r [] (.sl (.int .i64) pv.1.2.2.2.2.2.2.2.2.2.2.2.1), .r [] (.sl (.int .i64) pv.1.2.2.2.2.2.2.2.2.2.2.2.2.1)]), (1, .box [.r [] (.int .i64 pv.1.2.2.2.2.2.2.2.2.2.2.2.2.2.1), .r [] (.int .i64 pv.1.2.2.2.2.2.2.2.2.2.2.2.2.2.2.1), .r [] (.int .i64 pv.1.2.2.2.2.2.2.2.2.2.2.2.2.2.2.2.1), .r [] (.sl (.int .i64) pv.1.2.2.2.2.2.2.2.2.2.2.2.2.2.2.2.2)]), (2, .arr none (.int .i64) pv.2.2)], nid := 3, n := 67, gh := [] }
def yz6 (nf : NF) : Option ((Int × Int × Int × Int × Int × Int × Int × Int × Int × Int × Int × List Int × List Int × Int × Int × Int × List Int) × (Int × List Int)) := match nf with
  | ([.r [] (.int .i64 w0), .r [] (.int .i64 w1), .r [] (.int .i64 w2), .ptr 0 0 0, .ptr 1 0 0, .own 2, .r [] (.int .i64 w3), .r [] (.int .i64 w4)], [.box [.r [] (.int .i64 w5), .r [] (.int .i64 w6), .r [] (.int .i64 w7), .r [] (.int .i64 w8), .r [] (.int .i64 w9), .r [] (.int .i64 w10), .r [] (.int .i64 w11), .r [] (.sl (.int .i64) w12), .r [] (.sl (.int .i64) w13)], .box [.r [] (.int .i64 w14), .r [] (.int .i64 w15), .r [] (.int .i64 w16), .r [] (.sl (.int .i64) w17)], .arr none (.int .i64) w18], []) => some ((w0, w1, w2, w3, w5, w6, w7, w8, w9, w10, w11, w12, w13, w14, w15, w16, w17), (w4, w18))
  | _ => none
theorem yz7 (nf : NF) (v : (Int × Int × Int × Int × Int × Int × Int × Int × Int × Int × Int × List Int × List Int × Int × Int × Int × List Int) × (Int × List Int)) (h : yz6 nf = some v) : denorm yz1 67 nf = yz5 v := by
  unfold yz6 at h
  split at h
  · cases h; rfl
  · cases h
def yz8 (p : Int × Int × Int × Int × Int × Int × Int × Int × Int × Int × Int × List Int × List Int × Int × Int × Int × List Int) (x : List Int) : St := { slots := [(11, .own 0)], heap := [(0, .arr none (.int .i64) x)], nid := 1, n := 67, gh := [] }
def yz9 (ρ : Type) (k : Nat) : Nat → Ev ρ → Ev ρ := fun id f => cond (Nat.beq id 0) (loopOrc yz1 yz2 (fun n nf => cond (Nat.beq n 67) (yz6 nf) none) fun pv K => iter (fun v next => I_Layer_window_g0 k pv.1 v next (fun x => K (.exit 0) (yz8 pv.1 x))) k pv.2) ((fun id f => cond (Nat.beq id 2) (loopOrc yyt yyu (fun n nf => cond (Nat.beq n 67) (yyy nf) none) fun pv K => iter (fun v next => I_Layer_window_g1 k pv.1 v next (fun x => K (.exit 2) (yz0 pv.1 x))) k pv.2) ((fun _ _ _ _ => none) id f)) id f)
theorem yza {ρ : Type} (k : Nat) (p : Int × Int × Int × Int × Int × Int × Int × Int × Int × Int × Int × Int × Int × Int × List Int × List Int × Int × Int × Int × List Int) (v : Int × List Int) (K K1 : Ex → St → Option ρ) : ev (yyo k) (yz9 ρ k) 2 yys (yyx (p, v)) (fun e st' => match e with
    | .normal => (normC yyt yyu st').bind fun nf => K1 .normal (denorm yyt st'.n nf)
    | e => (normC (yyv e) (yyw e) st').bind fun nf => K e (denorm (yyv e) st'.n nf)) = I_Layer_window_g1 k p v (fun v' => K1 .normal (yyx (p, v'))) (fun x => K (.exit 2) (yz0 p x)) := by kernel_rfl
theorem yzb {ρ : Type} (k : Nat) : Sound Try.prog (.loop yys) (yz9 ρ k 2 fun st K => ev (yyo k) (yz9 ρ k) 2 yys st K) :=
  loop_ok (ev_sound (yyp k) yys 2 (lpgood_none (by kernel_rfl))) yyv yyw k (g := fun p v next K => I_Layer_window_g1 k p v next (fun x => K (.exit 2) (yz0 p x))) (dec_at yyz) (fun p v K K1 => yza k p v K K1)
theorem yzc {ρ : Type} (k : Nat) (p : Int × Int × Int × Int × Int × Int × Int × Int × Int × Int × Int × List Int × List Int × Int × Int × Int × List Int) (v : Int × List Int) (K K1 : Ex → St → Option ρ) : ev (yyo k) (yz9 ρ k) 0 yyr (yz5 (p, v)) (fun e st' => match e with
    | .normal => (normC yz1 yz2 st').bind fun nf => K1 .normal (denorm yz1 st'.n nf)
    | e => (normC (yz3 e) (yz4 e) st').bind fun nf => K e (denorm (yz3 e) st'.n nf)) = I_Layer_window_g0 k p v (fun v' => K1 .normal (yz5 (p, v'))) (fun x => K (.exit 0) (yz8 p x)) := by kernel_rfl
theorem yzd {ρ : Type} (k : Nat) : Sound Try.prog (.loop yyr) (yz9 ρ k 0 fun st K => ev (yyo k) (yz9 ρ k) 0 yyr st K) :=
  loop_ok (ev_sound (yyp k) yyr 0 (lpgood_of (l := [(2, yys)]) (by kernel_rfl) ⟨yzb k, trivial⟩)) yz3 yz4 k (g := fun p v next K => I_Layer_window_g0 k p v next (fun x => K (.exit 0) (yz8 p x))) (dec_at yz7) (fun p v K K1 => yzc k p v K K1)
def yze (a : Layer × Tensor × Int × Int × Int) : List Arg := [.agg [.int .i64 a.1.kind, .int .i64 a.1.out, .int .i64 a.1.size, .int .i64 a.1.step, .int .i64 a.1.mult, .int .i64 a.1.shift, .int .i64 a.1.zero, .sl (.int .i64) a.1.weights, .sl (.int .i64) a.1.bias], .agg [.int .i64 a.2.1.sh.h, .int .i64 a.2.1.sh.w, .int .i64 a.2.1.sh.c, .sl (.int .i64) a.2.1.data], .one (.int .i64 a.2.2.1), .one (.int .i64 a.2.2.2.1), .one (.int .i64 a.2.2.2.2)]
def yzf (l : List Arg) : Option (Layer × Tensor × Int × Int × Int) := match l with
  | [.agg [.int .i64 b0_0, .int .i64 b0_1, .int .i64 b0_2, .int .i64 b0_3, .int .i64 b0_4, .int .i64 b0_5, .int .i64 b0_6, .sl (.int .i64) b0_7, .sl (.int .i64) b0_8], .agg [.int .i64 b1_0, .int .i64 b1_1, .int .i64 b1_2, .sl (.int .i64) b1_3], .one (.int .i64 b2), .one (.int .i64 b3), .one (.int .i64 b4)] => some ((⟨b0_0, b0_1, b0_2, b0_3, b0_4, b0_5, b0_6, b0_7, b0_8⟩ : Layer), (⟨(⟨b1_0, b1_1, b1_2⟩ : Shape), b1_3⟩ : Tensor), b2, b3, b4)
  | _ => none
def yzg (r : List Int) : Out := (.own 0, [.arr none (.int .i64) r])
def yzh (o : Out) : Option (List Int) := match o with
  | (.own 0, [.arr none (.int .i64) z1]) => some z1
  | _ => none
def yzi (k : Nat) : PG := fun _ l K => (yzf l).bind fun a => (I_Layer_window k a.1 a.2.1 a.2.2.1 a.2.2.2.1 a.2.2.2.2).bind fun r => K (yzg r)
theorem yzj (k : Nat) (a : Layer × Tensor × Int × Int × Int) : ev (yyo k) (yz9 (List Int) k) 0 yyq (st0 Try.f83 (yze a)) (fin Try.prog Try.f83 (.own (.int .i64)) yzh) = I_Layer_window k a.1 a.2.1 a.2.2.1 a.2.2.2.1 a.2.2.2.2 := by kernel_rfl
theorem yzk (k : Nat) : PureOk Try.prog 83 (yzi k) :=
  pureOk_of_ev (yyp k) Try.func83 (by kernel_rfl) (by kernel_rfl) yze yzf
    (fun l a h => by unfold yzf at h; split at h <;> first | (cases h; rfl) | cases h) (fun a => rfl) (lpgood_of (l := [(0, yyr)]) (by kernel_rfl) ⟨yzd k, trivial⟩)
    (fun o r h => by unfold yzh at h; split at h <;> first | (cases h; rfl) | cases h) (yzj k)
def yzl (k : Nat) : Orc := pureOrc [.agg [(.int .i64), (.int .i64), (.int .i64), (.int .i64), (.int .i64), (.int .i64), (.int .i64), (.sl (.int .i64)), (.sl (.int .i64))], .agg [(.int .i64), (.int .i64), (.int .i64), (.sl (.int .i64))], .one (.int .i64), .one (.int .i64), .one (.int .i64)] (yzi k)
theorem yzm (k : Nat) : OrcOk Try.prog 83 (yzl k) := pureOrc_ok (yzk k)
noncomputable def yzn (k : Nat) : Env := { P := Try.prog, tt := tt, orc := fun g => noOrc }
theorem yzo (k : Nat) : EnvOk (yzn k) := fun g => (noOrc_ok _ _)
noncomputable def yzp : Code := (Try.f84.body).getD .skip
noncomputable def yzq : Code := ((loopsIn 0 yzp).getD 0 (0, .skip)).2
def yzr : List Nat := [0, 3, 4]
def yzs : List (Where × Co) := []
def yzt : Ex → List Nat
  | .exit j => cond (Nat.beq j 0) [3] []
  | .ret => []
  | .normal => []
def yzu : Ex → List (Where × Co)
  | .exit j => cond (Nat.beq j 0) [] []
  | .ret => []
  | .normal => []
def yzv (pv : (List Int) × (Int × Int)) : St := { slots := [(0, .r [] (.sl (.int .i64) pv.1)), (3, .r [] (.int .i64 pv.2.1)), (4, .r [] (.int .i64 pv.2.2))], heap := [], nid := 0, n := 25, gh := [] }
def yzw (nf : NF) : Option ((List Int) × (Int × Int)) := match nf with
  | ([.r [] (.sl (.int .i64) w0), .r [] (.int .i64 w1), .r [] (.int .i64 w2)], [], []) => some (w0, (w1, w2))
  | _ => none
theorem yzx (nf : NF) (v : (List Int) × (Int × Int)) (h : yzw nf = some v) : denorm yzr 25 nf = yzv v := by
  unfold yzw at h
  split at h
  · cases h; rfl
  · cases h
def yzy (p : List Int) (x : Int) : St := { slots := [(3, .r [] (.int .i64 x))], heap := [], nid := 0, n := 25, gh := [] }
def yzz (ρ : Type) (k : Nat) : Nat → Ev ρ → Ev ρ := fun id f => cond (Nat.beq id 0) (loopOrc yzr yzs (fun n nf => cond (Nat.beq n 25) (yzw nf) none) fun pv K => iter (fun v next => slices_Max_lint_int_g0 k pv.1 v next (fun x => K (.exit 0) (yzy pv.1 x))) k pv.2) ((fun _ _ _ _ => none) id f)
theorem y100 {ρ : Type} (k : Nat) (p : List Int) (v : Int × Int) (K K1 : Ex → St → Option ρ) : ev (yzn k) (yzz ρ k) 0 yzq (yzv (p, v)) (fun e st' => match e with
    | .normal => (normC yzr yzs st').bind fun nf => K1 .normal (denorm yzr st'.n nf)
    | e => (normC (yzt e) (yzu e) st').bind fun nf => K e (denorm (yzt e) st'.n nf)) = slices_Max_lint_int_g0 k p v (fun v' => K1 .normal (yzv (p, v'))) (fun x => K (.exit 0) (yzy p x)) := by kernel_rfl
theorem y101 {ρ : Type} (k : Nat) : Sound Try.prog (.loop yzq) (yzz ρ k 0 fun st K => ev (yzn k) (yzz ρ k) 0 yzq st K) :=
  loop_ok (ev_sound (yzo k) yzq 0 (lpgood_none (by kernel_rfl))) yzt yzu k (g := fun p v next K => slices_Max_lint_int_g0 k p v next (fun x => K (.exit 0) (yzy p x))) (dec_at yzx) (fun p v K K1 => y100 k p v K K1)
def y102 (a : List Int) : List Arg := [.one (.sl (.int .i64) a)]
def y103 (l : List Arg) : Option (List Int) := match l with
  | [.one (.sl (.int .i64) b0)] => some b0
  | _ => none
def y104 (r : Int) : Out := (.r [] (.int .i64 r), [])
def y105 (o : Out) : Option (Int) := match o with
  | (.r [] (.int .i64 z1), []) => some z1
  | _ => none
def y106 (k : Nat) : PG := fun _ l K => (y103 l).bind fun a => (slices_Max_lint_int k a).bind fun r => K (y104 r)
theorem y107 (k : Nat) (a : List Int) : ev (yzn k) (yzz (Int) k) 0 yzp (st0 Try.f84 (y102 a)) (fin Try.prog Try.f84 (.sc) y105) = slices_Max_lint_int k a := by kernel_rfl
theorem y108 (k : Nat) : PureOk Try.prog 84 (y106 k) :=
  pureOk_of_ev (yzo k) Try.func84 (by kernel_rfl) (by kernel_rfl) y102 y103
    (fun l a h => by unfold y103 at h; split at h <;> first | (cases h; rfl) | cases h) (fun a => rfl) (lpgood_of (l := [(0, yzq)]) (by kernel_rfl) ⟨y101 k, trivial⟩)
    (fun o r h => by unfold y105 at h; split at h <;> first | (cases h; rfl) | cases h) (y107 k)
def y109 (k : Nat) : Orc := pureOrc [.one (.sl (.int .i64))] (y106 k)
theorem y10a (k : Nat) : OrcOk Try.prog 84 (y109 k) := pureOrc_ok (y108 k)
noncomputable def y10b (k : Nat) : Env := { P := Try.prog, tt := tt, orc := fun g => cond (Nat.beq g 82) (yy9 k) (cond (Nat.beq g 83) (yzl k) (cond (Nat.beq g 84) (y109 k) (cond (Nat.beq g 85) (yx6 k) (cond (Nat.beq g 86) (yym k) (noOrc))))) }
theorem y10c (k : Nat) : EnvOk (y10b k) := fun g => (orc_cond (yya k) (orc_cond (yzm k) (orc_cond (y10a k) (orc_cond (yx7 k) (orc_cond (yyn k) (noOrc_ok _ _))))))
noncomputable def y10d : Code := (Try.f67.body).getD .skip
noncomputable def y10e : Code := ((loopsIn 0 y10d).getD 0 (0, .skip)).2
def y10f : List Nat := [5, 11, 49, 50, 51]
def y10g : List (Where × Co) := []
def y10h : Ex → List Nat
  | .exit j => cond (Nat.beq j 1) [5, 11] []
  | .ret => []
  | .normal => []
def y10i : Ex → List (Where × Co)
  | .exit j => cond (Nat.beq j 1) [] []
  | .ret => []
  | .normal => []
def y10j (pv : (Int × Int × Int × Int × Int × Int × Int × Int × List Int × List Int × List Int) × (Int × Int)) : St := { slots := [(5, .ptr 0 0 0), (11, .r [] (.int .i64 pv.2.1)), (49, .own 1), (50, .r [] (.int .i64 pv.1.1)), (51, .r [] (.int .i64 pv.2.2))], heap := [(0, .box [.r [] (.int .i64 pv.1.2.1), .r [] (.int .i64 pv.1.2.2.1), .r [] (.int .i64 pv.1.2.2.2.1), .r [] (.int .i64 pv.1.2.2.2.2.1), .r [] (.int .i64 pv.1.2.2.2.2.2.1), .r [] (.int .i64 pv.1.2.2.2.2.2.2.1), .r [] (.int .i64 pv.1.2.2.2.2.2.2.2.1), .r [] (.sl (.int .i64) pv.1.2.2.2.2.2.2.2.2.1), .r [] (.sl (.int .i64) pv.1.2.2.2.2.2.2.2.2.2.1)]), (1, .arr none (.int .i64) pv.1.2.2.2.2.2.2.2.2.2.2)], nid := 2, n := 86, gh := [] }
def y10k (nf : NF) : Option ((Int × Int × Int × Int × Int × Int × Int × Int × List Int × List Int × List Int) × (Int × Int)) := match nf with
  | ([.ptr 0 0 0, .r [] (.int .i64 w0), .own 1, .r [] (.int .i64 w1), .r [] (.int .i64 w2)], [.box [.r [] (.int .i64 w3), .r [] (.int .i64 w4), .r [] (.int .i64 w5), .r [] (.int .i64 w6), .r [] (.int .i64 w7), .r [] (.int .i64 w8), .r [] (.int .i64 w9), .r [] (.sl (.int .i64) w10), .r [] (.sl (.int .i64) w11)], .arr none (.int .i64) w12], []) => some ((w1, w3, w4, w5, w6, w7, w8, w9, w10, w11, w12), (w0, w2))
  | _ => none
theorem y10l (nf : NF) (v : (Int × Int × Int × Int × Int × Int × Int × Int × List Int × List Int × List Int) × (Int × Int)) (h : y10k nf = some v) : denorm y10f 86 nf = y10j v := by
  unfold y10k at h
  split at h
  · cases h; rfl
  · cases h
def y10m (p : Int × Int × Int × Int × Int × Int × Int × Int × List Int × List Int × List Int) (x : Int) : St := { slots := [(5, .ptr 0 0 0), (11, .r [] (.int .i64 x))], heap := [(0, .box [.r [] (.int .i64 p.2.1), .r [] (.int .i64 p.2.2.1), .r [] (.int .i64 p.2.2.2.1), .r [] (.int .i64 p.2.2.2.2.1), .r [] (.int .i64 p.2.2.2.2.2.1), .r [] (.int .i64 p.2.2.2.2.2.2.1), .r [] (.int .i64 p.2.2.2.2.2.2.2.1), .r [] (.sl (.int .i64) p.2.2.2.2.2.2.2.2.1), .r [] (.sl (.int .i64) p.2.2.2.2.2.2.2.2.2.1)])], nid := 1, n := 86, gh := [] }
def y10n (ρ : Type) (k : Nat) : Nat → Ev ρ → Ev ρ := fun id f => cond (Nat.beq id 1) (loopOrc y10f y10g (fun n nf => cond (Nat.beq n 86) (y10k nf) none) fun pv K => iter (fun v next => I_Layer_item_g0 k pv.1 v next (fun x => K (.exit 1) (y10m pv.1 x))) k pv.2) ((fun _ _ _ _ => none) id f)
theorem y10o {ρ : Type} (k : Nat) (p : Int × Int × Int × Int × Int × Int × Int × Int × List Int × List Int × List Int) (v : Int × Int) (K K1 : Ex → St → Option ρ) : ev (y10b k) (y10n ρ k) 1 y10e (y10j (p, v)) (fun e st' => match e with
    | .normal => (normC y10f y10g st').bind fun nf => K1 .normal (denorm y10f st'.n nf)
    | e => (normC (y10h e) (y10i e) st').bind fun nf => K e (denorm (y10h e) st'.n nf)) = I_Layer_item_g0 k p v (fun v' => K1 .normal (y10j (p, v'))) (fun x => K (.exit 1) (y10m p x)) := by kernel_rfl
theorem y10p {ρ : Type} (k : Nat) : Sound Try.prog (.loop y10e) (y10n ρ k 1 fun st K => ev (y10b k) (y10n ρ k) 1 y10e st K) :=
  loop_ok (ev_sound (y10c k) y10e 1 (lpgood_none (by kernel_rfl))) y10h y10i k (g := fun p v next K => I_Layer_item_g0 k p v next (fun x => K (.exit 1) (y10m p x))) (dec_at y10l) (fun p v K K1 => y10o k p v K K1)
def y10q (a : Layer × Tensor × Int × Int × Int) : List Arg := [.agg [.int .i64 a.1.kind, .int .i64 a.1.out, .int .i64 a.1.size, .int .i64 a.1.step, .int .i64 a.1.mult, .int .i64 a.1.shift, .int .i64 a.1.zero, .sl (.int .i64) a.1.weights, .sl (.int .i64) a.1.bias], .agg [.int .i64 a.2.1.sh.h, .int .i64 a.2.1.sh.w, .int .i64 a.2.1.sh.c, .sl (.int .i64) a.2.1.data], .one (.int .i64 a.2.2.1), .one (.int .i64 a.2.2.2.1), .one (.int .i64 a.2.2.2.2)]
def y10r (l : List Arg) : Option (Layer × Tensor × Int × Int × Int) := match l with
  | [.agg [.int .i64 b0_0, .int .i64 b0_1, .int .i64 b0_2, .int .i64 b0_3, .int .i64 b0_4, .int .i64 b0_5, .int .i64 b0_6, .sl (.int .i64) b0_7, .sl (.int .i64) b0_8], .agg [.int .i64 b1_0, .int .i64 b1_1, .int .i64 b1_2, .sl (.int .i64) b1_3], .one (.int .i64 b2), .one (.int .i64 b3), .one (.int .i64 b4)] => some ((⟨b0_0, b0_1, b0_2, b0_3, b0_4, b0_5, b0_6, b0_7, b0_8⟩ : Layer), (⟨(⟨b1_0, b1_1, b1_2⟩ : Shape), b1_3⟩ : Tensor), b2, b3, b4)
  | _ => none
def y10s (r : Int) : Out := (.r [] (.int .i64 r), [])
def y10t (o : Out) : Option (Int) := match o with
  | (.r [] (.int .i64 z1), []) => some z1
  | _ => none
def y10u (k : Nat) : PG := fun _ l K => (y10r l).bind fun a => (I_Layer_item k a.1 a.2.1 a.2.2.1 a.2.2.2.1 a.2.2.2.2).bind fun r => K (y10s r)
theorem y10v (k : Nat) (a : Layer × Tensor × Int × Int × Int) : ev (y10b k) (y10n (Int) k) 0 y10d (st0 Try.f67 (y10q a)) (fin Try.prog Try.f67 (.sc) y10t) = I_Layer_item k a.1 a.2.1 a.2.2.1 a.2.2.2.1 a.2.2.2.2 := by kernel_rfl
theorem y10w (k : Nat) : PureOk Try.prog 67 (y10u k) :=
  pureOk_of_ev (y10c k) Try.func67 (by kernel_rfl) (by kernel_rfl) y10q y10r
    (fun l a h => by unfold y10r at h; split at h <;> first | (cases h; rfl) | cases h) (fun a => rfl) (lpgood_of (l := [(1, y10e)]) (by kernel_rfl) ⟨y10p k, trivial⟩)
    (fun o r h => by unfold y10t at h; split at h <;> first | (cases h; rfl) | cases h) (y10v k)
def y10x (k : Nat) : Orc := pureOrc [.agg [(.int .i64), (.int .i64), (.int .i64), (.int .i64), (.int .i64), (.int .i64), (.int .i64), (.sl (.int .i64)), (.sl (.int .i64))], .agg [(.int .i64), (.int .i64), (.int .i64), (.sl (.int .i64))], .one (.int .i64), .one (.int .i64), .one (.int .i64)] (y10u k)
theorem y10y (k : Nat) : OrcOk Try.prog 67 (y10x k) := pureOrc_ok (y10w k)
noncomputable def y10z (k : Nat) : Env := { P := Try.prog, tt := tt, orc := fun g => cond (Nat.beq g 50) (ytz k) (cond (Nat.beq g 66) (ysk k) (cond (Nat.beq g 67) (y10x k) (noOrc))) }
theorem y110 (k : Nat) : EnvOk (y10z k) := fun g => (orc_cond (yu0 k) (orc_cond (ysl k) (orc_cond (y10y k) (noOrc_ok _ _))))
noncomputable def y111 : Code := (Try.f51.body).getD .skip
noncomputable def y112 : Code := ((loopsIn 0 y111).getD 0 (0, .skip)).2
noncomputable def y113 : Code := ((loopsIn 0 y112).getD 0 (0, .skip)).2
noncomputable def y114 : Code := ((loopsIn 2 y113).getD 0 (0, .skip)).2
def y115 : List Nat := [2, 3, 4, 6, 8, 9, 10, 30, 31, 35, 36, 40, 41]
def y116 : List (Where × Co) := []
def y117 : Ex → List Nat
  | .exit j => cond (Nat.beq j 4) [2, 3, 4, 6, 8, 9, 30, 31, 35, 36] []
  | .ret => []
  | .normal => []
def y118 : Ex → List (Where × Co)
  | .exit j => cond (Nat.beq j 4) [] []
  | .ret => []
  | .normal => []
def y119 (pv : (Int × Int × Int × Int × Int × Int × Int × Int × Int × Int × List Int × Int × Int × Int × Int × Int × Int × Int × List Int × List Int × Int × Int × Int × Int × Int × Int × Int × Int × Int) × (Int × List Int)) : St := { slots := [(2, .ptr 0 0 0), (3, .ptr 1 0 0), (4, .ptr 2 0 0), (6, .ptr 3 0 0), (8, .ptr 4 0 0), (9, .r [] (.int .i64 pv.1.1)), (10, .r [] (.int .i64 pv.1.2.1)), (30, .r [] (.int .i64 pv.1.2.2.1)), (31, .r [] (.int .i64 pv.1.2.2.2.1)), (35, .r [] (.int .i64 pv.1.2.2.2.2.1)), (36, .r [] (.int .i64 pv.1.2.2.2.2.2.1)), (40, .r [] (.int .i64 pv.1.2.2.2.2.2.2.1)), (41, .r [] (.int .i64 pv.2.1))], heap := [(0, .box [.r [] (.int .i64 pv.1.2.2.2.2.2.2.2.1), .r [] (.int .i64 pv.1.2.2.2.2.2.2.2.2.1), .r [] (.int .i64 pv.1.2.2.2.2.2.2.2.2.2.1), .r [] (.sl (.int .i64) pv.1.2.2.2.2.2.2.2.2.2.2.1)]), (1, .box [.r [] (.int .i64 pv.1.2.2.2.2.2.2.2.2.2.2.2.1), .r [] (.int .i64 pv.1.2.2.2.2.2.2.2.2.2.2.2.2.1), .r [] (.int .i64 pv.1.2.2.2.2.2.2.2.2.2.2.2.2.2.1), .r [] (.int .i64 pv.1.2.2.2.2.2.2.2.2.2.2.2.2.2.2.1), .r [] (.int .i64 pv.1.2.2.2.2.2.2.2.2.2.2.2.2.2.2.2.1), .r [] (.int .i64 pv.1.2.2.2.2.2.2.2.2.2.2.2.2.2.2.2.2.1), .r [] (.int .i64 pv.1.2.2.2.2.2.2.2.2.2.2.2.2.2.2.2.2.2.1), .r [] (.sl (.int .i64) pv.1.2.2.2.2.2.2.2.2.2.2.2.2.2.2.2.2.2.2.1), .r [] (.sl (.int .i64) pv.1.2.2.2.2.2.2.2.2.2.2.2.2.2.2.2.2.2.2.2.1)]), (2, .box [.r [] (.int .i64 pv.1.2.2.2.2.2.2.2.2.2.2.2.2.2.2.2.2.2.2.2.2.1), .r [] (.int .i64 pv.1.2.2.2.2.2.2.2.2.2.2.2.2.2.2.2.2.2.2.2.2.2.1), .r [] (.int .i64 pv.1.2.2.2.2.2.2.2.2.2.2.2.2.2.2.2.2.2.2.2.2.2.2.1), .nilS]), (3, .box [.r [] (.int .i64 pv.1.2.2.2.2.2.2.2.2.2.2.2.2.2.2.2.2.2.2.2.2.2.2.2.1), .r [] (.int .i64 pv.1.2.2.2.2.2.2.2.2.2.2.2.2.2.2.2.2.2.2.2.2.2.2.2.2.1), .r [] (.int .i64 pv.1.2.2.2.2.2.2.2.2.2.2.2.2.2.2.2.2.2.2.2.2.2.2.2.2.2.1)]), (4, .box [.r [] (.int .i64 pv.1.2.2.2.2.2.2.2.2.2.2.2.2.2.2.2.2.2.2.2.2.2.2.2.2.2.2.1), .r [] (.int .i64 pv.1.2.2.2.2.2.2.2.2.2.2.2.2.2.2.2.2.2.2.2.2.2.2.2.2.2.2.2.1), .r [] (.int .i64 pv.1.2.2.2.2.2.2.2.2.2.2.2.2.2.2.2.2.2.2.2.2.2.2.2.2.2.2.2.2), .own 5]), (5, .arr none (.int .i64) pv.2.2)], nid := 6, n := 59, gh := [] }
def y11a (nf : NF) : Option ((Int × Int × Int × Int × Int × Int × Int × Int × Int × Int × List Int × Int × Int × Int × Int × Int × Int × Int × List Int × List Int × Int × Int × Int × Int × Int × Int × Int × Int × Int) × (Int × List Int)) := match nf with
  | ([.ptr 0 0 0, .ptr 1 0 0, .ptr 2 0 0, .ptr 3 0 0, .ptr 4 0 0, .r [] (.int .i64 w0), .r [] (.int .i64 w1), .r [] (.int .i64 w2), .r [] (.int .i64 w3), .r [] (.int .i64 w4), .r [] (.int .i64 w5), .r [] (.int .i64 w6), .r [] (.int .i64 w7)], [.box [.r [] (.int .i64 w8), .r [] (.int .i64 w9), .r [] (.int .i64 w10), .r [] (.sl (.int .i64) w11)], .box [.r [] (.int .i64 w12), .r [] (.int .i64 w13), .r [] (.int .i64 w14), .r [] (.int .i64 w15), .r [] (.int .i64 w16), .r [] (.int .i64 w17), .r [] (.int .i64 w18), .r [] (.sl (.int .i64) w19), .r [] (.sl (.int .i64) w20)], .box [.r [] (.int .i64 w21), .r [] (.int .i64 w22), .r [] (.int .i64 w23), .nilS], .box [.r [] (.int .i64 w24), .r [] (.int .i64 w25), .r [] (.int .i64 w26)], .box [.r [] (.int .i64 w27), .r [] (.int .i64 w28), .r [] (.int .i64 w29), .own 5], .arr none (.int .i64) w30], []) => some ((w0, w1, w2, w3, w4, w5, w6, w8, w9, w10, w11, w12, w13, w14, w15, w16, w17, w18, w19, w20, w21, w22, w23, w24, w25, w26, w27, w28, w29), (w7, w30))
  | _ => none
theorem y11b (nf : NF) (v : (Int × Int × Int × Int × Int × Int × Int × Int × Int × Int × List Int × Int × Int × Int × Int × Int × Int × Int × List Int × List Int × Int × Int × Int × Int × Int × Int × Int × Int × Int) × (Int × List Int)) (h : y11a nf = some v) : denorm y115 59 nf = y119 v := by
  unfold y11a at h
  split at h
  · cases h; rfl
  · cases h
def y11c (p : Int × Int × Int × Int × Int × Int × Int × Int × Int × Int × List Int × Int × Int × Int × Int × Int × Int × Int × List Int × List Int × Int × Int × Int × Int × Int × Int × Int × Int × Int) (x : List Int) : St := { slots := [(2, .ptr 0 0 0), (3, .ptr 1 0 0), (4, .ptr 2 0 0), (6, .ptr 3 0 0), (8, .ptr 4 0 0), (9, .r [] (.int .i64 p.1)), (30, .r [] (.int .i64 p.2.2.1)), (31, .r [] (.int .i64 p.2.2.2.1)), (35, .r [] (.int .i64 p.2.2.2.2.1)), (36, .r [] (.int .i64 p.2.2.2.2.2.1))], heap := [(0, .box [.r [] (.int .i64 p.2.2.2.2.2.2.2.1), .r [] (.int .i64 p.2.2.2.2.2.2.2.2.1), .r [] (.int .i64 p.2.2.2.2.2.2.2.2.2.1), .r [] (.sl (.int .i64) p.2.2.2.2.2.2.2.2.2.2.1)]), (1, .box [.r [] (.int .i64 p.2.2.2.2.2.2.2.2.2.2.2.1), .r [] (.int .i64 p.2.2.2.2.2.2.2.2.2.2.2.2.1), .r [] (.int .i64 p.2.2.2.2.2.2.2.2.2.2.2.2.2.1), .r [] (.int .i64 p.2.2.2.2.2.2.2.2.2.2.2.2.2.2.1), .r [] (.int .i64 p.2.2.2.2.2.2.2.2.2.2.2.2.2.2.2.1), .r [] (.int .i64 p.2.2.2.2.2.2.2.2.2.2.2.2.2.2.2.2.1), .r [] (.int .i64 p.2.2.2.2.2.2.2.2.2.2.2.2.2.2.2.2.2.1), .r [] (.sl (.int .i64) p.2.2.2.2.2.2.2.2.2.2.2.2.2.2.2.2.2.2.1), .r [] (.sl (.int .i64) p.2.2.2.2.2.2.2.2.2.2.2.2.2.2.2.2.2.2.2.1)]), (2, .box [.r [] (.int .i64 p.2.2.2.2.2.2.2.2.2.2.2.2.2.2.2.2.2.2.2.2.1), .r [] (.int .i64 p.2.2.2.2.2.2.2.2.2.2.2.2.2.2.2.2.2.2.2.2.2.1), .r [] (.int .i64 p.2.2.2.2.2.2.2.2.2.2.2.2.2.2.2.2.2.2.2.2.2.2.1), .nilS]), (3, .box [.r [] (.int .i64 p.2.2.2.2.2.2.2.2.2.2.2.2.2.2.2.2.2.2.2.2.2.2.2.1), .r [] (.int .i64 p.2.2.2.2.2.2.2.2.2.2.2.2.2.2.2.2.2.2.2.2.2.2.2.2.1), .r [] (.int .i64 p.2.2.2.2.2.2.2.2.2.2.2.2.2.2.2.2.2.2.2.2.2.2.2.2.2.1)]), (4, .box [.r [] (.int .i64 p.2.2.2.2.2.2.2.2.2.2.2.2.2.2.2.2.2.2.2.2.2.2.2.2.2.2.1), .r [] (.int .i64 p.2.2.2.2.2.2.2.2.2.2.2.2.2.2.2.2.2.2.2.2.2.2.2.2.2.2.2.1), .r [] (.int .i64 p.2.2.2.2.2.2.2.2.2.2.2.2.2.2.2.2.2.2.2.2.2.2.2.2.2.2.2.2), .own 5]), (5, .arr none (.int .i64) x)], nid := 6, n := 59, gh := [] }
def y11d : List Nat := [2, 3, 4, 6, 8, 9, 30, 31, 35, 36]
def y11e : List (Where × Co) := []
def y11f : Ex → List Nat
  | .exit j => cond (Nat.beq j 2) [2, 3, 4, 6, 8, 30, 31] []
  | .ret => []
  | .normal => []
def y11g : Ex → List (Where × Co)
  | .exit j => cond (Nat.beq j 2) [] []
  | .ret => []
  | .normal => []
def y11h (pv : (Int × Int × Int × Int × Int × Int × Int × List Int × Int × Int × Int × Int × Int × Int × Int × List Int × List Int × Int × Int × Int × Int × Int × Int × Int × Int × Int) × (Int × List Int)) : St := { slots := [(2, .ptr 0 0 0), (3, .ptr 1 0 0), (4, .ptr 2 0 0), (6, .ptr 3 0 0), (8, .ptr 4 0 0), (9, .r [] (.int .i64 pv.1.1)), (30, .r [] (.int .i64 pv.1.2.1)), (31, .r [] (.int .i64 pv.1.2.2.1)), (35, .r [] (.int .i64 pv.1.2.2.2.1)), (36, .r [] (.int .i64 pv.2.1))], heap := [(0, .box [.r [] (.int .i64 pv.1.2.2.2.2.1), .r [] (.int .i64 pv.1.2.2.2.2.2.1), .r [] (.int .i64 pv.1.2.2.2.2.2.2.1), .r [] (.sl (.int .i64) pv.1.2.2.2.2.2.2.2.1)]), (1, .box [.r [] (.int .i64 pv.1.2.2.2.2.2.2.2.2.1), .r [] (.int .i64 pv.1.2.2.2.2.2.2.2.2.2.1), .r [] (.int .i64 pv.1.2.2.2.2.2.2.2.2.2.2.1), .r [] (.int .i64 pv.1.2.2.2.2.2.2.2.2.2.2.2.1), .r [] (.int .i64 pv.1.2.2.2.2.2.2.2.2.2.2.2.2.1), .r [] (.int .i64 pv.1.2.2.2.2.2.2.2.2.2.2.2.2.2.1), .r [] (.int .i64 pv.1.2.2.2.2.2.2.2.2.2.2.2.2.2.2.1), .r [] (.sl (.int .i64) pv.1.2.2.2.2.2.2.2.2.2.2.2.2.2.2.2.1), .r [] (.sl (.int .i64) pv.1.2.2.2.2.2.2.2.2.2.2.2.2.2.2.2.2.1)]), (2, .box [.r [] (.int .i64 pv.1.2.2.2.2.2.2.2.2.2.2.2.2.2.2.2.2.2.1), .r [] (.int .i64 pv.1.2.2.2.2.2.2.2.2.2.2.2.2.2.2.2.2.2.2.1), .r [] (.int .i64 pv.1.2.2.2.2.2.2.2.2.2.2.2.2.2.2.2.2.2.2.2.1), .nilS]), (3, .box [.r [] (.int .i64 pv.1.2.2.2.2.2.2.2.2.2.2.2.2.2.2.2.2.2.2.2.2.1), .r [] (.int .i64 pv.1.2.2.2.2.2.2.2.2.2.2.2.2.2.2.2.2.2.2.2.2.2.1), .r [] (.int .i64 pv.1.2.2.2.2.2.2.2.2.2.2.2.2.2.2.2.2.2.2.2.2.2.2.1)]), (4, .box [.r [] (.int .i64 pv.1.2.2.2.2.2.2.2.2.2.2.2.2.2.2.2.2.2.2.2.2.2.2.2.1), .r [] (.int .i64 pv.1.2.2.2.2.2.2.2.2.2.2.2.2.2.2.2.2.2.2.2.2.2.2.2.2.1), .r [] (.int .i64 pv.1.2.2.2.2.2.2.2.2.2.2.2.2.2.2.2.2.2.2.2.2.2.2.2.2.2), .own 5]), (5, .arr none (.int .i64) pv.2.2)], nid := 6, n := 59, gh := [] }
def y11i (nf : NF) : Option ((Int × Int × Int × Int × Int × Int × Int × List Int × Int × Int × Int × Int × Int × Int × Int × List Int × List Int × Int × Int × Int × Int × Int × Int × Int × Int × Int) × (Int × List Int)) := match nf with
  | ([.ptr 0 0 0, .ptr 1 0 0, .ptr 2 0 0, .ptr 3 0 0, .ptr 4 0 0, .r [] (.int .i64 w0), .r [] (.int .i64 w1), .r [] (.int .i64 w2), .r [] (.int .i64 w3), .r [] (.int .i64 w4)], [.box [.r [] (.int .i64 w5), .r [] (.int .i64 w6), .r [] (.int .i64 w7), .r [] (.sl (.int .i64) w8)], .box [.r [] (.int .i64 w9), .r [] (.int .i64 w10), .r [] (.int .i64 w11), .r [] (.int .i64 w12), .r [] (.int .i64 w13), .r [] (.int .i64 w14), .r [] (.int .i64 w15), .r [] (.sl (.int .i64) w16), .r [] (.sl (.int .i64) w17)], .box [.r [] (.int .i64 w18), .r [] (.int .i64 w19), .r [] (.int .i64 w20), .nilS], .box [.r [] (.int .i64 w21), .r [] (.int .i64 w22), .r [] (.int .i64 w23)], .box [.r [] (.int .i64 w24), .r [] (.int .i64 w25), .r [] (.int .i64 w26), .own 5], .arr none (.int .i64) w27], []) => some ((w0, w1, w2, w3, w5, w6, w7, w8, w9, w10, w11, w12, w13, w14, w15, w16, w17, w18, w19, w20, w21, w22, w23, w24, w25, w26), (w4, w27))
  | _ => none
theorem y11j (nf : NF) (v : (Int × Int × Int × Int × Int × Int × Int × List Int × Int × Int × Int × Int × Int × Int × Int × List Int × List Int × Int × Int × Int × Int × Int × Int × Int × Int × Int) × (Int × List Int)) (h : y11i nf = some v) : denorm y11d 59 nf = y11h v := by
  unfold y11i at h
  split at h
  · cases h; rfl
  · cases h
def y11k (p : Int × Int × Int × Int × Int × Int × Int × List Int × Int × Int × Int × Int × Int × Int × Int × List Int × List Int × Int × Int × Int × Int × Int × Int × Int × Int × Int) (x : List Int) : St := { slots := [(2, .ptr 0 0 0), (3, .ptr 1 0 0), (4, .ptr 2 0 0), (6, .ptr 3 0 0), (8, .ptr 4 0 0), (30, .r [] (.int .i64 p.2.1)), (31, .r [] (.int .i64 p.2.2.1))], heap := [(0, .box [.r [] (.int .i64 p.2.2.2.2.1), .r [] (.int .i64 p.2.2.2.2.2.1), .r [] (.int .i64 p.2.2.2.2.2.2.1), .r [] (.sl (.int .i64) p.2.2.2.2.2.2.2.1)]), (1, .box [.r [] (.int .i64 p.2.2.2.2.2.2.2.2.1), .r [] (.int .i64 p.2.2.2.2.2.2.2.2.2.1), .r [] (.int .i64 p.2.2.2.2.2.2.2.2.2.2.1), .r [] (.int .i64 p.2.2.2.2.2.2.2.2.2.2.2.1), .r [] (.int .i64 p.2.2.2.2.2.2.2.2.2.2.2.2.1), .r [] (.int .i64 p.2.2.2.2.2.2.2.2.2.2.2.2.2.1), .r [] (.int .i64 p.2.2.2.2.2.2.2.2.2.2.2.2.2.2.1), .r [] (.sl (.int .i64) p.2.2.2.2.2.2.2.2.2.2.2.2.2.2.2.1), .r [] (.sl (.int .i64) p.2.2.2.2.2.2.2.2.2.2.2.2.2.2.2.2.1)]), (2, .box [.r [] (.int .i64 p.2.2.2.2.2.2.2.2.2.2.2.2.2.2.2.2.2.1), .r [] (.int .i64 p.2.2.2.2.2.2.2.2.2.2.2.2.2.2.2.2.2.2.1), .r [] (.int .i64 p.2.2.2.2.2.2.2.2.2.2.2.2.2.2.2.2.2.2.2.1), .nilS]), (3, .box [.r [] (.int .i64 p.2.2.2.2.2.2.2.2.2.2.2.2.2.2.2.2.2.2.2.2.1), .r [] (.int .i64 p.2.2.2.2.2.2.2.2.2.2.2.2.2.2.2.2.2.2.2.2.2.1), .r [] (.int .i64 p.2.2.2.2.2.2.2.2.2.2.2.2.2.2.2.2.2.2.2.2.2.2.1)]), (4, .box [.r [] (.int .i64 p.2.2.2.2.2.2.2.2.2.2.2.2.2.2.2.2.2.2.2.2.2.2.2.1), .r [] (.int .i64 p.2.2.2.2.2.2.2.2.2.2.2.2.2.2.2.2.2.2.2.2.2.2.2.2.1), .r [] (.int .i64 p.2.2.2.2.2.2.2.2.2.2.2.2.2.2.2.2.2.2.2.2.2.2.2.2.2), .own 5]), (5, .arr none (.int .i64) x)], nid := 6, n := 59, gh := [] }
def y11l : List Nat := [2, 3, 4, 6, 8, 30, 31]
def y11m : List (Where × Co) := [((.pbox 8 3), (.nilOwn false (.int .i64)))]
def y11n : Ex → List Nat
  | .exit j => cond (Nat.beq j 0) [4, 8] []
  | .ret => []
  | .normal => []
def y11o : Ex → List (Where × Co)
  | .exit j => cond (Nat.beq j 0) [] []
  | .ret => []
  | .normal => []
def y11p (pv : (Int × Int × Int × Int × List Int × Int × Int × Int × Int × Int × Int × Int × List Int × List Int × Int × Int × Int × Int × Int × Int × Int × Int × Int) × (Int × List Int)) : St := { slots := [(2, .ptr 0 0 0), (3, .ptr 1 0 0), (4, .ptr 2 0 0), (6, .ptr 3 0 0), (8, .ptr 4 0 0), (30, .r [] (.int .i64 pv.1.1)), (31, .r [] (.int .i64 pv.2.1))], heap := [(0, .box [.r [] (.int .i64 pv.1.2.1), .r [] (.int .i64 pv.1.2.2.1), .r [] (.int .i64 pv.1.2.2.2.1), .r [] (.sl (.int .i64) pv.1.2.2.2.2.1)]), (1, .box [.r [] (.int .i64 pv.1.2.2.2.2.2.1), .r [] (.int .i64 pv.1.2.2.2.2.2.2.1), .r [] (.int .i64 pv.1.2.2.2.2.2.2.2.1), .r [] (.int .i64 pv.1.2.2.2.2.2.2.2.2.1), .r [] (.int .i64 pv.1.2.2.2.2.2.2.2.2.2.1), .r [] (.int .i64 pv.1.2.2.2.2.2.2.2.2.2.2.1), .r [] (.int .i64 pv.1.2.2.2.2.2.2.2.2.2.2.2.1), .r [] (.sl (.int .i64) pv.1.2.2.2.2.2.2.2.2.2.2.2.2.1), .r [] (.sl (.int .i64) pv.1.2.2.2.2.2.2.2.2.2.2.2.2.2.1)]), (2, .box [.r [] (.int .i64 pv.1.2.2.2.2.2.2.2.2.2.2.2.2.2.2.1), .r [] (.int .i64 pv.1.2.2.2.2.2.2.2.2.2.2.2.2.2.2.2.1), .r [] (.int .i64 pv.1.2.2.2.2.2.2.2.2.2.2.2.2.2.2.2.2.1), .nilS]), (3, .box [.r [] (.int .i64 pv.1.2.2.2.2.2.2.2.2.2.2.2.2.2.2.2.2.2.1), .r [] (.int .i64 pv.1.2.2.2.2.2.2.2.2.2.2.2.2.2.2.2.2.2.2.1), .r [] (.int .i64 pv.1.2.2.2.2.2.2.2.2.2.2.2.2.2.2.2.2.2.2.2.1)]), (4, .box [.r [] (.int .i64 pv.1.2.2.2.2.2.2.2.2.2.2.2.2.2.2.2.2.2.2.2.2.1), .r [] (.int .i64 pv.1.2.2.2.2.2.2.2.2.2.2.2.2.2.2.2.2.2.2.2.2.2.1), .r [] (.int .i64 pv.1.2.2.2.2.2.2.2.2.2.2.2.2.2.2.2.2.2.2.2.2.2.2), .own 5]), (5, .arr none (.int .i64) pv.2.2)], nid := 6, n := 59, gh := [] }
def y11q (nf : NF) : Option ((Int × Int × Int × Int × List Int × Int × Int × Int × Int × Int × Int × Int × List Int × List Int × Int × Int × Int × Int × Int × Int × Int × Int × Int) × (Int × List Int)) := match nf with
  | ([.ptr 0 0 0, .ptr 1 0 0, .ptr 2 0 0, .ptr 3 0 0, .ptr 4 0 0, .r [] (.int .i64 w0), .r [] (.int .i64 w1)], [.box [.r [] (.int .i64 w2), .r [] (.int .i64 w3), .r [] (.int .i64 w4), .r [] (.sl (.int .i64) w5)], .box [.r [] (.int .i64 w6), .r [] (.int .i64 w7), .r [] (.int .i64 w8), .r [] (.int .i64 w9), .r [] (.int .i64 w10), .r [] (.int .i64 w11), .r [] (.int .i64 w12), .r [] (.sl (.int .i64) w13), .r [] (.sl (.int .i64) w14)], .box [.r [] (.int .i64 w15), .r [] (.int .i64 w16), .r [] (.int .i64 w17), .nilS], .box [.r [] (.int .i64 w18), .r [] (.int .i64 w19), .r [] (.int .i64 w20)], .box [.r [] (.int .i64 w21), .r [] (.int .i64 w22), .r [] (.int .i64 w23), .own 5], .arr none (.int .i64) w24], []) => some ((w0, w2, w3, w4, w5, w6, w7, w8, w9, w10, w11, w12, w13, w14, w15, w16, w17, w18, w19, w20, w21, w22, w23), (w1, w24))
  | _ => none
theorem y11r (nf : NF) (v : (Int × Int × Int × Int × List Int × Int × Int × Int × Int × Int × Int × Int × List Int × List Int × Int × Int × Int × Int × Int × Int × Int × Int × Int) × (Int × List Int)) (h : y11q nf = some v) : denorm y11l 59 nf = y11p v := by
  unfold y11q at h
  split at h
  · cases h; rfl
  · cases h
def y11s (p : Int × Int × Int × Int × List Int × Int × Int × Int × Int × Int × Int × Int × List Int × List Int × Int × Int × Int × Int × Int × Int × Int × Int × Int) (x : List Int) : St := { slots := [(4, .ptr 0 0 0), (8, .ptr 1 0 0)], heap := [(0, .box [.r [] (.int .i64 p.2.2.2.2.2.2.2.2.2.2.2.2.2.2.1), .r [] (.int .i64 p.2.2.2.2.2.2.2.2.2.2.2.2.2.2.2.1), .r [] (.int .i64 p.2.2.2.2.2.2.2.2.2.2.2.2.2.2.2.2.1), .nilS]), (1, .box [.r [] (.int .i64 p.2.2.2.2.2.2.2.2.2.2.2.2.2.2.2.2.2.2.2.2.1), .r [] (.int .i64 p.2.2.2.2.2.2.2.2.2.2.2.2.2.2.2.2.2.2.2.2.2.1), .r [] (.int .i64 p.2.2.2.2.2.2.2.2.2.2.2.2.2.2.2.2.2.2.2.2.2.2), .own 2]), (2, .arr none (.int .i64) x)], nid := 3, n := 59, gh := [] }
def y11t (ρ : Type) (k : Nat) : Nat → Ev ρ → Ev ρ := fun id f => cond (Nat.beq id 0) (loopOrc y11l y11m (fun n nf => cond (Nat.beq n 59) (y11q nf) none) fun pv K => iter (fun v next => I_RunLayer_g0 k pv.1 v next (fun x => K (.exit 0) (y11s pv.1 x))) k pv.2) ((fun id f => cond (Nat.beq id 2) (loopOrc y11d y11e (fun n nf => cond (Nat.beq n 59) (y11i nf) none) fun pv K => iter (fun v next => I_RunLayer_g1 k pv.1 v next (fun x => K (.exit 2) (y11k pv.1 x))) k pv.2) ((fun id f => cond (Nat.beq id 4) (loopOrc y115 y116 (fun n nf => cond (Nat.beq n 59) (y11a nf) none) fun pv K => iter (fun v next => I_RunLayer_g2 k pv.1 v next (fun x => K (.exit 4) (y11c pv.1 x))) k pv.2) ((fun _ _ _ _ => none) id f)) id f)) id f)
theorem y11u {ρ : Type} (k : Nat) (p : Int × Int × Int × Int × Int × Int × Int × Int × Int × Int × List Int × Int × Int × Int × Int × Int × Int × Int × List Int × List Int × Int × Int × Int × Int × Int × Int × Int × Int × Int) (v : Int × List Int) (K K1 : Ex → St → Option ρ) : ev (y10z k) (y11t ρ k) 4 y114 (y119 (p, v)) (fun e st' => match e with
    | .normal => (normC y115 y116 st').bind fun nf => K1 .normal (denorm y115 st'.n nf)
    | e => (normC (y117 e) (y118 e) st').bind fun nf => K e (denorm (y117 e) st'.n nf)) = I_RunLayer_g2 k p v (fun v' => K1 .normal (y119 (p, v'))) (fun x => K (.exit 4) (y11c p x)) := by kernel_rfl
theorem y11v {ρ : Type} (k : Nat) : Sound Try.prog (.loop y114) (y11t ρ k 4 fun st K => ev (y10z k) (y11t ρ k) 4 y114 st K) :=
  loop_ok (ev_sound (y110 k) y114 4 (lpgood_none (by kernel_rfl))) y117 y118 k (g := fun p v next K => I_RunLayer_g2 k p v next (fun x => K (.exit 4) (y11c p x))) (dec_at y11b) (fun p v K K1 => y11u k p v K K1)
theorem y11w {ρ : Type} (k : Nat) (p : Int × Int × Int × Int × Int × Int × Int × List Int × Int × Int × Int × Int × Int × Int × Int × List Int × List Int × Int × Int × Int × Int × Int × Int × Int × Int × Int) (v : Int × List Int) (K K1 : Ex → St → Option ρ) : ev (y10z k) (y11t ρ k) 2 y113 (y11h (p, v)) (fun e st' => match e with
    | .normal => (normC y11d y11e st').bind fun nf => K1 .normal (denorm y11d st'.n nf)
    | e => (normC (y11f e) (y11g e) st').bind fun nf => K e (denorm (y11f e) st'.n nf)) = I_RunLayer_g1 k p v (fun v' => K1 .normal (y11h (p, v'))) (fun x => K (.exit 2) (y11k p x)) := by kernel_rfl
theorem y11x {ρ : Type} (k : Nat) : Sound Try.prog (.loop y113) (y11t ρ k 2 fun st K => ev (y10z k) (y11t ρ k) 2 y113 st K) :=
  loop_ok (ev_sound (y110 k) y113 2 (lpgood_of (l := [(4, y114)]) (by kernel_rfl) ⟨y11v k, trivial⟩)) y11f y11g k (g := fun p v next K => I_RunLayer_g1 k p v next (fun x => K (.exit 2) (y11k p x))) (dec_at y11j) (fun p v K K1 => y11w k p v K K1)
theorem y11y {ρ : Type} (k : Nat) (p : Int × Int × Int × Int × List Int × Int × Int × Int × Int × Int × Int × Int × List Int × List Int × Int × Int × Int × Int × Int × Int × Int × Int × Int) (v : Int × List Int) (K K1 : Ex → St → Option ρ) : ev (y10z k) (y11t ρ k) 0 y112 (y11p (p, v)) (fun e st' => match e with
    | .normal => (normC y11l y11m st').bind fun nf => K1 .normal (denorm y11l st'.n nf)
    | e => (normC (y11n e) (y11o e) st').bind fun nf => K e (denorm (y11n e) st'.n nf)) = I_RunLayer_g0 k p v (fun v' => K1 .normal (y11p (p, v'))) (fun x => K (.exit 0) (y11s p x)) := by kernel_rfl
theorem y11z {ρ : Type} (k : Nat) : Sound Try.prog (.loop y112) (y11t ρ k 0 fun st K => ev (y10z k) (y11t ρ k) 0 y112 st K) :=
  loop_ok (ev_sound (y110 k) y112 0 (lpgood_of (l := [(2, y113)]) (by kernel_rfl) ⟨y11x k, trivial⟩)) y11n y11o k (g := fun p v next K => I_RunLayer_g0 k p v next (fun x => K (.exit 0) (y11s p x))) (dec_at y11r) (fun p v K K1 => y11y k p v K K1)
def y120 (a : Tensor × Layer) : List Arg := [.agg [.int .i64 a.1.sh.h, .int .i64 a.1.sh.w, .int .i64 a.1.sh.c, .sl (.int .i64) a.1.data], .agg [.int .i64 a.2.kind, .int .i64 a.2.out, .int .i64 a.2.size, .int .i64 a.2.step, .int .i64 a.2.mult, .int .i64 a.2.shift, .int .i64 a.2.zero, .sl (.int .i64) a.2.weights, .sl (.int .i64) a.2.bias]]
def y121 (l : List Arg) : Option (Tensor × Layer) := match l with
  | [.agg [.int .i64 b0_0, .int .i64 b0_1, .int .i64 b0_2, .sl (.int .i64) b0_3], .agg [.int .i64 b1_0, .int .i64 b1_1, .int .i64 b1_2, .int .i64 b1_3, .int .i64 b1_4, .int .i64 b1_5, .int .i64 b1_6, .sl (.int .i64) b1_7, .sl (.int .i64) b1_8]] => some ((⟨(⟨b0_0, b0_1, b0_2⟩ : Shape), b0_3⟩ : Tensor), (⟨b1_0, b1_1, b1_2, b1_3, b1_4, b1_5, b1_6, b1_7, b1_8⟩ : Layer))
  | _ => none
def y122 (r : Tensor × Bool) : Out := (.tup [.agg [.r [] (.int .i64 r.1.sh.h), .r [] (.int .i64 r.1.sh.w), .r [] (.int .i64 r.1.sh.c), .own 0], .r [] (.bool r.2)], [.arr none (.int .i64) r.1.data])
def y123 (o : Out) : Option (Tensor × Bool) := match o with
  | (.tup [.agg [.r [] (.int .i64 z1), .r [] (.int .i64 z2), .r [] (.int .i64 z3), .own 0], .r [] (.bool z5)], [.arr none (.int .i64) z4]) => some ((⟨(⟨z1, z2, z3⟩ : Shape), z4⟩ : Tensor), z5)
  | _ => none
def y124 (k : Nat) : PG := fun _ l K => (y121 l).bind fun a => (I_RunLayer k a.1 a.2).bind fun r => K (y122 r)
theorem y125 (k : Nat) (a : Tensor × Layer) : ev (y10z k) (y11t (Tensor × Bool) k) 0 y111 (st0 Try.f51 (y120 a)) (fin Try.prog Try.f51 (.tup [.agg [.sc, .sc, .sc, .own (.int .i64)], .sc]) y123) = I_RunLayer k a.1 a.2 := by kernel_rfl
theorem y126 (k : Nat) : PureOk Try.prog 51 (y124 k) :=
  pureOk_of_ev (y110 k) Try.func51 (by kernel_rfl) (by kernel_rfl) y120 y121
    (fun l a h => by unfold y121 at h; split at h <;> first | (cases h; rfl) | cases h) (fun a => rfl) (lpgood_of (l := [(0, y112)]) (by kernel_rfl) ⟨y11z k, trivial⟩)
    (fun o r h => by unfold y123 at h; split at h <;> first | (cases h; rfl) | cases h) (y125 k)
def y127 (k : Nat) : Orc := pureOrc [.agg [(.int .i64), (.int .i64), (.int .i64), (.sl (.int .i64))], .agg [(.int .i64), (.int .i64), (.int .i64), (.int .i64), (.int .i64), (.int .i64), (.int .i64), (.sl (.int .i64)), (.sl (.int .i64))]] (y124 k)
theorem y128 (k : Nat) : OrcOk Try.prog 51 (y127 k) := pureOrc_ok (y126 k)
noncomputable def y129 (k : Nat) : Env := { P := Try.prog, tt := tt, orc := fun g => cond (Nat.beq g 38) (ytm k) (cond (Nat.beq g 50) (ytz k) (cond (Nat.beq g 51) (y127 k) (noOrc))) }
theorem y12a (k : Nat) : EnvOk (y129 k) := fun g => (orc_cond (ytn k) (orc_cond (yu0 k) (orc_cond (y128 k) (noOrc_ok _ _))))
noncomputable def y12b : Code := (Try.f27.body).getD .skip
noncomputable def y12c : Code := ((loopsIn 0 y12b).getD 0 (0, .skip)).2
def y12d : List Nat := [3, 4, 25, 26, 27]
def y12e : List (Where × Co) := []
def y12f : Ex → List Nat
  | .exit j => cond (Nat.beq j 0) [3, 4] []
  | .ret => []
  | .normal => []
def y12g : Ex → List (Where × Co)
  | .exit j => cond (Nat.beq j 0) [] []
  | .ret => []
  | .normal => []
def y12h (pv : (List Layer × Int × Int × Int × Int) × (Int × Int × Int × Int × List Int)) : St := { slots := [(3, .ptr 0 0 0), (4, .ptr 1 0 0), (25, .r [] (.sl (.st .layer) pv.1.1)), (26, .r [] (.int .i64 pv.1.2.1)), (27, .r [] (.int .i64 pv.2.1))], heap := [(0, .box [.r [] (.int .i64 pv.2.2.1), .r [] (.int .i64 pv.2.2.2.1), .r [] (.int .i64 pv.2.2.2.2.1), .own 2]), (1, .box [.r [] (.int .i64 pv.1.2.2.1), .r [] (.int .i64 pv.1.2.2.2.1), .r [] (.int .i64 pv.1.2.2.2.2), .nilS]), (2, .arr none (.int .i64) pv.2.2.2.2.2)], nid := 3, n := 39, gh := [] }
def y12i (nf : NF) : Option ((List Layer × Int × Int × Int × Int) × (Int × Int × Int × Int × List Int)) := match nf with
  | ([.ptr 0 0 0, .ptr 1 0 0, .r [] (.sl (.st .layer) w0), .r [] (.int .i64 w1), .r [] (.int .i64 w2)], [.box [.r [] (.int .i64 w3), .r [] (.int .i64 w4), .r [] (.int .i64 w5), .own 2], .box [.r [] (.int .i64 w6), .r [] (.int .i64 w7), .r [] (.int .i64 w8), .nilS], .arr none (.int .i64) w9], []) => some ((w0, w1, w6, w7, w8), (w2, w3, w4, w5, w9))
  | _ => none
theorem y12j (nf : NF) (v : (List Layer × Int × Int × Int × Int) × (Int × Int × Int × Int × List Int)) (h : y12i nf = some v) : denorm y12d 39 nf = y12h v := by
  unfold y12i at h
  split at h
  · cases h; rfl
  · cases h
def y12k (p : List Layer × Int × Int × Int × Int) (x : Int × Int × Int × List Int) : St := { slots := [(3, .ptr 0 0 0), (4, .ptr 1 0 0)], heap := [(0, .box [.r [] (.int .i64 x.1), .r [] (.int .i64 x.2.1), .r [] (.int .i64 x.2.2.1), .own 2]), (1, .box [.r [] (.int .i64 p.2.2.1), .r [] (.int .i64 p.2.2.2.1), .r [] (.int .i64 p.2.2.2.2), .nilS]), (2, .arr none (.int .i64) x.2.2.2)], nid := 3, n := 39, gh := [] }
def y12l (ρ : Type) (k : Nat) : Nat → Ev ρ → Ev ρ := fun id f => cond (Nat.beq id 0) (peel f (loopOrc y12d y12e (fun n nf => cond (Nat.beq n 39) (y12i nf) none) fun pv K => iter (fun v next => I_EvalModel_g0 k pv.1 v next (fun x => K (.exit 0) (y12k pv.1 x))) k pv.2)) ((fun _ _ _ _ => none) id f)
theorem y12m {ρ : Type} (k : Nat) (p : List Layer × Int × Int × Int × Int) (v : Int × Int × Int × Int × List Int) (K K1 : Ex → St → Option ρ) : ev (y129 k) (y12l ρ k) 0 y12c (y12h (p, v)) (fun e st' => match e with
    | .normal => (normC y12d y12e st').bind fun nf => K1 .normal (denorm y12d st'.n nf)
    | e => (normC (y12f e) (y12g e) st').bind fun nf => K e (denorm (y12f e) st'.n nf)) = I_EvalModel_g0 k p v (fun v' => K1 .normal (y12h (p, v'))) (fun x => K (.exit 0) (y12k p x)) := by kernel_rfl
theorem y12n {ρ : Type} (k : Nat) : Sound Try.prog (.loop y12c) (y12l ρ k 0 fun st K => ev (y129 k) (y12l ρ k) 0 y12c st K) :=
  peel_ok (ev_sound (y12a k) y12c 0 (lpgood_none (by kernel_rfl))) y12f y12g k (g := fun p v next K => I_EvalModel_g0 k p v next (fun x => K (.exit 0) (y12k p x))) (dec_at y12j) (fun p v K K1 => y12m k p v K K1)
def y12o (a : Model × Tensor) : List Arg := [.agg [.int .i64 a.1.inp.h, .int .i64 a.1.inp.w, .int .i64 a.1.inp.c, .sl (.st .layer) a.1.layers], .agg [.int .i64 a.2.sh.h, .int .i64 a.2.sh.w, .int .i64 a.2.sh.c, .sl (.int .i64) a.2.data]]
def y12p (l : List Arg) : Option (Model × Tensor) := match l with
  | [.agg [.int .i64 b0_0, .int .i64 b0_1, .int .i64 b0_2, .sl (.st .layer) b0_3], .agg [.int .i64 b1_0, .int .i64 b1_1, .int .i64 b1_2, .sl (.int .i64) b1_3]] => some ((⟨(⟨b0_0, b0_1, b0_2⟩ : Shape), b0_3⟩ : Model), (⟨(⟨b1_0, b1_1, b1_2⟩ : Shape), b1_3⟩ : Tensor))
  | _ => none
def y12q (r : Tensor × Bool) : Out := (.tup [.agg [.r [] (.int .i64 r.1.sh.h), .r [] (.int .i64 r.1.sh.w), .r [] (.int .i64 r.1.sh.c), .own 0], .r [] (.bool r.2)], [.arr none (.int .i64) r.1.data])
def y12r (o : Out) : Option (Tensor × Bool) := match o with
  | (.tup [.agg [.r [] (.int .i64 z1), .r [] (.int .i64 z2), .r [] (.int .i64 z3), .own 0], .r [] (.bool z5)], [.arr none (.int .i64) z4]) => some ((⟨(⟨z1, z2, z3⟩ : Shape), z4⟩ : Tensor), z5)
  | _ => none
def y12s (k : Nat) : PG := fun _ l K => (y12p l).bind fun a => (I_EvalModel k a.1 a.2).bind fun r => K (y12q r)
theorem y12t (k : Nat) (a : Model × Tensor) : ev (y129 k) (y12l (Tensor × Bool) k) 0 y12b (st0 Try.f27 (y12o a)) (fin Try.prog Try.f27 (.tup [.agg [.sc, .sc, .sc, .own (.int .i64)], .sc]) y12r) = I_EvalModel k a.1 a.2 := by kernel_rfl
theorem y12u (k : Nat) : PureOk Try.prog 27 (y12s k) :=
  pureOk_of_ev (y12a k) Try.func27 (by kernel_rfl) (by kernel_rfl) y12o y12p
    (fun l a h => by unfold y12p at h; split at h <;> first | (cases h; rfl) | cases h) (fun a => rfl) (lpgood_of (l := [(0, y12c)]) (by kernel_rfl) ⟨y12n k, trivial⟩)
    (fun o r h => by unfold y12r at h; split at h <;> first | (cases h; rfl) | cases h) (y12t k)
def y12v (k : Nat) : Orc := pureOrc [.agg [(.int .i64), (.int .i64), (.int .i64), (.sl (.st .layer))], .agg [(.int .i64), (.int .i64), (.int .i64), (.sl (.int .i64))]] (y12s k)
theorem y12w (k : Nat) : OrcOk Try.prog 27 (y12v k) := pureOrc_ok (y12u k)
noncomputable def y12x (k : Nat) : Env := { P := Try.prog, tt := tt, orc := fun g => cond (Nat.beq g 26) (o_I_in k) (cond (Nat.beq g 27) (y12v k) (noOrc)) }
theorem y12y (k : Nat) : EnvOk (y12x k) := fun g => (orc_cond (ymi k) (orc_cond (y12w k) (noOrc_ok _ _)))
noncomputable def y12z : Code := (Try.f10.body).getD .skip
noncomputable def y130 : Code := ((loopsIn 0 y12z).getD 0 (0, .skip)).2
def y131 : List Nat := [2, 6, 16, 17, 18]
def y132 : List (Where × Co) := []
def y133 : Ex → List Nat
  | .exit j => cond (Nat.beq j 0) [6] []
  | .ret => [4, 5]
  | .normal => []
def y134 : Ex → List (Where × Co)
  | .exit j => cond (Nat.beq j 0) [] []
  | .ret => []
  | .normal => []
def y135 (pv : (List Tensor × Int × Int × Int × Int × List Layer) × (Int × List Tensor)) : St := { slots := [(2, .ptr 0 0 0), (6, .own 1), (16, .r [] (.sl (.st .tensor) pv.1.1)), (17, .r [] (.int .i64 pv.1.2.1)), (18, .r [] (.int .i64 pv.2.1))], heap := [(0, .box [.r [] (.int .i64 pv.1.2.2.1), .r [] (.int .i64 pv.1.2.2.2.1), .r [] (.int .i64 pv.1.2.2.2.2.1), .r [] (.sl (.st .layer) pv.1.2.2.2.2.2)]), (1, .arr none (.st .tensor) pv.2.2)], nid := 2, n := 36, gh := [] }
def y136 (nf : NF) : Option ((List Tensor × Int × Int × Int × Int × List Layer) × (Int × List Tensor)) := match nf with
  | ([.ptr 0 0 0, .own 1, .r [] (.sl (.st .tensor) w0), .r [] (.int .i64 w1), .r [] (.int .i64 w2)], [.box [.r [] (.int .i64 w3), .r [] (.int .i64 w4), .r [] (.int .i64 w5), .r [] (.sl (.st .layer) w6)], .arr none (.st .tensor) w7], []) => some ((w0, w1, w3, w4, w5, w6), (w2, w7))
  | _ => none
theorem y137 (nf : NF) (v : (List Tensor × Int × Int × Int × Int × List Layer) × (Int × List Tensor)) (h : y136 nf = some v) : denorm y131 36 nf = y135 v := by
  unfold y136 at h
  split at h
  · cases h; rfl
  · cases h
def y138 (p : List Tensor × Int × Int × Int × Int × List Layer) (x : List Tensor) : St := { slots := [(6, .own 0)], heap := [(0, .arr none (.st .tensor) x)], nid := 1, n := 36, gh := [] }
def y139 (p : List Tensor × Int × Int × Int × Int × List Layer) (x : Bool) : St := { slots := [(4, .nilS), (5, .r [] (.bool x))], heap := [], nid := 0, n := 36, gh := [] }
def y13a (ρ : Type) (k : Nat) : Nat → Ev ρ → Ev ρ := fun id f => cond (Nat.beq id 0) (loopOrc y131 y132 (fun n nf => cond (Nat.beq n 36) (y136 nf) none) fun pv K => iter (fun v next => I_EvalBatch_g0 k pv.1 v next (fun x => K (.exit 0) (y138 pv.1 x)) (fun x => K .ret (y139 pv.1 x))) k pv.2) ((fun _ _ _ _ => none) id f)
theorem y13b {ρ : Type} (k : Nat) (p : List Tensor × Int × Int × Int × Int × List Layer) (v : Int × List Tensor) (K K1 : Ex → St → Option ρ) : ev (y12x k) (y13a ρ k) 0 y130 (y135 (p, v)) (fun e st' => match e with
    | .normal => (normC y131 y132 st').bind fun nf => K1 .normal (denorm y131 st'.n nf)
    | e => (normC (y133 e) (y134 e) st').bind fun nf => K e (denorm (y133 e) st'.n nf)) = I_EvalBatch_g0 k p v (fun v' => K1 .normal (y135 (p, v'))) (fun x => K (.exit 0) (y138 p x)) (fun x => K .ret (y139 p x)) := by kernel_rfl
theorem y13c {ρ : Type} (k : Nat) : Sound Try.prog (.loop y130) (y13a ρ k 0 fun st K => ev (y12x k) (y13a ρ k) 0 y130 st K) :=
  loop_ok (ev_sound (y12y k) y130 0 (lpgood_none (by kernel_rfl))) y133 y134 k (g := fun p v next K => I_EvalBatch_g0 k p v next (fun x => K (.exit 0) (y138 p x)) (fun x => K .ret (y139 p x))) (dec_at y137) (fun p v K K1 => y13b k p v K K1)
def y13d (a : Model × List Tensor) : List Arg := [.agg [.int .i64 a.1.inp.h, .int .i64 a.1.inp.w, .int .i64 a.1.inp.c, .sl (.st .layer) a.1.layers], .one (.sl (.st .tensor) a.2)]
def y13e (l : List Arg) : Option (Model × List Tensor) := match l with
  | [.agg [.int .i64 b0_0, .int .i64 b0_1, .int .i64 b0_2, .sl (.st .layer) b0_3], .one (.sl (.st .tensor) b1)] => some ((⟨(⟨b0_0, b0_1, b0_2⟩ : Shape), b0_3⟩ : Model), b1)
  | _ => none
def y13f (r : List Tensor × Bool) : Out := (.tup [.own 0, .r [] (.bool r.2)], [.arr none (.st .tensor) r.1])
def y13g (o : Out) : Option (List Tensor × Bool) := match o with
  | (.tup [.own 0, .r [] (.bool z2)], [.arr none (.st .tensor) z1]) => some (z1, z2)
  | _ => none
def y13h (k : Nat) : PG := fun _ l K => (y13e l).bind fun a => (I_EvalBatch k a.1 a.2).bind fun r => K (y13f r)
theorem y13i (k : Nat) (a : Model × List Tensor) : ev (y12x k) (y13a (List Tensor × Bool) k) 0 y12z (st0 Try.f10 (y13d a)) (fin Try.prog Try.f10 (.tup [.own (.st .tensor), .sc]) y13g) = I_EvalBatch k a.1 a.2 := by kernel_rfl
theorem y13j (k : Nat) : PureOk Try.prog 10 (y13h k) :=
  pureOk_of_ev (y12y k) Try.func10 (by kernel_rfl) (by kernel_rfl) y13d y13e
    (fun l a h => by unfold y13e at h; split at h <;> first | (cases h; rfl) | cases h) (fun a => rfl) (lpgood_of (l := [(0, y130)]) (by kernel_rfl) ⟨y13c k, trivial⟩)
    (fun o r h => by unfold y13g at h; split at h <;> first | (cases h; rfl) | cases h) (y13i k)
def y13k (k : Nat) : Orc := pureOrc [.agg [(.int .i64), (.int .i64), (.int .i64), (.sl (.st .layer))], .one (.sl (.st .tensor))] (y13h k)
theorem y13l (k : Nat) : OrcOk Try.prog 10 (y13k k) := pureOrc_ok (y13j k)
noncomputable def y13m (k : Nat) : Env := { P := Try.prog, tt := tt, orc := fun g => noOrc }
theorem y13n (k : Nat) : EnvOk (y13m k) := fun g => (noOrc_ok _ _)
noncomputable def y13o : Code := (Try.f29.body).getD .skip
def y13p (ρ : Type) (k : Nat) : Nat → Ev ρ → Ev ρ := fun _ _ _ _ => none
def y13q (a : Shape × Shape) : List Arg := [.agg [.int .i64 a.1.h, .int .i64 a.1.w, .int .i64 a.1.c], .agg [.int .i64 a.2.h, .int .i64 a.2.w, .int .i64 a.2.c]]
def y13r (l : List Arg) : Option (Shape × Shape) := match l with
  | [.agg [.int .i64 b0_0, .int .i64 b0_1, .int .i64 b0_2], .agg [.int .i64 b1_0, .int .i64 b1_1, .int .i64 b1_2]] => some ((⟨b0_0, b0_1, b0_2⟩ : Shape), (⟨b1_0, b1_1, b1_2⟩ : Shape))
  | _ => none
def y13s (r : Bool) : Out := (.r [] (.bool r), [])
def y13t (o : Out) : Option (Bool) := match o with
  | (.r [] (.bool z1), []) => some z1
  | _ => none
def y13u (k : Nat) : PG := fun _ l K => (y13r l).bind fun a => (L_eqShape k a.1 a.2).bind fun r => K (y13s r)
theorem y13v (k : Nat) (a : Shape × Shape) : ev (y13m k) (y13p (Bool) k) 0 y13o (st0 Try.f29 (y13q a)) (fin Try.prog Try.f29 (.sc) y13t) = L_eqShape k a.1 a.2 := by kernel_rfl
theorem y13w (k : Nat) : PureOk Try.prog 29 (y13u k) :=
  pureOk_of_ev (y13n k) Try.func29 (by kernel_rfl) (by kernel_rfl) y13q y13r
    (fun l a h => by unfold y13r at h; split at h <;> first | (cases h; rfl) | cases h) (fun a => rfl) (lpgood_none (by kernel_rfl))
    (fun o r h => by unfold y13t at h; split at h <;> first | (cases h; rfl) | cases h) (y13v k)
def y13x (k : Nat) : Orc := pureOrc [.agg [(.int .i64), (.int .i64), (.int .i64)], .agg [(.int .i64), (.int .i64), (.int .i64)]] (y13u k)
theorem y13y (k : Nat) : OrcOk Try.prog 29 (y13x k) := pureOrc_ok (y13w k)
noncomputable def y13z (k : Nat) : Env := { P := Try.prog, tt := tt, orc := fun g => noOrc }
theorem y140 (k : Nat) : EnvOk (y13z k) := fun g => (noOrc_ok _ _)
noncomputable def y141 : Code := (Try.f52.body).getD .skip
noncomputable def y142 : Code := ((loopsIn 0 y141).getD 0 (0, .skip)).2
def y143 : List Nat := [0, 1, 5]
def y144 : List (Where × Co) := []
def y145 : Ex → List Nat
  | .exit j => cond (Nat.beq j 0) [] []
  | .ret => [4]
  | .normal => []
def y146 : Ex → List (Where × Co)
  | .exit j => cond (Nat.beq j 0) [] []
  | .ret => []
  | .normal => []
def y147 (pv : (List Int × List Int) × (Int)) : St := { slots := [(0, .r [] (.sl (.int .i64) pv.1.1)), (1, .r [] (.sl (.int .i64) pv.1.2)), (5, .r [] (.int .i64 pv.2))], heap := [], nid := 0, n := 26, gh := [] }
def y148 (nf : NF) : Option ((List Int × List Int) × (Int)) := match nf with
  | ([.r [] (.sl (.int .i64) w0), .r [] (.sl (.int .i64) w1), .r [] (.int .i64 w2)], [], []) => some ((w0, w1), w2)
  | _ => none
theorem y149 (nf : NF) (v : (List Int × List Int) × (Int)) (h : y148 nf = some v) : denorm y143 26 nf = y147 v := by
  unfold y148 at h
  split at h
  · cases h; rfl
  · cases h
def y14a (p : List Int × List Int) (x : Unit) : St := { slots := [], heap := [], nid := 0, n := 26, gh := [] }
def y14b (p : List Int × List Int) (x : Bool) : St := { slots := [(4, .r [] (.bool x))], heap := [], nid := 0, n := 26, gh := [] }
def y14c (ρ : Type) (k : Nat) : Nat → Ev ρ → Ev ρ := fun id f => cond (Nat.beq id 0) (loopOrc y143 y144 (fun n nf => cond (Nat.beq n 26) (y148 nf) none) fun pv K => iter (fun v next => L_eqIntS_g0 k pv.1 v next (fun x => K (.exit 0) (y14a pv.1 x)) (fun x => K .ret (y14b pv.1 x))) k pv.2) ((fun _ _ _ _ => none) id f)
theorem y14d {ρ : Type} (k : Nat) (p : List Int × List Int) (v : Int) (K K1 : Ex → St → Option ρ) : ev (y13z k) (y14c ρ k) 0 y142 (y147 (p, v)) (fun e st' => match e with
    | .normal => (normC y143 y144 st').bind fun nf => K1 .normal (denorm y143 st'.n nf)
    | e => (normC (y145 e) (y146 e) st').bind fun nf => K e (denorm (y145 e) st'.n nf)) = L_eqIntS_g0 k p v (fun v' => K1 .normal (y147 (p, v'))) (fun x => K (.exit 0) (y14a p x)) (fun x => K .ret (y14b p x)) := by kernel_rfl
theorem y14e {ρ : Type} (k : Nat) : Sound Try.prog (.loop y142) (y14c ρ k 0 fun st K => ev (y13z k) (y14c ρ k) 0 y142 st K) :=
  loop_ok (ev_sound (y140 k) y142 0 (lpgood_none (by kernel_rfl))) y145 y146 k (g := fun p v next K => L_eqIntS_g0 k p v next (fun x => K (.exit 0) (y14a p x)) (fun x => K .ret (y14b p x))) (dec_at y149) (fun p v K K1 => y14d k p v K K1)
def y14f (a : List Int × List Int) : List Arg := [.one (.sl (.int .i64) a.1), .one (.sl (.int .i64) a.2)]
def y14g (l : List Arg) : Option (List Int × List Int) := match l with
  | [.one (.sl (.int .i64) b0), .one (.sl (.int .i64) b1)] => some (b0, b1)
  | _ => none
def y14h (r : Bool) : Out := (.r [] (.bool r), [])
def y14i (o : Out) : Option (Bool) := match o with
  | (.r [] (.bool z1), []) => some z1
  | _ => none
def y14j (k : Nat) : PG := fun _ l K => (y14g l).bind fun a => (L_eqIntS k a.1 a.2).bind fun r => K (y14h r)
theorem y14k (k : Nat) (a : List Int × List Int) : ev (y13z k) (y14c (Bool) k) 0 y141 (st0 Try.f52 (y14f a)) (fin Try.prog Try.f52 (.sc) y14i) = L_eqIntS k a.1 a.2 := by kernel_rfl
theorem y14l (k : Nat) : PureOk Try.prog 52 (y14j k) :=
  pureOk_of_ev (y140 k) Try.func52 (by kernel_rfl) (by kernel_rfl) y14f y14g
    (fun l a h => by unfold y14g at h; split at h <;> first | (cases h; rfl) | cases h) (fun a => rfl) (lpgood_of (l := [(0, y142)]) (by kernel_rfl) ⟨y14e k, trivial⟩)
    (fun o r h => by unfold y14i at h; split at h <;> first | (cases h; rfl) | cases h) (y14k k)
def y14m (k : Nat) : Orc := pureOrc [.one (.sl (.int .i64)), .one (.sl (.int .i64))] (y14j k)
theorem y14n (k : Nat) : OrcOk Try.prog 52 (y14m k) := pureOrc_ok (y14l k)
noncomputable def y14o (k : Nat) : Env := { P := Try.prog, tt := tt, orc := fun g => cond (Nat.beq g 29) (y13x k) (cond (Nat.beq g 52) (y14m k) (noOrc)) }
theorem y14p (k : Nat) : EnvOk (y14o k) := fun g => (orc_cond (y13y k) (orc_cond (y14n k) (noOrc_ok _ _)))
noncomputable def y14q : Code := (Try.f28.body).getD .skip
def y14r (ρ : Type) (k : Nat) : Nat → Ev ρ → Ev ρ := fun _ _ _ _ => none
def y14s (a : Tensor × Tensor) : List Arg := [.agg [.int .i64 a.1.sh.h, .int .i64 a.1.sh.w, .int .i64 a.1.sh.c, .sl (.int .i64) a.1.data], .agg [.int .i64 a.2.sh.h, .int .i64 a.2.sh.w, .int .i64 a.2.sh.c, .sl (.int .i64) a.2.data]]
def y14t (l : List Arg) : Option (Tensor × Tensor) := match l with
  | [.agg [.int .i64 b0_0, .int .i64 b0_1, .int .i64 b0_2, .sl (.int .i64) b0_3], .agg [.int .i64 b1_0, .int .i64 b1_1, .int .i64 b1_2, .sl (.int .i64) b1_3]] => some ((⟨(⟨b0_0, b0_1, b0_2⟩ : Shape), b0_3⟩ : Tensor), (⟨(⟨b1_0, b1_1, b1_2⟩ : Shape), b1_3⟩ : Tensor))
  | _ => none
def y14u (r : Bool) : Out := (.r [] (.bool r), [])
def y14v (o : Out) : Option (Bool) := match o with
  | (.r [] (.bool z1), []) => some z1
  | _ => none
def y14w (k : Nat) : PG := fun _ l K => (y14t l).bind fun a => (L_eqTensor k a.1 a.2).bind fun r => K (y14u r)
theorem y14x (k : Nat) (a : Tensor × Tensor) : ev (y14o k) (y14r (Bool) k) 0 y14q (st0 Try.f28 (y14s a)) (fin Try.prog Try.f28 (.sc) y14v) = L_eqTensor k a.1 a.2 := by kernel_rfl
theorem y14y (k : Nat) : PureOk Try.prog 28 (y14w k) :=
  pureOk_of_ev (y14p k) Try.func28 (by kernel_rfl) (by kernel_rfl) y14s y14t
    (fun l a h => by unfold y14t at h; split at h <;> first | (cases h; rfl) | cases h) (fun a => rfl) (lpgood_none (by kernel_rfl))
    (fun o r h => by unfold y14v at h; split at h <;> first | (cases h; rfl) | cases h) (y14x k)
def y14z (k : Nat) : Orc := pureOrc [.agg [(.int .i64), (.int .i64), (.int .i64), (.sl (.int .i64))], .agg [(.int .i64), (.int .i64), (.int .i64), (.sl (.int .i64))]] (y14w k)
theorem y150 (k : Nat) : OrcOk Try.prog 28 (y14z k) := pureOrc_ok (y14y k)
noncomputable def y151 (k : Nat) : Env := { P := Try.prog, tt := tt, orc := fun g => cond (Nat.beq g 28) (y14z k) (noOrc) }
theorem y152 (k : Nat) : EnvOk (y151 k) := fun g => (orc_cond (y150 k) (noOrc_ok _ _))
noncomputable def y153 : Code := (Try.f11.body).getD .skip
noncomputable def y154 : Code := ((loopsIn 0 y153).getD 0 (0, .skip)).2
def y155 : List Nat := [0, 1, 5]
def y156 : List (Where × Co) := []
def y157 : Ex → List Nat
  | .exit j => cond (Nat.beq j 0) [] []
  | .ret => [4]
  | .normal => []
def y158 : Ex → List (Where × Co)
  | .exit j => cond (Nat.beq j 0) [] []
  | .ret => []
  | .normal => []
def y159 (pv : (List Tensor × List Tensor) × (Int)) : St := { slots := [(0, .r [] (.sl (.st .tensor) pv.1.1)), (1, .r [] (.sl (.st .tensor) pv.1.2)), (5, .r [] (.int .i64 pv.2))], heap := [], nid := 0, n := 27, gh := [] }
def y15a (nf : NF) : Option ((List Tensor × List Tensor) × (Int)) := match nf with
  | ([.r [] (.sl (.st .tensor) w0), .r [] (.sl (.st .tensor) w1), .r [] (.int .i64 w2)], [], []) => some ((w0, w1), w2)
  | _ => none
theorem y15b (nf : NF) (v : (List Tensor × List Tensor) × (Int)) (h : y15a nf = some v) : denorm y155 27 nf = y159 v := by
  unfold y15a at h
  split at h
  · cases h; rfl
  · cases h
def y15c (p : List Tensor × List Tensor) (x : Unit) : St := { slots := [], heap := [], nid := 0, n := 27, gh := [] }
def y15d (p : List Tensor × List Tensor) (x : Bool) : St := { slots := [(4, .r [] (.bool x))], heap := [], nid := 0, n := 27, gh := [] }
def y15e (ρ : Type) (k : Nat) : Nat → Ev ρ → Ev ρ := fun id f => cond (Nat.beq id 0) (loopOrc y155 y156 (fun n nf => cond (Nat.beq n 27) (y15a nf) none) fun pv K => iter (fun v next => L_eqTensorS_g0 k pv.1 v next (fun x => K (.exit 0) (y15c pv.1 x)) (fun x => K .ret (y15d pv.1 x))) k pv.2) ((fun _ _ _ _ => none) id f)
theorem y15f {ρ : Type} (k : Nat) (p : List Tensor × List Tensor) (v : Int) (K K1 : Ex → St → Option ρ) : ev (y151 k) (y15e ρ k) 0 y154 (y159 (p, v)) (fun e st' => match e with
    | .normal => (normC y155 y156 st').bind fun nf => K1 .normal (denorm y155 st'.n nf)
    | e => (normC (y157 e) (y158 e) st').bind fun nf => K e (denorm (y157 e) st'.n nf)) = L_eqTensorS_g0 k p v (fun v' => K1 .normal (y159 (p, v'))) (fun x => K (.exit 0) (y15c p x)) (fun x => K .ret (y15d p x)) := by kernel_rfl
theorem y15g {ρ : Type} (k : Nat) : Sound Try.prog (.loop y154) (y15e ρ k 0 fun st K => ev (y151 k) (y15e ρ k) 0 y154 st K) :=
  loop_ok (ev_sound (y152 k) y154 0 (lpgood_none (by kernel_rfl))) y157 y158 k (g := fun p v next K => L_eqTensorS_g0 k p v next (fun x => K (.exit 0) (y15c p x)) (fun x => K .ret (y15d p x))) (dec_at y15b) (fun p v K K1 => y15f k p v K K1)
def y15h (a : List Tensor × List Tensor) : List Arg := [.one (.sl (.st .tensor) a.1), .one (.sl (.st .tensor) a.2)]
def y15i (l : List Arg) : Option (List Tensor × List Tensor) := match l with
  | [.one (.sl (.st .tensor) b0), .one (.sl (.st .tensor) b1)] => some (b0, b1)
  | _ => none
def y15j (r : Bool) : Out := (.r [] (.bool r), [])
def y15k (o : Out) : Option (Bool) := match o with
  | (.r [] (.bool z1), []) => some z1
  | _ => none
def y15l (k : Nat) : PG := fun _ l K => (y15i l).bind fun a => (L_eqTensorS k a.1 a.2).bind fun r => K (y15j r)
theorem y15m (k : Nat) (a : List Tensor × List Tensor) : ev (y151 k) (y15e (Bool) k) 0 y153 (st0 Try.f11 (y15h a)) (fin Try.prog Try.f11 (.sc) y15k) = L_eqTensorS k a.1 a.2 := by kernel_rfl
theorem y15n (k : Nat) : PureOk Try.prog 11 (y15l k) :=
  pureOk_of_ev (y152 k) Try.func11 (by kernel_rfl) (by kernel_rfl) y15h y15i
    (fun l a h => by unfold y15i at h; split at h <;> first | (cases h; rfl) | cases h) (fun a => rfl) (lpgood_of (l := [(0, y154)]) (by kernel_rfl) ⟨y15g k, trivial⟩)
    (fun o r h => by unfold y15k at h; split at h <;> first | (cases h; rfl) | cases h) (y15m k)
def y15o (k : Nat) : Orc := pureOrc [.one (.sl (.st .tensor)), .one (.sl (.st .tensor))] (y15l k)
theorem y15p (k : Nat) : OrcOk Try.prog 11 (y15o k) := pureOrc_ok (y15n k)
noncomputable def y15q (k : Nat) : Env := { P := Try.prog, tt := tt, orc := fun g => cond (Nat.beq g 52) (y14m k) (noOrc) }
theorem y15r (k : Nat) : EnvOk (y15q k) := fun g => (orc_cond (y14n k) (noOrc_ok _ _))
noncomputable def y15s : Code := (Try.f53.body).getD .skip
def y15t (ρ : Type) (k : Nat) : Nat → Ev ρ → Ev ρ := fun _ _ _ _ => none
def y15u (a : Layer × Layer) : List Arg := [.agg [.int .i64 a.1.kind, .int .i64 a.1.out, .int .i64 a.1.size, .int .i64 a.1.step, .int .i64 a.1.mult, .int .i64 a.1.shift, .int .i64 a.1.zero, .sl (.int .i64) a.1.weights, .sl (.int .i64) a.1.bias], .agg [.int .i64 a.2.kind, .int .i64 a.2.out, .int .i64 a.2.size, .int .i64 a.2.step, .int .i64 a.2.mult, .int .i64 a.2.shift, .int .i64 a.2.zero, .sl (.int .i64) a.2.weights, .sl (.int .i64) a.2.bias]]
def y15v (l : List Arg) : Option (Layer × Layer) := match l with
  | [.agg [.int .i64 b0_0, .int .i64 b0_1, .int .i64 b0_2, .int .i64 b0_3, .int .i64 b0_4, .int .i64 b0_5, .int .i64 b0_6, .sl (.int .i64) b0_7, .sl (.int .i64) b0_8], .agg [.int .i64 b1_0, .int .i64 b1_1, .int .i64 b1_2, .int .i64 b1_3, .int .i64 b1_4, .int .i64 b1_5, .int .i64 b1_6, .sl (.int .i64) b1_7, .sl (.int .i64) b1_8]] => some ((⟨b0_0, b0_1, b0_2, b0_3, b0_4, b0_5, b0_6, b0_7, b0_8⟩ : Layer), (⟨b1_0, b1_1, b1_2, b1_3, b1_4, b1_5, b1_6, b1_7, b1_8⟩ : Layer))
  | _ => none
def y15w (r : Bool) : Out := (.r [] (.bool r), [])
def y15x (o : Out) : Option (Bool) := match o with
  | (.r [] (.bool z1), []) => some z1
  | _ => none
def y15y (k : Nat) : PG := fun _ l K => (y15v l).bind fun a => (L_eqLayer k a.1 a.2).bind fun r => K (y15w r)
theorem y15z (k : Nat) (a : Layer × Layer) : ev (y15q k) (y15t (Bool) k) 0 y15s (st0 Try.f53 (y15u a)) (fin Try.prog Try.f53 (.sc) y15x) = L_eqLayer k a.1 a.2 := by kernel_rfl
theorem y160 (k : Nat) : PureOk Try.prog 53 (y15y k) :=
  pureOk_of_ev (y15r k) Try.func53 (by kernel_rfl) (by kernel_rfl) y15u y15v
    (fun l a h => by unfold y15v at h; split at h <;> first | (cases h; rfl) | cases h) (fun a => rfl) (lpgood_none (by kernel_rfl))
    (fun o r h => by unfold y15x at h; split at h <;> first | (cases h; rfl) | cases h) (y15z k)
def y161 (k : Nat) : Orc := pureOrc [.agg [(.int .i64), (.int .i64), (.int .i64), (.int .i64), (.int .i64), (.int .i64), (.int .i64), (.sl (.int .i64)), (.sl (.int .i64))], .agg [(.int .i64), (.int .i64), (.int .i64), (.int .i64), (.int .i64), (.int .i64), (.int .i64), (.sl (.int .i64)), (.sl (.int .i64))]] (y15y k)
theorem y162 (k : Nat) : OrcOk Try.prog 53 (y161 k) := pureOrc_ok (y160 k)
noncomputable def y163 (k : Nat) : Env := { P := Try.prog, tt := tt, orc := fun g => cond (Nat.beq g 53) (y161 k) (noOrc) }
theorem y164 (k : Nat) : EnvOk (y163 k) := fun g => (orc_cond (y162 k) (noOrc_ok _ _))
noncomputable def y165 : Code := (Try.f30.body).getD .skip
noncomputable def y166 : Code := ((loopsIn 0 y165).getD 0 (0, .skip)).2
def y167 : List Nat := [0, 1, 5]
def y168 : List (Where × Co) := []
def y169 : Ex → List Nat
  | .exit j => cond (Nat.beq j 0) [] []
  | .ret => [4]
  | .normal => []
def y16a : Ex → List (Where × Co)
  | .exit j => cond (Nat.beq j 0) [] []
  | .ret => []
  | .normal => []
def y16b (pv : (List Layer × List Layer) × (Int)) : St := { slots := [(0, .r [] (.sl (.st .layer) pv.1.1)), (1, .r [] (.sl (.st .layer) pv.1.2)), (5, .r [] (.int .i64 pv.2))], heap := [], nid := 0, n := 27, gh := [] }
def y16c (nf : NF) : Option ((List Layer × List Layer) × (Int)) := match nf with
  | ([.r [] (.sl (.st .layer) w0), .r [] (.sl (.st .layer) w1), .r [] (.int .i64 w2)], [], []) => some ((w0, w1), w2)
  | _ => none
theorem y16d (nf : NF) (v : (List Layer × List Layer) × (Int)) (h : y16c nf = some v) : denorm y167 27 nf = y16b v := by
  unfold y16c at h
  split at h
  · cases h; rfl
  · cases h
def y16e (p : List Layer × List Layer) (x : Unit) : St := { slots := [], heap := [], nid := 0, n := 27, gh := [] }
def y16f (p : List Layer × List Layer) (x : Bool) : St := { slots := [(4, .r [] (.bool x))], heap := [], nid := 0, n := 27, gh := [] }
def y16g (ρ : Type) (k : Nat) : Nat → Ev ρ → Ev ρ := fun id f => cond (Nat.beq id 0) (loopOrc y167 y168 (fun n nf => cond (Nat.beq n 27) (y16c nf) none) fun pv K => iter (fun v next => L_eqLayerS_g0 k pv.1 v next (fun x => K (.exit 0) (y16e pv.1 x)) (fun x => K .ret (y16f pv.1 x))) k pv.2) ((fun _ _ _ _ => none) id f)
theorem y16h {ρ : Type} (k : Nat) (p : List Layer × List Layer) (v : Int) (K K1 : Ex → St → Option ρ) : ev (y163 k) (y16g ρ k) 0 y166 (y16b (p, v)) (fun e st' => match e with
    | .normal => (normC y167 y168 st').bind fun nf => K1 .normal (denorm y167 st'.n nf)
    | e => (normC (y169 e) (y16a e) st').bind fun nf => K e (denorm (y169 e) st'.n nf)) = L_eqLayerS_g0 k p v (fun v' => K1 .normal (y16b (p, v'))) (fun x => K (.exit 0) (y16e p x)) (fun x => K .ret (y16f p x)) := by kernel_rfl
theorem y16i {ρ : Type} (k : Nat) : Sound Try.prog (.loop y166) (y16g ρ k 0 fun st K => ev (y163 k) (y16g ρ k) 0 y166 st K) :=
  loop_ok (ev_sound (y164 k) y166 0 (lpgood_none (by kernel_rfl))) y169 y16a k (g := fun p v next K => L_eqLayerS_g0 k p v next (fun x => K (.exit 0) (y16e p x)) (fun x => K .ret (y16f p x))) (dec_at y16d) (fun p v K K1 => y16h k p v K K1)
def y16j (a : List Layer × List Layer) : List Arg := [.one (.sl (.st .layer) a.1), .one (.sl (.st .layer) a.2)]
def y16k (l : List Arg) : Option (List Layer × List Layer) := match l with
  | [.one (.sl (.st .layer) b0), .one (.sl (.st .layer) b1)] => some (b0, b1)
  | _ => none
def y16l (r : Bool) : Out := (.r [] (.bool r), [])
def y16m (o : Out) : Option (Bool) := match o with
  | (.r [] (.bool z1), []) => some z1
  | _ => none
def y16n (k : Nat) : PG := fun _ l K => (y16k l).bind fun a => (L_eqLayerS k a.1 a.2).bind fun r => K (y16l r)
theorem y16o (k : Nat) (a : List Layer × List Layer) : ev (y163 k) (y16g (Bool) k) 0 y165 (st0 Try.f30 (y16j a)) (fin Try.prog Try.f30 (.sc) y16m) = L_eqLayerS k a.1 a.2 := by kernel_rfl
theorem y16p (k : Nat) : PureOk Try.prog 30 (y16n k) :=
  pureOk_of_ev (y164 k) Try.func30 (by kernel_rfl) (by kernel_rfl) y16j y16k
    (fun l a h => by unfold y16k at h; split at h <;> first | (cases h; rfl) | cases h) (fun a => rfl) (lpgood_of (l := [(0, y166)]) (by kernel_rfl) ⟨y16i k, trivial⟩)
    (fun o r h => by unfold y16m at h; split at h <;> first | (cases h; rfl) | cases h) (y16o k)
def y16q (k : Nat) : Orc := pureOrc [.one (.sl (.st .layer)), .one (.sl (.st .layer))] (y16n k)
theorem y16r (k : Nat) : OrcOk Try.prog 30 (y16q k) := pureOrc_ok (y16p k)
noncomputable def y16s (k : Nat) : Env := { P := Try.prog, tt := tt, orc := fun g => cond (Nat.beq g 29) (y13x k) (cond (Nat.beq g 30) (y16q k) (noOrc)) }
theorem y16t (k : Nat) : EnvOk (y16s k) := fun g => (orc_cond (y13y k) (orc_cond (y16r k) (noOrc_ok _ _)))
noncomputable def y16u : Code := (Try.f12.body).getD .skip
def y16v (ρ : Type) (k : Nat) : Nat → Ev ρ → Ev ρ := fun _ _ _ _ => none
def y16w (a : Model × Model) : List Arg := [.agg [.int .i64 a.1.inp.h, .int .i64 a.1.inp.w, .int .i64 a.1.inp.c, .sl (.st .layer) a.1.layers], .agg [.int .i64 a.2.inp.h, .int .i64 a.2.inp.w, .int .i64 a.2.inp.c, .sl (.st .layer) a.2.layers]]
def y16x (l : List Arg) : Option (Model × Model) := match l with
  | [.agg [.int .i64 b0_0, .int .i64 b0_1, .int .i64 b0_2, .sl (.st .layer) b0_3], .agg [.int .i64 b1_0, .int .i64 b1_1, .int .i64 b1_2, .sl (.st .layer) b1_3]] => some ((⟨(⟨b0_0, b0_1, b0_2⟩ : Shape), b0_3⟩ : Model), (⟨(⟨b1_0, b1_1, b1_2⟩ : Shape), b1_3⟩ : Model))
  | _ => none
def y16y (r : Bool) : Out := (.r [] (.bool r), [])
def y16z (o : Out) : Option (Bool) := match o with
  | (.r [] (.bool z1), []) => some z1
  | _ => none
def y170 (k : Nat) : PG := fun _ l K => (y16x l).bind fun a => (L_eqModel k a.1 a.2).bind fun r => K (y16y r)
theorem y171 (k : Nat) (a : Model × Model) : ev (y16s k) (y16v (Bool) k) 0 y16u (st0 Try.f12 (y16w a)) (fin Try.prog Try.f12 (.sc) y16z) = L_eqModel k a.1 a.2 := by kernel_rfl
theorem y172 (k : Nat) : PureOk Try.prog 12 (y170 k) :=
  pureOk_of_ev (y16t k) Try.func12 (by kernel_rfl) (by kernel_rfl) y16w y16x
    (fun l a h => by unfold y16x at h; split at h <;> first | (cases h; rfl) | cases h) (fun a => rfl) (lpgood_none (by kernel_rfl))
    (fun o r h => by unfold y16z at h; split at h <;> first | (cases h; rfl) | cases h) (y171 k)
def y173 (k : Nat) : Orc := pureOrc [.agg [(.int .i64), (.int .i64), (.int .i64), (.sl (.st .layer))], .agg [(.int .i64), (.int .i64), (.int .i64), (.sl (.st .layer))]] (y170 k)
theorem y174 (k : Nat) : OrcOk Try.prog 12 (y173 k) := pureOrc_ok (y172 k)
noncomputable def y175 (k : Nat) : Env := { P := Try.prog, tt := tt, orc := fun g => noOrc }
theorem y176 (k : Nat) : EnvOk (y175 k) := fun g => (noOrc_ok _ _)
noncomputable def y177 : Code := (Try.f32.body).getD .skip
noncomputable def y178 : Code := ((loopsIn 0 y177).getD 0 (0, .skip)).2
def y179 : List Nat := [0, 1, 5]
def y17a : List (Where × Co) := []
def y17b : Ex → List Nat
  | .exit j => cond (Nat.beq j 0) [1] []
  | .ret => []
  | .normal => []
def y17c : Ex → List (Where × Co)
  | .exit j => cond (Nat.beq j 0) [] []
  | .ret => []
  | .normal => []
def y17d (pv : (Unit) × (Int × Int × List Int)) : St := { slots := [(0, .own 0), (1, .r [] (.int .i64 pv.2.1)), (5, .r [] (.int .i64 pv.2.2.1))], heap := [(0, .arr none (.int .i64) pv.2.2.2)], nid := 1, n := 19, gh := [some 0] }
def y17e (nf : NF) : Option ((Unit) × (Int × Int × List Int)) := match nf with
  | ([.own 0, .r [] (.int .i64 w0), .r [] (.int .i64 w1)], [.arr none (.int .i64) w2], [some 0]) => some ((), (w0, w1, w2))
  | _ => none
theorem y17f (nf : NF) (v : (Unit) × (Int × Int × List Int)) (h : y17e nf = some v) : denorm y179 19 nf = y17d v := by
  unfold y17e at h
  split at h
  · cases h; rfl
  · cases h
def y17g (p : Unit) (x : Int × List Int) : St := { slots := [(1, .r [] (.int .i64 x.1))], heap := [(0, .arr none (.int .i64) x.2)], nid := 1, n := 19, gh := [some 0] }
def y17h (ρ : Type) (k : Nat) : Nat → Ev ρ → Ev ρ := fun id f => cond (Nat.beq id 0) (loopOrc y179 y17a (fun n nf => cond (Nat.beq n 19) (y17e nf) none) fun pv K => iter (fun v next => L_markIntS_m3_g0 k pv.1 v next (fun x => K (.exit 0) (y17g pv.1 x))) k pv.2) ((fun _ _ _ _ => none) id f)
theorem y17i {ρ : Type} (k : Nat) (p : Unit) (v : Int × Int × List Int) (K K1 : Ex → St → Option ρ) : ev (y175 k) (y17h ρ k) 0 y178 (y17d (p, v)) (fun e st' => match e with
    | .normal => (normC y179 y17a st').bind fun nf => K1 .normal (denorm y179 st'.n nf)
    | e => (normC (y17b e) (y17c e) st').bind fun nf => K e (denorm (y17b e) st'.n nf)) = L_markIntS_m3_g0 k p v (fun v' => K1 .normal (y17d (p, v'))) (fun x => K (.exit 0) (y17g p x)) := by kernel_rfl
theorem y17j {ρ : Type} (k : Nat) : Sound Try.prog (.loop y178) (y17h ρ k 0 fun st K => ev (y175 k) (y17h ρ k) 0 y178 st K) :=
  loop_ok (ev_sound (y176 k) y178 0 (lpgood_none (by kernel_rfl))) y17b y17c k (g := fun p v next K => L_markIntS_m3_g0 k p v next (fun x => K (.exit 0) (y17g p x))) (dec_at y17f) (fun p v K K1 => y17i k p v K K1)
def y17k (a : List Int × Int) : List SV := [.own 0, .r [] (.int .i64 a.2)]
def y17l (a : List Int × Int) : List Blk := [.arr none (.int .i64) a.1]
def y17m (l : List SV) (b : List Blk) : Option (List Int × Int) := match l, b with
  | [.own 0, .r [] (.int .i64 w0)], [.arr none (.int .i64) w1] => some (w1, w0)
  | _, _ => none
def y17n (a : List Int × Int) (r : Int × List Int) : MOut := ⟨.r [] (.int .i64 r.1), [some (.arr none (.int .i64) r.2)], []⟩
def y17o (a : List Int × Int) (o : MOut) : Option (Int × List Int) := match o with
  | ⟨.r [] (.int .i64 z1), [some (.arr none (.int .i64) z2)], []⟩ => some (z1, z2)
  | _ => none
def y17p (k : Nat) : MG := fun _ l b K => (y17m l b).bind fun a => (L_markIntS_m3 k a.1 a.2).bind fun r => K (y17n a r)
theorem y17q (k : Nat) (a : List Int × Int) : ev (y175 k) (y17h (Int × List Int) k) 0 y177 (st0M Try.f32 (y17k a) (y17l a)) (finM Try.prog Try.f32 (.sc) [.arr] (y17o a)) = L_markIntS_m3 k a.1 a.2 := by kernel_rfl
theorem y17r (k : Nat) : MutOk Try.prog 32 (y17p k) :=
  mutOk_of_ev (y176 k) Try.func32 (by kernel_rfl) (by kernel_rfl) y17k y17l y17m
    (fun l b a h => by unfold y17m at h; split at h <;> first | (cases h; exact ⟨rfl, rfl⟩) | cases h) (fun a => rfl) (lpgood_of (l := [(0, y178)]) (by kernel_rfl) ⟨y17j k, trivial⟩) (fun a r => rfl)
    (fun a o r h => by unfold y17o at h; split at h <;> first | (skip; cases h; rfl) | cases h) (y17q k)
def y17s (k : Nat) : Orc := mutOrc [.keep, .keep] (y17p k)
theorem y17t (k : Nat) : OrcOk Try.prog 32 (y17s k) := mutOrc_ok (y17r k)
noncomputable def y17u (k : Nat) : Env := { P := Try.prog, tt := tt, orc := fun g => cond (Nat.beq g 32) (innOrc (y17s k)) (noOrc), wr := fun g => mem g [32], wt := true, inn := true }
theorem y17v (k : Nat) : EnvOk (y17u k) := fun g => (orc_cond (innOrc_ok (y17t k)) (noOrc_ok _ _))
noncomputable def y17w : Code := (Try.f31.body).getD .skip
noncomputable def y17x : Code := ((loopsIn 0 y17w).getD 0 (0, .skip)).2
def y17y : List Nat := [0, 1, 5]
def y17z : List (Where × Co) := []
def y180 : Ex → List Nat
  | .exit j => cond (Nat.beq j 0) [1] []
  | .ret => []
  | .normal => []
def y181 : Ex → List (Where × Co)
  | .exit j => cond (Nat.beq j 0) [] []
  | .ret => []
  | .normal => []
def y182 (pv : (Unit) × (Int × Int × List Layer)) : St := { slots := [(0, .own 0), (1, .r [] (.int .i64 pv.2.1)), (5, .r [] (.int .i64 pv.2.2.1))], heap := [(0, .arr none (.st .layer) pv.2.2.2)], nid := 1, n := 76, gh := [some 0] }
def y183 (nf : NF) : Option ((Unit) × (Int × Int × List Layer)) := match nf with
  | ([.own 0, .r [] (.int .i64 w0), .r [] (.int .i64 w1)], [.arr none (.st .layer) w2], [some 0]) => some ((), (w0, w1, w2))
  | _ => none
theorem y184 (nf : NF) (v : (Unit) × (Int × Int × List Layer)) (h : y183 nf = some v) : denorm y17y 76 nf = y182 v := by
  unfold y183 at h
  split at h
  · cases h; rfl
  · cases h
def y185 (p : Unit) (x : Int × List Layer) : St := { slots := [(1, .r [] (.int .i64 x.1))], heap := [(0, .arr none (.st .layer) x.2)], nid := 1, n := 76, gh := [some 0] }
def y186 (ρ : Type) (k : Nat) : Nat → Ev ρ → Ev ρ := fun id f => cond (Nat.beq id 0) (loopOrc y17y y17z (fun n nf => cond (Nat.beq n 76) (y183 nf) none) fun pv K => iter (fun v next => L_markLayerS_m3_g0 k pv.1 v next (fun x => K (.exit 0) (y185 pv.1 x))) k pv.2) ((fun _ _ _ _ => none) id f)
theorem y187 {ρ : Type} (k : Nat) (p : Unit) (v : Int × Int × List Layer) (K K1 : Ex → St → Option ρ) : ev (y17u k) (y186 ρ k) 0 y17x (y182 (p, v)) (fun e st' => match e with
    | .normal => (normC y17y y17z st').bind fun nf => K1 .normal (denorm y17y st'.n nf)
    | e => (normC (y180 e) (y181 e) st').bind fun nf => K e (denorm (y180 e) st'.n nf)) = L_markLayerS_m3_g0 k p v (fun v' => K1 .normal (y182 (p, v'))) (fun x => K (.exit 0) (y185 p x)) := by kernel_rfl
theorem y188 {ρ : Type} (k : Nat) : Sound Try.prog (.loop y17x) (y186 ρ k 0 fun st K => ev (y17u k) (y186 ρ k) 0 y17x st K) :=
  loop_ok (ev_sound (y17v k) y17x 0 (lpgood_none (by kernel_rfl))) y180 y181 k (g := fun p v next K => L_markLayerS_m3_g0 k p v next (fun x => K (.exit 0) (y185 p x))) (dec_at y184) (fun p v K K1 => y187 k p v K K1)
def y189 (a : List Layer × Int) : List SV := [.own 0, .r [] (.int .i64 a.2)]
def y18a (a : List Layer × Int) : List Blk := [.arr none (.st .layer) a.1]
def y18b (l : List SV) (b : List Blk) : Option (List Layer × Int) := match l, b with
  | [.own 0, .r [] (.int .i64 w0)], [.arr none (.st .layer) w1] => some (w1, w0)
  | _, _ => none
def y18c (a : List Layer × Int) (r : Int × List Layer) : MOut := ⟨.r [] (.int .i64 r.1), [some (.arr none (.st .layer) r.2)], []⟩
def y18d (a : List Layer × Int) (o : MOut) : Option (Int × List Layer) := match o with
  | ⟨.r [] (.int .i64 z1), [some (.arr none (.st .layer) z2)], []⟩ => some (z1, z2)
  | _ => none
def y18e (k : Nat) : MG := fun _ l b K => (y18b l b).bind fun a => (L_markLayerS_m3 k a.1 a.2).bind fun r => K (y18c a r)
theorem y18f (k : Nat) (a : List Layer × Int) : ev (y17u k) (y186 (Int × List Layer) k) 0 y17w (st0M Try.f31 (y189 a) (y18a a)) (finM Try.prog Try.f31 (.sc) [.arr] (y18d a)) = L_markLayerS_m3 k a.1 a.2 := by kernel_rfl
theorem y18g (k : Nat) : MutOk Try.prog 31 (y18e k) :=
  mutOk_of_ev (y17v k) Try.func31 (by kernel_rfl) (by kernel_rfl) y189 y18a y18b
    (fun l b a h => by unfold y18b at h; split at h <;> first | (cases h; exact ⟨rfl, rfl⟩) | cases h) (fun a => rfl) (lpgood_of (l := [(0, y17x)]) (by kernel_rfl) ⟨y188 k, trivial⟩) (fun a r => rfl)
    (fun a o r h => by unfold y18d at h; split at h <;> first | (skip; cases h; rfl) | cases h) (y18f k)
def y18h (k : Nat) : Orc := mutOrc [.keep, .keep] (y18e k)
theorem y18i (k : Nat) : OrcOk Try.prog 31 (y18h k) := mutOrc_ok (y18g k)
noncomputable def y18j (k : Nat) : Env := { P := Try.prog, tt := tt, orc := fun g => cond (Nat.beq g 31) (y18h k) (noOrc), wr := fun g => mem g [31], wt := true }
theorem y18k (k : Nat) : EnvOk (y18j k) := fun g => (orc_cond (y18i k) (noOrc_ok _ _))
noncomputable def y18l : Code := (Try.f13.body).getD .skip
def y18m (ρ : Type) (k : Nat) : Nat → Ev ρ → Ev ρ := fun _ _ _ _ => none
def y18n (a : Model × Int) : List SV := [.agg [.r [] (.int .i64 a.1.inp.h), .r [] (.int .i64 a.1.inp.w), .r [] (.int .i64 a.1.inp.c), .own 0], .r [] (.int .i64 a.2)]
def y18o (a : Model × Int) : List Blk := [.arr none (.st .layer) a.1.layers]
def y18p (l : List SV) (b : List Blk) : Option (Model × Int) := match l, b with
  | [.agg [.r [] (.int .i64 w0), .r [] (.int .i64 w1), .r [] (.int .i64 w2), .own 0], .r [] (.int .i64 w3)], [.arr none (.st .layer) w4] => some ((⟨(⟨w0, w1, w2⟩ : Shape), w4⟩ : Model), w3)
  | _, _ => none
def y18q (a : Model × Int) (r : Int × List Layer) : MOut := ⟨.r [] (.int .i64 r.1), [some (.arr none (.st .layer) r.2)], []⟩
def y18r (a : Model × Int) (o : MOut) : Option (Int × List Layer) := match o with
  | ⟨.r [] (.int .i64 z1), [some (.arr none (.st .layer) z2)], []⟩ => some (z1, z2)
  | _ => none
def y18s (k : Nat) : MG := fun _ l b K => (y18p l b).bind fun a => (L_markModel_m2 k a.1 a.2).bind fun r => K (y18q a r)
theorem y18t (k : Nat) (a : Model × Int) : ev (y18j k) (y18m (Int × List Layer) k) 0 y18l (st0M Try.f13 (y18n a) (y18o a)) (finM Try.prog Try.f13 (.sc) [.arr] (y18r a)) = L_markModel_m2 k a.1 a.2 := by kernel_rfl
theorem y18u (k : Nat) : MutOk Try.prog 13 (y18s k) :=
  mutOk_of_ev (y18k k) Try.func13 (by kernel_rfl) (by kernel_rfl) y18n y18o y18p
    (fun l b a h => by unfold y18p at h; split at h <;> first | (cases h; exact ⟨rfl, rfl⟩) | cases h) (fun a => rfl) (lpgood_none (by kernel_rfl)) (fun a r => rfl)
    (fun a o r h => by unfold y18r at h; split at h <;> first | (skip; cases h; rfl) | cases h) (y18t k)
def y18v (k : Nat) : Orc := mutOrc [.keep, .keep] (y18s k)
theorem y18w (k : Nat) : OrcOk Try.prog 13 (y18v k) := mutOrc_ok (y18u k)
noncomputable def y18x (k : Nat) : Env := { P := Try.prog, tt := tt, orc := fun g => cond (Nat.beq g 32) (innOrc (y17s k)) (noOrc), wr := fun g => mem g [32], wt := true, inn := true }
theorem y18y (k : Nat) : EnvOk (y18x k) := fun g => (orc_cond (innOrc_ok (y17t k)) (noOrc_ok _ _))
noncomputable def y18z : Code := (Try.f14.body).getD .skip
noncomputable def y190 : Code := ((loopsIn 0 y18z).getD 0 (0, .skip)).2
def y191 : List Nat := [0, 1, 5]
def y192 : List (Where × Co) := []
def y193 : Ex → List Nat
  | .exit j => cond (Nat.beq j 0) [1] []
  | .ret => []
  | .normal => []
def y194 : Ex → List (Where × Co)
  | .exit j => cond (Nat.beq j 0) [] []
  | .ret => []
  | .normal => []
def y195 (pv : (Unit) × (Int × Int × List Tensor)) : St := { slots := [(0, .own 0), (1, .r [] (.int .i64 pv.2.1)), (5, .r [] (.int .i64 pv.2.2.1))], heap := [(0, .arr none (.st .tensor) pv.2.2.2)], nid := 1, n := 44, gh := [some 0] }
def y196 (nf : NF) : Option ((Unit) × (Int × Int × List Tensor)) := match nf with
  | ([.own 0, .r [] (.int .i64 w0), .r [] (.int .i64 w1)], [.arr none (.st .tensor) w2], [some 0]) => some ((), (w0, w1, w2))
  | _ => none
theorem y197 (nf : NF) (v : (Unit) × (Int × Int × List Tensor)) (h : y196 nf = some v) : denorm y191 44 nf = y195 v := by
  unfold y196 at h
  split at h
  · cases h; rfl
  · cases h
def y198 (p : Unit) (x : Int × List Tensor) : St := { slots := [(1, .r [] (.int .i64 x.1))], heap := [(0, .arr none (.st .tensor) x.2)], nid := 1, n := 44, gh := [some 0] }
def y199 (ρ : Type) (k : Nat) : Nat → Ev ρ → Ev ρ := fun id f => cond (Nat.beq id 0) (loopOrc y191 y192 (fun n nf => cond (Nat.beq n 44) (y196 nf) none) fun pv K => iter (fun v next => L_markTensorS_m2_g0 k pv.1 v next (fun x => K (.exit 0) (y198 pv.1 x))) k pv.2) ((fun _ _ _ _ => none) id f)
theorem y19a {ρ : Type} (k : Nat) (p : Unit) (v : Int × Int × List Tensor) (K K1 : Ex → St → Option ρ) : ev (y18x k) (y199 ρ k) 0 y190 (y195 (p, v)) (fun e st' => match e with
    | .normal => (normC y191 y192 st').bind fun nf => K1 .normal (denorm y191 st'.n nf)
    | e => (normC (y193 e) (y194 e) st').bind fun nf => K e (denorm (y193 e) st'.n nf)) = L_markTensorS_m2_g0 k p v (fun v' => K1 .normal (y195 (p, v'))) (fun x => K (.exit 0) (y198 p x)) := by kernel_rfl
theorem y19b {ρ : Type} (k : Nat) : Sound Try.prog (.loop y190) (y199 ρ k 0 fun st K => ev (y18x k) (y199 ρ k) 0 y190 st K) :=
  loop_ok (ev_sound (y18y k) y190 0 (lpgood_none (by kernel_rfl))) y193 y194 k (g := fun p v next K => L_markTensorS_m2_g0 k p v next (fun x => K (.exit 0) (y198 p x))) (dec_at y197) (fun p v K K1 => y19a k p v K K1)
def y19c (a : List Tensor × Int) : List SV := [.own 0, .r [] (.int .i64 a.2)]
def y19d (a : List Tensor × Int) : List Blk := [.arr none (.st .tensor) a.1]
def y19e (l : List SV) (b : List Blk) : Option (List Tensor × Int) := match l, b with
  | [.own 0, .r [] (.int .i64 w0)], [.arr none (.st .tensor) w1] => some (w1, w0)
  | _, _ => none
def y19f (a : List Tensor × Int) (r : Int × List Tensor) : MOut := ⟨.r [] (.int .i64 r.1), [some (.arr none (.st .tensor) r.2)], []⟩
def y19g (a : List Tensor × Int) (o : MOut) : Option (Int × List Tensor) := match o with
  | ⟨.r [] (.int .i64 z1), [some (.arr none (.st .tensor) z2)], []⟩ => some (z1, z2)
  | _ => none
def y19h (k : Nat) : MG := fun _ l b K => (y19e l b).bind fun a => (L_markTensorS_m2 k a.1 a.2).bind fun r => K (y19f a r)
theorem y19i (k : Nat) (a : List Tensor × Int) : ev (y18x k) (y199 (Int × List Tensor) k) 0 y18z (st0M Try.f14 (y19c a) (y19d a)) (finM Try.prog Try.f14 (.sc) [.arr] (y19g a)) = L_markTensorS_m2 k a.1 a.2 := by kernel_rfl
theorem y19j (k : Nat) : MutOk Try.prog 14 (y19h k) :=
  mutOk_of_ev (y18y k) Try.func14 (by kernel_rfl) (by kernel_rfl) y19c y19d y19e
    (fun l b a h => by unfold y19e at h; split at h <;> first | (cases h; exact ⟨rfl, rfl⟩) | cases h) (fun a => rfl) (lpgood_of (l := [(0, y190)]) (by kernel_rfl) ⟨y19b k, trivial⟩) (fun a r => rfl)
    (fun a o r h => by unfold y19g at h; split at h <;> first | (skip; cases h; rfl) | cases h) (y19i k)
def y19k (k : Nat) : Orc := mutOrc [.keep, .keep] (y19h k)
theorem y19l (k : Nat) : OrcOk Try.prog 14 (y19k k) := mutOrc_ok (y19j k)
noncomputable def y19m (k : Nat) : Env := { P := Try.prog, tt := tt, orc := fun g => noOrc }
theorem y19n (k : Nat) : EnvOk (y19m k) := fun g => (noOrc_ok _ _)
noncomputable def y19o : Code := (Try.f33.body).getD .skip
noncomputable def y19p : Code := ((loopsIn 0 y19o).getD 0 (0, .skip)).2
def y19q : List Nat := [0, 1, 5]
def y19r : List (Where × Co) := []
def y19s : Ex → List Nat
  | .exit j => cond (Nat.beq j 0) [1] []
  | .ret => [4]
  | .normal => []
def y19t : Ex → List (Where × Co)
  | .exit j => cond (Nat.beq j 0) [] []
  | .ret => []
  | .normal => []
def y19u (pv : (List Int) × (Int × Int)) : St := { slots := [(0, .r [] (.sl (.int .i64) pv.1)), (1, .r [] (.int .i64 pv.2.1)), (5, .r [] (.int .i64 pv.2.2))], heap := [], nid := 0, n := 21, gh := [] }
def y19v (nf : NF) : Option ((List Int) × (Int × Int)) := match nf with
  | ([.r [] (.sl (.int .i64) w0), .r [] (.int .i64 w1), .r [] (.int .i64 w2)], [], []) => some (w0, (w1, w2))
  | _ => none
theorem y19w (nf : NF) (v : (List Int) × (Int × Int)) (h : y19v nf = some v) : denorm y19q 21 nf = y19u v := by
  unfold y19v at h
  split at h
  · cases h; rfl
  · cases h
def y19x (p : List Int) (x : Int) : St := { slots := [(1, .r [] (.int .i64 x))], heap := [], nid := 0, n := 21, gh := [] }
def y19y (p : List Int) (x : Int) : St := { slots := [(4, .r [] (.int .i64 x))], heap := [], nid := 0, n := 21, gh := [] }
def y19z (ρ : Type) (k : Nat) : Nat → Ev ρ → Ev ρ := fun id f => cond (Nat.beq id 0) (loopOrc y19q y19r (fun n nf => cond (Nat.beq n 21) (y19v nf) none) fun pv K => iter (fun v next => L_heldIntS_g0 k pv.1 v next (fun x => K (.exit 0) (y19x pv.1 x)) (fun x => K .ret (y19y pv.1 x))) k pv.2) ((fun _ _ _ _ => none) id f)
theorem y1a0 {ρ : Type} (k : Nat) (p : List Int) (v : Int × Int) (K K1 : Ex → St → Option ρ) : ev (y19m k) (y19z ρ k) 0 y19p (y19u (p, v)) (fun e st' => match e with
    | .normal => (normC y19q y19r st').bind fun nf => K1 .normal (denorm y19q st'.n nf)
    | e => (normC (y19s e) (y19t e) st').bind fun nf => K e (denorm (y19s e) st'.n nf)) = L_heldIntS_g0 k p v (fun v' => K1 .normal (y19u (p, v'))) (fun x => K (.exit 0) (y19x p x)) (fun x => K .ret (y19y p x)) := by kernel_rfl
theorem y1a1 {ρ : Type} (k : Nat) : Sound Try.prog (.loop y19p) (y19z ρ k 0 fun st K => ev (y19m k) (y19z ρ k) 0 y19p st K) :=
  loop_ok (ev_sound (y19n k) y19p 0 (lpgood_none (by kernel_rfl))) y19s y19t k (g := fun p v next K => L_heldIntS_g0 k p v next (fun x => K (.exit 0) (y19x p x)) (fun x => K .ret (y19y p x))) (dec_at y19w) (fun p v K K1 => y1a0 k p v K K1)
def y1a2 (a : List Int × Int) : List Arg := [.one (.sl (.int .i64) a.1), .one (.int .i64 a.2)]
def y1a3 (l : List Arg) : Option (List Int × Int) := match l with
  | [.one (.sl (.int .i64) b0), .one (.int .i64 b1)] => some (b0, b1)
  | _ => none
def y1a4 (r : Int) : Out := (.r [] (.int .i64 r), [])
def y1a5 (o : Out) : Option (Int) := match o with
  | (.r [] (.int .i64 z1), []) => some z1
  | _ => none
def y1a6 (k : Nat) : PG := fun _ l K => (y1a3 l).bind fun a => (L_heldIntS k a.1 a.2).bind fun r => K (y1a4 r)
theorem y1a7 (k : Nat) (a : List Int × Int) : ev (y19m k) (y19z (Int) k) 0 y19o (st0 Try.f33 (y1a2 a)) (fin Try.prog Try.f33 (.sc) y1a5) = L_heldIntS k a.1 a.2 := by kernel_rfl
theorem y1a8 (k : Nat) : PureOk Try.prog 33 (y1a6 k) :=
  pureOk_of_ev (y19n k) Try.func33 (by kernel_rfl) (by kernel_rfl) y1a2 y1a3
    (fun l a h => by unfold y1a3 at h; split at h <;> first | (cases h; rfl) | cases h) (fun a => rfl) (lpgood_of (l := [(0, y19p)]) (by kernel_rfl) ⟨y1a1 k, trivial⟩)
    (fun o r h => by unfold y1a5 at h; split at h <;> first | (cases h; rfl) | cases h) (y1a7 k)
def y1a9 (k : Nat) : Orc := pureOrc [.one (.sl (.int .i64)), .one (.int .i64)] (y1a6 k)
theorem y1aa (k : Nat) : OrcOk Try.prog 33 (y1a9 k) := pureOrc_ok (y1a8 k)
noncomputable def y1ab (k : Nat) : Env := { P := Try.prog, tt := tt, orc := fun g => cond (Nat.beq g 33) (y1a9 k) (noOrc) }
theorem y1ac (k : Nat) : EnvOk (y1ab k) := fun g => (orc_cond (y1aa k) (noOrc_ok _ _))
noncomputable def y1ad : Code := (Try.f15.body).getD .skip
noncomputable def y1ae : Code := ((loopsIn 0 y1ad).getD 0 (0, .skip)).2
def y1af : List Nat := [0, 1, 5]
def y1ag : List (Where × Co) := []
def y1ah : Ex → List Nat
  | .exit j => cond (Nat.beq j 0) [1] []
  | .ret => [4]
  | .normal => []
def y1ai : Ex → List (Where × Co)
  | .exit j => cond (Nat.beq j 0) [] []
  | .ret => []
  | .normal => []
def y1aj (pv : (List Tensor) × (Int × Int)) : St := { slots := [(0, .r [] (.sl (.st .tensor) pv.1)), (1, .r [] (.int .i64 pv.2.1)), (5, .r [] (.int .i64 pv.2.2))], heap := [], nid := 0, n := 52, gh := [] }
def y1ak (nf : NF) : Option ((List Tensor) × (Int × Int)) := match nf with
  | ([.r [] (.sl (.st .tensor) w0), .r [] (.int .i64 w1), .r [] (.int .i64 w2)], [], []) => some (w0, (w1, w2))
  | _ => none
theorem y1al (nf : NF) (v : (List Tensor) × (Int × Int)) (h : y1ak nf = some v) : denorm y1af 52 nf = y1aj v := by
  unfold y1ak at h
  split at h
  · cases h; rfl
  · cases h
def y1am (p : List Tensor) (x : Int) : St := { slots := [(1, .r [] (.int .i64 x))], heap := [], nid := 0, n := 52, gh := [] }
def y1an (p : List Tensor) (x : Int) : St := { slots := [(4, .r [] (.int .i64 x))], heap := [], nid := 0, n := 52, gh := [] }
def y1ao (ρ : Type) (k : Nat) : Nat → Ev ρ → Ev ρ := fun id f => cond (Nat.beq id 0) (loopOrc y1af y1ag (fun n nf => cond (Nat.beq n 52) (y1ak nf) none) fun pv K => iter (fun v next => L_heldTensorS_g0 k pv.1 v next (fun x => K (.exit 0) (y1am pv.1 x)) (fun x => K .ret (y1an pv.1 x))) k pv.2) ((fun _ _ _ _ => none) id f)
theorem y1ap {ρ : Type} (k : Nat) (p : List Tensor) (v : Int × Int) (K K1 : Ex → St → Option ρ) : ev (y1ab k) (y1ao ρ k) 0 y1ae (y1aj (p, v)) (fun e st' => match e with
    | .normal => (normC y1af y1ag st').bind fun nf => K1 .normal (denorm y1af st'.n nf)
    | e => (normC (y1ah e) (y1ai e) st').bind fun nf => K e (denorm (y1ah e) st'.n nf)) = L_heldTensorS_g0 k p v (fun v' => K1 .normal (y1aj (p, v'))) (fun x => K (.exit 0) (y1am p x)) (fun x => K .ret (y1an p x)) := by kernel_rfl
theorem y1aq {ρ : Type} (k : Nat) : Sound Try.prog (.loop y1ae) (y1ao ρ k 0 fun st K => ev (y1ab k) (y1ao ρ k) 0 y1ae st K) :=
  loop_ok (ev_sound (y1ac k) y1ae 0 (lpgood_none (by kernel_rfl))) y1ah y1ai k (g := fun p v next K => L_heldTensorS_g0 k p v next (fun x => K (.exit 0) (y1am p x)) (fun x => K .ret (y1an p x))) (dec_at y1al) (fun p v K K1 => y1ap k p v K K1)
def y1ar (a : List Tensor × Int) : List Arg := [.one (.sl (.st .tensor) a.1), .one (.int .i64 a.2)]
def y1as (l : List Arg) : Option (List Tensor × Int) := match l with
  | [.one (.sl (.st .tensor) b0), .one (.int .i64 b1)] => some (b0, b1)
  | _ => none
def y1at (r : Int) : Out := (.r [] (.int .i64 r), [])
def y1au (o : Out) : Option (Int) := match o with
  | (.r [] (.int .i64 z1), []) => some z1
  | _ => none
def y1av (k : Nat) : PG := fun _ l K => (y1as l).bind fun a => (L_heldTensorS k a.1 a.2).bind fun r => K (y1at r)
theorem y1aw (k : Nat) (a : List Tensor × Int) : ev (y1ab k) (y1ao (Int) k) 0 y1ad (st0 Try.f15 (y1ar a)) (fin Try.prog Try.f15 (.sc) y1au) = L_heldTensorS k a.1 a.2 := by kernel_rfl
theorem y1ax (k : Nat) : PureOk Try.prog 15 (y1av k) :=
  pureOk_of_ev (y1ac k) Try.func15 (by kernel_rfl) (by kernel_rfl) y1ar y1as
    (fun l a h => by unfold y1as at h; split at h <;> first | (cases h; rfl) | cases h) (fun a => rfl) (lpgood_of (l := [(0, y1ae)]) (by kernel_rfl) ⟨y1aq k, trivial⟩)
    (fun o r h => by unfold y1au at h; split at h <;> first | (cases h; rfl) | cases h) (y1aw k)
def y1ay (k : Nat) : Orc := pureOrc [.one (.sl (.st .tensor)), .one (.int .i64)] (y1av k)
theorem y1az (k : Nat) : OrcOk Try.prog 15 (y1ay k) := pureOrc_ok (y1ax k)
noncomputable def y1b0 (k : Nat) : Env := { P := Try.prog, tt := tt, orc := fun g => cond (Nat.beq g 5) (y2a k) (cond (Nat.beq g 6) (y3d k) (cond (Nat.beq g 7) (ym8 k) (cond (Nat.beq g 8) (y5s k) (cond (Nat.beq g 9) (y6t k) (cond (Nat.beq g 10) (y13k k) (cond (Nat.beq g 11) (y15o k) (cond (Nat.beq g 12) (y173 k) (cond (Nat.beq g 13) (y18v k) (cond (Nat.beq g 14) (y19k k) (cond (Nat.beq g 15) (y1ay k) (noOrc))))))))))), wr := fun g => mem g [13, 14], wt := true }
theorem y1b1 (k : Nat) : EnvOk (y1b0 k) := fun g => (orc_cond (y2b k) (orc_cond (y3e k) (orc_cond (ym9 k) (orc_cond (y5t k) (orc_cond (y6u k) (orc_cond (y13l k) (orc_cond (y15p k) (orc_cond (y174 k) (orc_cond (y18w k) (orc_cond (y19l k) (orc_cond (y1az k) (noOrc_ok _ _))))))))))))
noncomputable def y1b2 : Code := (Try.f3.body).getD .skip
def y1b3 (ρ : Type) (k : Nat) : Nat → Ev ρ → Ev ρ := fun _ _ _ _ => none
def y1b4 (a : Model × List Tensor) : List Arg := [.agg [.int .i64 a.1.inp.h, .int .i64 a.1.inp.w, .int .i64 a.1.inp.c, .sl (.st .layer) a.1.layers], .one (.sl (.st .tensor) a.2)]
def y1b5 (l : List Arg) : Option (Model × List Tensor) := match l with
  | [.agg [.int .i64 b0_0, .int .i64 b0_1, .int .i64 b0_2, .sl (.st .layer) b0_3], .one (.sl (.st .tensor) b1)] => some ((⟨(⟨b0_0, b0_1, b0_2⟩ : Shape), b0_3⟩ : Model), b1)
  | _ => none
def y1b6 (r : Bool) : Out := (.r [] (.bool r), [])
def y1b7 (o : Out) : Option (Bool) := match o with
  | (.r [] (.bool z1), []) => some z1
  | _ => none
def y1b8 (k : Nat) : PG := fun _ l K => (y1b5 l).bind fun a => (L_FnExactEvalBatch k a.1 a.2).bind fun r => K (y1b6 r)
theorem y1b9 (k : Nat) (a : Model × List Tensor) : ev (y1b0 k) (y1b3 (Bool) k) 0 y1b2 (st0 Try.f3 (y1b4 a)) (fin Try.prog Try.f3 (.sc) y1b7) = L_FnExactEvalBatch k a.1 a.2 := by kernel_rfl
theorem y1ba (k : Nat) : PureOk Try.prog 3 (y1b8 k) :=
  pureOk_of_ev (y1b1 k) Try.func3 (by kernel_rfl) (by kernel_rfl) y1b4 y1b5
    (fun l a h => by unfold y1b5 at h; split at h <;> first | (cases h; rfl) | cases h) (fun a => rfl) (lpgood_none (by kernel_rfl))
    (fun o r h => by unfold y1b7 at h; split at h <;> first | (cases h; rfl) | cases h) (y1b9 k)
end
end Go.Proofs.Ev
