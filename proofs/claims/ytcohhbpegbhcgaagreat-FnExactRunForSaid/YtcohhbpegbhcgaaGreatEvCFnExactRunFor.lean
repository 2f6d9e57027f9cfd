/- Text of this claim. -/
import Derived.Test.YtcohhbpegbhcgaaGreatEvK5
import Derived.Test.YtcohhbpegbhcgaaGreatProg
import Derived.Test.YtcohhbpegbhcgaaGreatEvD1
import Derived.Test.YtcohhbpegbhcgaaGreatEvD3
import Derived.Test.YtcohhbpegbhcgaaGreatEvD5
import Derived.Test.YtcohhbpegbhcgaaGreatEvD9
import Derived.Test.YtcohhbpegbhcgaaGreatEvXCFnExactRunFor
set_option linter.unusedVariables false
set_option linter.unusedSimpArgs false
set_option linter.unusedVariables false
set_option linter.unusedSimpArgs false
set_option maxRecDepth 100000
set_option maxHeartbeats 4000000
namespace Go.Proofs.Ev
noncomputable section
variable [Tok]
set_option linter.unusedSectionVars false
def yrp (r : Job) : Out := (.agg [.r [] (.int .i64 r.model.inp.h), .r [] (.int .i64 r.model.inp.w), .r [] (.int .i64 r.model.inp.c), .own 0, .r [] (.int .i64 r.at_), .r [] (.int .i64 r.act.sh.h), .r [] (.int .i64 r.act.sh.w), .r [] (.int .i64 r.act.sh.c), .own 1, .r [] (.int .i64 r.spent)], [.arr none (.st .layer) r.model.layers, .arr none (.int .i64) r.act.data])
def yrq (o : Out) : Option (Job) := match o with
  | (.agg [.r [] (.int .i64 z1), .r [] (.int .i64 z2), .r [] (.int .i64 z3), .own 0, .r [] (.int .i64 z5), .r [] (.int .i64 z6), .r [] (.int .i64 z7), .r [] (.int .i64 z8), .own 1, .r [] (.int .i64 z10)], [.arr none (.st .layer) z4, .arr none (.int .i64) z9]) => some (⟨(⟨(⟨z1, z2, z3⟩ : Shape), z4⟩ : Model), z5, (⟨(⟨z6, z7, z8⟩ : Shape), z9⟩ : Tensor), z10⟩ : Job)
  | _ => none
def yrr (k : Nat) : PG := fun _ l K => (yro l).bind fun a => (I_Job_copied k a).bind fun r => K (yrp r)
theorem yrs (k : Nat) (a : Job) : ev (yrj k) (yrm (Job) k) 0 yrl (st0 Tryz.f28 (yrn a)) (fin Tryz.prog Tryz.f28 (.agg [.sc, .sc, .sc, .own (.st .layer), .sc, .sc, .sc, .sc, .own (.int .i64), .sc]) yrq) = I_Job_copied k a := by kernel_rfl
theorem yrt (k : Nat) : PureOk Tryz.prog 28 (yrr k) :=
  pureOk_of_ev (yrk k) Tryz.func28 (by kernel_rfl) (by kernel_rfl) yrn yro
    (fun l a h => by unfold yro at h; split at h <;> first | (cases h; rfl) | cases h) (fun a => rfl) (lpgood_none (by kernel_rfl))
    (fun o r h => by unfold yrq at h; split at h <;> first | (cases h; rfl) | cases h) (yrs k)
def yru (k : Nat) : Orc := pureOrc [.agg [(.int .i64), (.int .i64), (.int .i64), (.sl (.st .layer)), (.int .i64), (.int .i64), (.int .i64), (.int .i64), (.sl (.int .i64)), (.int .i64)]] (yrr k)
theorem yrv (k : Nat) : OrcOk Tryz.prog 28 (yru k) := pureOrc_ok (yrt k)
noncomputable def E_I_in (k : Nat) : Env := { P := Tryz.prog, tt := tt, orc := fun g => noOrc }
theorem yrw (k : Nat) : EnvOk (E_I_in k) := fun g => (noOrc_ok _ _)
noncomputable def c_I_in : Code := (Tryz.f53.body).getD .skip
def yrx (ρ : Type) (k : Nat) : Nat → Ev ρ → Ev ρ := fun _ _ _ _ => none
def yry (a : Int × Int × Int) : List Arg := [.one (.int .i64 a.1), .one (.int .i64 a.2.1), .one (.int .i64 a.2.2)]
def yrz (l : List Arg) : Option (Int × Int × Int) := match l with
  | [.one (.int .i64 b0), .one (.int .i64 b1), .one (.int .i64 b2)] => some (b0, b1, b2)
  | _ => none
def ys0 (r : Bool) : Out := (.r [] (.bool r), [])
def ys1 (o : Out) : Option (Bool) := match o with
  | (.r [] (.bool z1), []) => some z1
  | _ => none
def I_in_G (k : Nat) : PG := fun _ l K => (yrz l).bind fun a => (I_in k a.1 a.2.1 a.2.2).bind fun r => K (ys0 r)
theorem ys2 (k : Nat) (a : Int × Int × Int) : ev (E_I_in k) (yrx (Bool) k) 0 c_I_in (st0 Tryz.f53 (yry a)) (fin Tryz.prog Tryz.f53 (.sc) ys1) = I_in k a.1 a.2.1 a.2.2 := by kernel_rfl
theorem ys3 (k : Nat) : PureOk Tryz.prog 53 (I_in_G k) :=
  pureOk_of_ev (yrw k) Tryz.func53 (by kernel_rfl) (by kernel_rfl) yry yrz
    (fun l a h => by unfold yrz at h; split at h <;> first | (cases h; rfl) | cases h) (fun a => rfl) (lpgood_none (by kernel_rfl))
    (fun o r h => by unfold ys1 at h; split at h <;> first | (cases h; rfl) | cases h) (ys2 k)
def o_I_in (k : Nat) : Orc := pureOrc [.one (.int .i64), .one (.int .i64), .one (.int .i64)] (I_in_G k)
theorem ys4 (k : Nat) : OrcOk Tryz.prog 53 (o_I_in k) := pureOrc_ok (ys3 k)
noncomputable def ys5 (k : Nat) : Env := { P := Tryz.prog, tt := tt, orc := fun g => cond (Nat.beq g 53) (o_I_in k) (noOrc) }
theorem ys6 (k : Nat) : EnvOk (ys5 k) := fun g => (orc_cond (ys4 k) (noOrc_ok _ _))
noncomputable def ys7 : Code := (Tryz.f77.body).getD .skip
def ys8 (ρ : Type) (k : Nat) : Nat → Ev ρ → Ev ρ := fun _ _ _ _ => none
def ys9 (a : Shape) : List Arg := [.agg [.int .i64 a.h, .int .i64 a.w, .int .i64 a.c]]
def ysa (l : List Arg) : Option (Shape) := match l with
  | [.agg [.int .i64 b0_0, .int .i64 b0_1, .int .i64 b0_2]] => some (⟨b0_0, b0_1, b0_2⟩ : Shape)
  | _ => none
def ysb (r : Bool) : Out := (.r [] (.bool r), [])
def ysc (o : Out) : Option (Bool) := match o with
  | (.r [] (.bool z1), []) => some z1
  | _ => none
def ysd (k : Nat) : PG := fun _ l K => (ysa l).bind fun a => (I_ShapeOk k a).bind fun r => K (ysb r)
theorem yse (k : Nat) (a : Shape) : ev (ys5 k) (ys8 (Bool) k) 0 ys7 (st0 Tryz.f77 (ys9 a)) (fin Tryz.prog Tryz.f77 (.sc) ysc) = I_ShapeOk k a := by kernel_rfl
theorem ysf (k : Nat) : PureOk Tryz.prog 77 (ysd k) :=
  pureOk_of_ev (ys6 k) Tryz.func77 (by kernel_rfl) (by kernel_rfl) ys9 ysa
    (fun l a h => by unfold ysa at h; split at h <;> first | (cases h; rfl) | cases h) (fun a => rfl) (lpgood_none (by kernel_rfl))
    (fun o r h => by unfold ysc at h; split at h <;> first | (cases h; rfl) | cases h) (yse k)
def ysg (k : Nat) : Orc := pureOrc [.agg [(.int .i64), (.int .i64), (.int .i64)]] (ysd k)
theorem ysh (k : Nat) : OrcOk Tryz.prog 77 (ysg k) := pureOrc_ok (ysf k)
noncomputable def ysi (k : Nat) : Env := { P := Tryz.prog, tt := tt, orc := fun g => cond (Nat.beq g 77) (ysg k) (noOrc) }
theorem ysj (k : Nat) : EnvOk (ysi k) := fun g => (orc_cond (ysh k) (noOrc_ok _ _))
noncomputable def ysk : Code := (Tryz.f78.body).getD .skip
def ysl (ρ : Type) (k : Nat) : Nat → Ev ρ → Ev ρ := fun _ _ _ _ => none
def ysm (a : Shape) : List Arg := [.agg [.int .i64 a.h, .int .i64 a.w, .int .i64 a.c]]
def ysn (l : List Arg) : Option (Shape) := match l with
  | [.agg [.int .i64 b0_0, .int .i64 b0_1, .int .i64 b0_2]] => some (⟨b0_0, b0_1, b0_2⟩ : Shape)
  | _ => none
def yso (r : Int) : Out := (.r [] (.int .i64 r), [])
def ysp (o : Out) : Option (Int) := match o with
  | (.r [] (.int .i64 z1), []) => some z1
  | _ => none
def ysq (k : Nat) : PG := fun _ l K => (ysn l).bind fun a => (I_SizeOf k a).bind fun r => K (yso r)
theorem ysr (k : Nat) (a : Shape) : ev (ysi k) (ysl (Int) k) 0 ysk (st0 Tryz.f78 (ysm a)) (fin Tryz.prog Tryz.f78 (.sc) ysp) = I_SizeOf k a := by kernel_rfl
theorem yss (k : Nat) : PureOk Tryz.prog 78 (ysq k) :=
  pureOk_of_ev (ysj k) Tryz.func78 (by kernel_rfl) (by kernel_rfl) ysm ysn
    (fun l a h => by unfold ysn at h; split at h <;> first | (cases h; rfl) | cases h) (fun a => rfl) (lpgood_none (by kernel_rfl))
    (fun o r h => by unfold ysp at h; split at h <;> first | (cases h; rfl) | cases h) (ysr k)
def yst (k : Nat) : Orc := pureOrc [.agg [(.int .i64), (.int .i64), (.int .i64)]] (ysq k)
theorem ysu (k : Nat) : OrcOk Tryz.prog 78 (yst k) := pureOrc_ok (yss k)
noncomputable def ysv (k : Nat) : Env := { P := Tryz.prog, tt := tt, orc := fun g => noOrc }
theorem ysw (k : Nat) : EnvOk (ysv k) := fun g => (noOrc_ok _ _)
noncomputable def ysx : Code := (Tryz.f95.body).getD .skip
def ysy (ρ : Type) (k : Nat) : Nat → Ev ρ → Ev ρ := fun _ _ _ _ => none
def ysz (a : Layer) : List Arg := [.agg [.int .i64 a.kind, .int .i64 a.out, .int .i64 a.size, .int .i64 a.step, .int .i64 a.mult, .int .i64 a.shift, .int .i64 a.zero, .sl (.int .i64) a.weights, .sl (.int .i64) a.bias]]
def yt0 (l : List Arg) : Option (Layer) := match l with
  | [.agg [.int .i64 b0_0, .int .i64 b0_1, .int .i64 b0_2, .int .i64 b0_3, .int .i64 b0_4, .int .i64 b0_5, .int .i64 b0_6, .sl (.int .i64) b0_7, .sl (.int .i64) b0_8]] => some (⟨b0_0, b0_1, b0_2, b0_3, b0_4, b0_5, b0_6, b0_7, b0_8⟩ : Layer)
  | _ => none
def yt1 (r : Bool) : Out := (.r [] (.bool r), [])
def yt2 (o : Out) : Option (Bool) := match o with
  | (.r [] (.bool z1), []) => some z1
  | _ => none
def yt3 (k : Nat) : PG := fun _ l K => (yt0 l).bind fun a => (I_Layer_hasNone k a).bind fun r => K (yt1 r)
theorem yt4 (k : Nat) (a : Layer) : ev (ysv k) (ysy (Bool) k) 0 ysx (st0 Tryz.f95 (ysz a)) (fin Tryz.prog Tryz.f95 (.sc) yt2) = I_Layer_hasNone k a := by kernel_rfl
theorem yt5 (k : Nat) : PureOk Tryz.prog 95 (yt3 k) :=
  pureOk_of_ev (ysw k) Tryz.func95 (by kernel_rfl) (by kernel_rfl) ysz yt0
    (fun l a h => by unfold yt0 at h; split at h <;> first | (cases h; rfl) | cases h) (fun a => rfl) (lpgood_none (by kernel_rfl))
    (fun o r h => by unfold yt2 at h; split at h <;> first | (cases h; rfl) | cases h) (yt4 k)
def yt6 (k : Nat) : Orc := pureOrc [.agg [(.int .i64), (.int .i64), (.int .i64), (.int .i64), (.int .i64), (.int .i64), (.int .i64), (.sl (.int .i64)), (.sl (.int .i64))]] (yt3 k)
theorem yt7 (k : Nat) : OrcOk Tryz.prog 95 (yt6 k) := pureOrc_ok (yt5 k)
noncomputable def yt8 (k : Nat) : Env := { P := Tryz.prog, tt := tt, orc := fun g => cond (Nat.beq g 53) (o_I_in k) (noOrc) }
theorem yt9 (k : Nat) : EnvOk (yt8 k) := fun g => (orc_cond (ys4 k) (noOrc_ok _ _))
noncomputable def yta : Code := (Tryz.f93.body).getD .skip
def ytb (ρ : Type) (k : Nat) : Nat → Ev ρ → Ev ρ := fun _ _ _ _ => none
def ytc (a : Int) : List Arg := [.one (.int .i64 a)]
def ytd (l : List Arg) : Option (Int) := match l with
  | [.one (.int .i64 b0)] => some b0
  | _ => none
def yte (r : Bool) : Out := (.r [] (.bool r), [])
def ytf (o : Out) : Option (Bool) := match o with
  | (.r [] (.bool z1), []) => some z1
  | _ => none
def ytg (k : Nat) : PG := fun _ l K => (ytd l).bind fun a => (I_areItems_c1 k a).bind fun r => K (yte r)
theorem yth (k : Nat) (a : Int) : ev (yt8 k) (ytb (Bool) k) 0 yta (st0 Tryz.f93 (ytc a)) (fin Tryz.prog Tryz.f93 (.sc) ytf) = I_areItems_c1 k a := by kernel_rfl
theorem yti (k : Nat) : PureOk Tryz.prog 93 (ytg k) :=
  pureOk_of_ev (yt9 k) Tryz.func93 (by kernel_rfl) (by kernel_rfl) ytc ytd
    (fun l a h => by unfold ytd at h; split at h <;> first | (cases h; rfl) | cases h) (fun a => rfl) (lpgood_none (by kernel_rfl))
    (fun o r h => by unfold ytf at h; split at h <;> first | (cases h; rfl) | cases h) (yth k)
def ytj (k : Nat) : Orc := pureOrc [.one (.int .i64)] (ytg k)
theorem ytk (k : Nat) : OrcOk Tryz.prog 93 (ytj k) := pureOrc_ok (yti k)
noncomputable def ytl (k : Nat) : Env := { P := Tryz.prog, tt := tt, orc := fun g => cond (Nat.beq g 93) (ytj k) (noOrc) }
theorem ytm (k : Nat) : EnvOk (ytl k) := fun g => (orc_cond (ytk k) (noOrc_ok _ _))
noncomputable def ytn : Code := (Tryz.f110.body).getD .skip
noncomputable def yto : Code := ((loopsIn 0 ytn).getD 0 (0, .skip)).2
def ytp : List Nat := [0, 1, 7, 8]
def ytq : List (Where × Co) := []
def ytr : Ex → List Nat
  | .exit j => cond (Nat.beq j 0) [] []
  | .ret => [4]
  | .normal => []
def yts : Ex → List (Where × Co)
  | .exit j => cond (Nat.beq j 0) [] []
  | .ret => []
  | .normal => []
def ytt (pv : (List Int × Int) × (Int)) : St := { slots := [(0, .r [] (.sl (.int .i64) pv.1.1)), (1, .fn (.func 93) [] []), (7, .r [] (.int .i64 pv.1.2)), (8, .r [] (.int .i64 pv.2))], heap := [], nid := 0, n := 19, gh := [] }
def ytu (nf : NF) : Option ((List Int × Int) × (Int)) := match nf with
  | ([.r [] (.sl (.int .i64) w0), .fn (.func 93) [] [], .r [] (.int .i64 w1), .r [] (.int .i64 w2)], [], []) => some ((w0, w1), w2)
  | _ => none
theorem ytv (nf : NF) (v : (List Int × Int) × (Int)) (h : ytu nf = some v) : denorm ytp 19 nf = ytt v := by
  unfold ytu at h
  split at h
  · cases h; rfl
  · cases h
def ytw (p : List Int × Int) (x : Unit) : St := { slots := [], heap := [], nid := 0, n := 19, gh := [] }
def ytx (p : List Int × Int) (x : Int) : St := { slots := [(4, .r [] (.int .i64 x))], heap := [], nid := 0, n := 19, gh := [] }
def yty (ρ : Type) (k : Nat) : Nat → Ev ρ → Ev ρ := fun id f => cond (Nat.beq id 0) (loopOrc ytp ytq (fun n nf => cond (Nat.beq n 19) (ytu nf) none) fun pv K => iter (fun v next => slices_IndexFunc_lint_int__I_areItems_c1_g0 k pv.1 v next (fun x => K (.exit 0) (ytw pv.1 x)) (fun x => K .ret (ytx pv.1 x))) k pv.2) ((fun _ _ _ _ => none) id f)
theorem ytz {ρ : Type} (k : Nat) (p : List Int × Int) (v : Int) (K K1 : Ex → St → Option ρ) : ev (ytl k) (yty ρ k) 0 yto (ytt (p, v)) (fun e st' => match e with
    | .normal => (normC ytp ytq st').bind fun nf => K1 .normal (denorm ytp st'.n nf)
    | e => (normC (ytr e) (yts e) st').bind fun nf => K e (denorm (ytr e) st'.n nf)) = slices_IndexFunc_lint_int__I_areItems_c1_g0 k p v (fun v' => K1 .normal (ytt (p, v'))) (fun x => K (.exit 0) (ytw p x)) (fun x => K .ret (ytx p x)) := by kernel_rfl
theorem yu0 {ρ : Type} (k : Nat) : Sound Tryz.prog (.loop yto) (yty ρ k 0 fun st K => ev (ytl k) (yty ρ k) 0 yto st K) :=
  loop_ok (ev_sound (ytm k) yto 0 (lpgood_none (by kernel_rfl))) ytr yts k (g := fun p v next K => slices_IndexFunc_lint_int__I_areItems_c1_g0 k p v next (fun x => K (.exit 0) (ytw p x)) (fun x => K .ret (ytx p x))) (dec_at ytv) (fun p v K K1 => ytz k p v K K1)
def yu1 (a : List Int) : List Arg := [.one (.sl (.int .i64) a), .fn (.func 93) [] []]
def yu2 (l : List Arg) : Option (List Int) := match l with
  | [.one (.sl (.int .i64) b0), .fn (.func 93) [] []] => some b0
  | _ => none
def yu3 (r : Int) : Out := (.r [] (.int .i64 r), [])
def yu4 (o : Out) : Option (Int) := match o with
  | (.r [] (.int .i64 z1), []) => some z1
  | _ => none
def yu5 (k : Nat) : PG := fun _ l K => (yu2 l).bind fun a => (slices_IndexFunc_lint_int__I_areItems_c1 k a).bind fun r => K (yu3 r)
theorem yu6 (k : Nat) (a : List Int) : ev (ytl k) (yty (Int) k) 0 ytn (st0 Tryz.f110 (yu1 a)) (fin Tryz.prog Tryz.f110 (.sc) yu4) = slices_IndexFunc_lint_int__I_areItems_c1 k a := by kernel_rfl
theorem yu7 (k : Nat) : PureOk Tryz.prog 110 (yu5 k) :=
  pureOk_of_ev (ytm k) Tryz.func110 (by kernel_rfl) (by kernel_rfl) yu1 yu2
    (fun l a h => by unfold yu2 at h; split at h <;> first | (cases h; rfl) | cases h) (fun a => rfl) (lpgood_of (l := [(0, yto)]) (by kernel_rfl) ⟨yu0 k, trivial⟩)
    (fun o r h => by unfold yu4 at h; split at h <;> first | (cases h; rfl) | cases h) (yu6 k)
def yu8 (k : Nat) : Orc := pureOrc [.one (.sl (.int .i64)), .fn] (yu5 k)
theorem yu9 (k : Nat) : OrcOk Tryz.prog 110 (yu8 k) := pureOrc_ok (yu7 k)
noncomputable def yua (k : Nat) : Env := { P := Tryz.prog, tt := tt, orc := fun g => cond (Nat.beq g 110) (yu8 k) (noOrc) }
theorem yub (k : Nat) : EnvOk (yua k) := fun g => (orc_cond (yu9 k) (noOrc_ok _ _))
noncomputable def yuc : Code := (Tryz.f92.body).getD .skip
def yud (ρ : Type) (k : Nat) : Nat → Ev ρ → Ev ρ := fun _ _ _ _ => none
def yue (a : List Int) : List Arg := [.one (.sl (.int .i64) a), .fn (.func 93) [] []]
def yuf (l : List Arg) : Option (List Int) := match l with
  | [.one (.sl (.int .i64) b0), .fn (.func 93) [] []] => some b0
  | _ => none
def yug (r : Bool) : Out := (.r [] (.bool r), [])
def yuh (o : Out) : Option (Bool) := match o with
  | (.r [] (.bool z1), []) => some z1
  | _ => none
def yui (k : Nat) : PG := fun _ l K => (yuf l).bind fun a => (slices_ContainsFunc_lint_int__I_areItems_c1 k a).bind fun r => K (yug r)
theorem yuj (k : Nat) (a : List Int) : ev (yua k) (yud (Bool) k) 0 yuc (st0 Tryz.f92 (yue a)) (fin Tryz.prog Tryz.f92 (.sc) yuh) = slices_ContainsFunc_lint_int__I_areItems_c1 k a := by kernel_rfl
theorem yuk (k : Nat) : PureOk Tryz.prog 92 (yui k) :=
  pureOk_of_ev (yub k) Tryz.func92 (by kernel_rfl) (by kernel_rfl) yue yuf
    (fun l a h => by unfold yuf at h; split at h <;> first | (cases h; rfl) | cases h) (fun a => rfl) (lpgood_none (by kernel_rfl))
    (fun o r h => by unfold yuh at h; split at h <;> first | (cases h; rfl) | cases h) (yuj k)
def yul (k : Nat) : Orc := pureOrc [.one (.sl (.int .i64)), .fn] (yui k)
theorem yum (k : Nat) : OrcOk Tryz.prog 92 (yul k) := pureOrc_ok (yuk k)
noncomputable def yun (k : Nat) : Env := { P := Tryz.prog, tt := tt, orc := fun g => cond (Nat.beq g 92) (yul k) (noOrc) }
theorem yuo (k : Nat) : EnvOk (yun k) := fun g => (orc_cond (yum k) (noOrc_ok _ _))
noncomputable def yup : Code := (Tryz.f79.body).getD .skip
def yuq (ρ : Type) (k : Nat) : Nat → Ev ρ → Ev ρ := fun _ _ _ _ => none
def yur (a : List Int) : List Arg := [.one (.sl (.int .i64) a)]
def yus (l : List Arg) : Option (List Int) := match l with
  | [.one (.sl (.int .i64) b0)] => some b0
  | _ => none
def yut (r : Bool) : Out := (.r [] (.bool r), [])
def yuu (o : Out) : Option (Bool) := match o with
  | (.r [] (.bool z1), []) => some z1
  | _ => none
def yuv (k : Nat) : PG := fun _ l K => (yus l).bind fun a => (I_areItems k a).bind fun r => K (yut r)
theorem yuw (k : Nat) (a : List Int) : ev (yun k) (yuq (Bool) k) 0 yup (st0 Tryz.f79 (yur a)) (fin Tryz.prog Tryz.f79 (.sc) yuu) = I_areItems k a := by kernel_rfl
theorem yux (k : Nat) : PureOk Tryz.prog 79 (yuv k) :=
  pureOk_of_ev (yuo k) Tryz.func79 (by kernel_rfl) (by kernel_rfl) yur yus
    (fun l a h => by unfold yus at h; split at h <;> first | (cases h; rfl) | cases h) (fun a => rfl) (lpgood_none (by kernel_rfl))
    (fun o r h => by unfold yuu at h; split at h <;> first | (cases h; rfl) | cases h) (yuw k)
def yuy (k : Nat) : Orc := pureOrc [.one (.sl (.int .i64))] (yuv k)
theorem yuz (k : Nat) : OrcOk Tryz.prog 79 (yuy k) := pureOrc_ok (yux k)
noncomputable def yv0 (k : Nat) : Env := { P := Tryz.prog, tt := tt, orc := fun g => cond (Nat.beq g 53) (o_I_in k) (noOrc) }
theorem yv1 (k : Nat) : EnvOk (yv0 k) := fun g => (orc_cond (ys4 k) (noOrc_ok _ _))
noncomputable def yv2 : Code := (Tryz.f111.body).getD .skip
def yv3 (ρ : Type) (k : Nat) : Nat → Ev ρ → Ev ρ := fun _ _ _ _ => none
def yv4 (a : Int) : List Arg := [.one (.int .i64 a)]
def yv5 (l : List Arg) : Option (Int) := match l with
  | [.one (.int .i64 b0)] => some b0
  | _ => none
def yv6 (r : Bool) : Out := (.r [] (.bool r), [])
def yv7 (o : Out) : Option (Bool) := match o with
  | (.r [] (.bool z1), []) => some z1
  | _ => none
def yv8 (k : Nat) : PG := fun _ l K => (yv5 l).bind fun a => (I_Layer_isScaled_c1 k a).bind fun r => K (yv6 r)
theorem yv9 (k : Nat) (a : Int) : ev (yv0 k) (yv3 (Bool) k) 0 yv2 (st0 Tryz.f111 (yv4 a)) (fin Tryz.prog Tryz.f111 (.sc) yv7) = I_Layer_isScaled_c1 k a := by kernel_rfl
theorem yva (k : Nat) : PureOk Tryz.prog 111 (yv8 k) :=
  pureOk_of_ev (yv1 k) Tryz.func111 (by kernel_rfl) (by kernel_rfl) yv4 yv5
    (fun l a h => by unfold yv5 at h; split at h <;> first | (cases h; rfl) | cases h) (fun a => rfl) (lpgood_none (by kernel_rfl))
    (fun o r h => by unfold yv7 at h; split at h <;> first | (cases h; rfl) | cases h) (yv9 k)
def yvb (k : Nat) : Orc := pureOrc [.one (.int .i64)] (yv8 k)
theorem yvc (k : Nat) : OrcOk Tryz.prog 111 (yvb k) := pureOrc_ok (yva k)
noncomputable def yvd (k : Nat) : Env := { P := Tryz.prog, tt := tt, orc := fun g => cond (Nat.beq g 111) (yvb k) (noOrc) }
theorem yve (k : Nat) : EnvOk (yvd k) := fun g => (orc_cond (yvc k) (noOrc_ok _ _))
noncomputable def yvf : Code := (Tryz.f110.body).getD .skip
noncomputable def yvg : Code := ((loopsIn 0 yvf).getD 0 (0, .skip)).2
def yvh : List Nat := [0, 1, 7, 8]
def yvi : List (Where × Co) := []
def yvj : Ex → List Nat
  | .exit j => cond (Nat.beq j 0) [] []
  | .ret => [4]
  | .normal => []
def yvk : Ex → List (Where × Co)
  | .exit j => cond (Nat.beq j 0) [] []
  | .ret => []
  | .normal => []
def yvl (pv : (List Int × Int) × (Int)) : St := { slots := [(0, .r [] (.sl (.int .i64) pv.1.1)), (1, .fn (.func 111) [] []), (7, .r [] (.int .i64 pv.1.2)), (8, .r [] (.int .i64 pv.2))], heap := [], nid := 0, n := 19, gh := [] }
def yvm (nf : NF) : Option ((List Int × Int) × (Int)) := match nf with
  | ([.r [] (.sl (.int .i64) w0), .fn (.func 111) [] [], .r [] (.int .i64 w1), .r [] (.int .i64 w2)], [], []) => some ((w0, w1), w2)
  | _ => none
theorem yvn (nf : NF) (v : (List Int × Int) × (Int)) (h : yvm nf = some v) : denorm yvh 19 nf = yvl v := by
  unfold yvm at h
  split at h
  · cases h; rfl
  · cases h
def yvo (p : List Int × Int) (x : Unit) : St := { slots := [], heap := [], nid := 0, n := 19, gh := [] }
def yvp (p : List Int × Int) (x : Int) : St := { slots := [(4, .r [] (.int .i64 x))], heap := [], nid := 0, n := 19, gh := [] }
def yvq (ρ : Type) (k : Nat) : Nat → Ev ρ → Ev ρ := fun id f => cond (Nat.beq id 0) (loopOrc yvh yvi (fun n nf => cond (Nat.beq n 19) (yvm nf) none) fun pv K => iter (fun v next => slices_IndexFunc_lint_int__I_Layer_isScaled_c1_g0 k pv.1 v next (fun x => K (.exit 0) (yvo pv.1 x)) (fun x => K .ret (yvp pv.1 x))) k pv.2) ((fun _ _ _ _ => none) id f)
theorem yvr {ρ : Type} (k : Nat) (p : List Int × Int) (v : Int) (K K1 : Ex → St → Option ρ) : ev (yvd k) (yvq ρ k) 0 yvg (yvl (p, v)) (fun e st' => match e with
    | .normal => (normC yvh yvi st').bind fun nf => K1 .normal (denorm yvh st'.n nf)
    | e => (normC (yvj e) (yvk e) st').bind fun nf => K e (denorm (yvj e) st'.n nf)) = slices_IndexFunc_lint_int__I_Layer_isScaled_c1_g0 k p v (fun v' => K1 .normal (yvl (p, v'))) (fun x => K (.exit 0) (yvo p x)) (fun x => K .ret (yvp p x)) := by kernel_rfl
theorem yvs {ρ : Type} (k : Nat) : Sound Tryz.prog (.loop yvg) (yvq ρ k 0 fun st K => ev (yvd k) (yvq ρ k) 0 yvg st K) :=
  loop_ok (ev_sound (yve k) yvg 0 (lpgood_none (by kernel_rfl))) yvj yvk k (g := fun p v next K => slices_IndexFunc_lint_int__I_Layer_isScaled_c1_g0 k p v next (fun x => K (.exit 0) (yvo p x)) (fun x => K .ret (yvp p x))) (dec_at yvn) (fun p v K K1 => yvr k p v K K1)
def yvt (a : List Int) : List Arg := [.one (.sl (.int .i64) a), .fn (.func 111) [] []]
def yvu (l : List Arg) : Option (List Int) := match l with
  | [.one (.sl (.int .i64) b0), .fn (.func 111) [] []] => some b0
  | _ => none
def yvv (r : Int) : Out := (.r [] (.int .i64 r), [])
def yvw (o : Out) : Option (Int) := match o with
  | (.r [] (.int .i64 z1), []) => some z1
  | _ => none
def yvx (k : Nat) : PG := fun _ l K => (yvu l).bind fun a => (slices_IndexFunc_lint_int__I_Layer_isScaled_c1 k a).bind fun r => K (yvv r)
theorem yvy (k : Nat) (a : List Int) : ev (yvd k) (yvq (Int) k) 0 yvf (st0 Tryz.f110 (yvt a)) (fin Tryz.prog Tryz.f110 (.sc) yvw) = slices_IndexFunc_lint_int__I_Layer_isScaled_c1 k a := by kernel_rfl
theorem yvz (k : Nat) : PureOk Tryz.prog 110 (yvx k) :=
  pureOk_of_ev (yve k) Tryz.func110 (by kernel_rfl) (by kernel_rfl) yvt yvu
    (fun l a h => by unfold yvu at h; split at h <;> first | (cases h; rfl) | cases h) (fun a => rfl) (lpgood_of (l := [(0, yvg)]) (by kernel_rfl) ⟨yvs k, trivial⟩)
    (fun o r h => by unfold yvw at h; split at h <;> first | (cases h; rfl) | cases h) (yvy k)
def yw0 (k : Nat) : Orc := pureOrc [.one (.sl (.int .i64)), .fn] (yvx k)
theorem yw1 (k : Nat) : OrcOk Tryz.prog 110 (yw0 k) := pureOrc_ok (yvz k)
noncomputable def yw2 (k : Nat) : Env := { P := Tryz.prog, tt := tt, orc := fun g => cond (Nat.beq g 110) (yw0 k) (noOrc) }
theorem yw3 (k : Nat) : EnvOk (yw2 k) := fun g => (orc_cond (yw1 k) (noOrc_ok _ _))
noncomputable def yw4 : Code := (Tryz.f92.body).getD .skip
def yw5 (ρ : Type) (k : Nat) : Nat → Ev ρ → Ev ρ := fun _ _ _ _ => none
def yw6 (a : List Int) : List Arg := [.one (.sl (.int .i64) a), .fn (.func 111) [] []]
def yw7 (l : List Arg) : Option (List Int) := match l with
  | [.one (.sl (.int .i64) b0), .fn (.func 111) [] []] => some b0
  | _ => none
def yw8 (r : Bool) : Out := (.r [] (.bool r), [])
def yw9 (o : Out) : Option (Bool) := match o with
  | (.r [] (.bool z1), []) => some z1
  | _ => none
def ywa (k : Nat) : PG := fun _ l K => (yw7 l).bind fun a => (slices_ContainsFunc_lint_int__I_Layer_isScaled_c1 k a).bind fun r => K (yw8 r)
theorem ywb (k : Nat) (a : List Int) : ev (yw2 k) (yw5 (Bool) k) 0 yw4 (st0 Tryz.f92 (yw6 a)) (fin Tryz.prog Tryz.f92 (.sc) yw9) = slices_ContainsFunc_lint_int__I_Layer_isScaled_c1 k a := by kernel_rfl
theorem ywc (k : Nat) : PureOk Tryz.prog 92 (ywa k) :=
  pureOk_of_ev (yw3 k) Tryz.func92 (by kernel_rfl) (by kernel_rfl) yw6 yw7
    (fun l a h => by unfold yw7 at h; split at h <;> first | (cases h; rfl) | cases h) (fun a => rfl) (lpgood_none (by kernel_rfl))
    (fun o r h => by unfold yw9 at h; split at h <;> first | (cases h; rfl) | cases h) (ywb k)
def ywd (k : Nat) : Orc := pureOrc [.one (.sl (.int .i64)), .fn] (ywa k)
theorem ywe (k : Nat) : OrcOk Tryz.prog 92 (ywd k) := pureOrc_ok (ywc k)
noncomputable def ywf (k : Nat) : Env := { P := Tryz.prog, tt := tt, orc := fun g => cond (Nat.beq g 53) (o_I_in k) (cond (Nat.beq g 79) (yuy k) (cond (Nat.beq g 92) (ywd k) (noOrc))) }
theorem ywg (k : Nat) : EnvOk (ywf k) := fun g => (orc_cond (ys4 k) (orc_cond (yuz k) (orc_cond (ywe k) (noOrc_ok _ _))))
noncomputable def ywh : Code := (Tryz.f96.body).getD .skip
def ywi (ρ : Type) (k : Nat) : Nat → Ev ρ → Ev ρ := fun _ _ _ _ => none
def ywj (a : Layer × Int) : List Arg := [.agg [.int .i64 a.1.kind, .int .i64 a.1.out, .int .i64 a.1.size, .int .i64 a.1.step, .int .i64 a.1.mult, .int .i64 a.1.shift, .int .i64 a.1.zero, .sl (.int .i64) a.1.weights, .sl (.int .i64) a.1.bias], .one (.int .i64 a.2)]
def ywk (l : List Arg) : Option (Layer × Int) := match l with
  | [.agg [.int .i64 b0_0, .int .i64 b0_1, .int .i64 b0_2, .int .i64 b0_3, .int .i64 b0_4, .int .i64 b0_5, .int .i64 b0_6, .sl (.int .i64) b0_7, .sl (.int .i64) b0_8], .one (.int .i64 b1)] => some ((⟨b0_0, b0_1, b0_2, b0_3, b0_4, b0_5, b0_6, b0_7, b0_8⟩ : Layer), b1)
  | _ => none
def ywl (r : Bool) : Out := (.r [] (.bool r), [])
def ywm (o : Out) : Option (Bool) := match o with
  | (.r [] (.bool z1), []) => some z1
  | _ => none
def ywn (k : Nat) : PG := fun _ l K => (ywk l).bind fun a => (I_Layer_isScaled k a.1 a.2).bind fun r => K (ywl r)
theorem ywo (k : Nat) (a : Layer × Int) : ev (ywf k) (ywi (Bool) k) 0 ywh (st0 Tryz.f96 (ywj a)) (fin Tryz.prog Tryz.f96 (.sc) ywm) = I_Layer_isScaled k a.1 a.2 := by kernel_rfl
theorem ywp (k : Nat) : PureOk Tryz.prog 96 (ywn k) :=
  pureOk_of_ev (ywg k) Tryz.func96 (by kernel_rfl) (by kernel_rfl) ywj ywk
    (fun l a h => by unfold ywk at h; split at h <;> first | (cases h; rfl) | cases h) (fun a => rfl) (lpgood_none (by kernel_rfl))
    (fun o r h => by unfold ywm at h; split at h <;> first | (cases h; rfl) | cases h) (ywo k)
def ywq (k : Nat) : Orc := pureOrc [.agg [(.int .i64), (.int .i64), (.int .i64), (.int .i64), (.int .i64), (.int .i64), (.int .i64), (.sl (.int .i64)), (.sl (.int .i64))], .one (.int .i64)] (ywn k)
theorem ywr (k : Nat) : OrcOk Tryz.prog 96 (ywq k) := pureOrc_ok (ywp k)
noncomputable def yws (k : Nat) : Env := { P := Tryz.prog, tt := tt, orc := fun g => cond (Nat.beq g 53) (o_I_in k) (noOrc) }
theorem ywt (k : Nat) : EnvOk (yws k) := fun g => (orc_cond (ys4 k) (noOrc_ok _ _))
noncomputable def ywu : Code := (Tryz.f97.body).getD .skip
def ywv (ρ : Type) (k : Nat) : Nat → Ev ρ → Ev ρ := fun _ _ _ _ => none
def yww (a : Layer × Shape) : List Arg := [.agg [.int .i64 a.1.kind, .int .i64 a.1.out, .int .i64 a.1.size, .int .i64 a.1.step, .int .i64 a.1.mult, .int .i64 a.1.shift, .int .i64 a.1.zero, .sl (.int .i64) a.1.weights, .sl (.int .i64) a.1.bias], .agg [.int .i64 a.2.h, .int .i64 a.2.w, .int .i64 a.2.c]]
def ywx (l : List Arg) : Option (Layer × Shape) := match l with
  | [.agg [.int .i64 b0_0, .int .i64 b0_1, .int .i64 b0_2, .int .i64 b0_3, .int .i64 b0_4, .int .i64 b0_5, .int .i64 b0_6, .sl (.int .i64) b0_7, .sl (.int .i64) b0_8], .agg [.int .i64 b1_0, .int .i64 b1_1, .int .i64 b1_2]] => some ((⟨b0_0, b0_1, b0_2, b0_3, b0_4, b0_5, b0_6, b0_7, b0_8⟩ : Layer), (⟨b1_0, b1_1, b1_2⟩ : Shape))
  | _ => none
def ywy (r : Bool) : Out := (.r [] (.bool r), [])
def ywz (o : Out) : Option (Bool) := match o with
  | (.r [] (.bool z1), []) => some z1
  | _ => none
def yx0 (k : Nat) : PG := fun _ l K => (ywx l).bind fun a => (I_Layer_isWindow k a.1 a.2).bind fun r => K (ywy r)
theorem yx1 (k : Nat) (a : Layer × Shape) : ev (yws k) (ywv (Bool) k) 0 ywu (st0 Tryz.f97 (yww a)) (fin Tryz.prog Tryz.f97 (.sc) ywz) = I_Layer_isWindow k a.1 a.2 := by kernel_rfl
theorem yx2 (k : Nat) : PureOk Tryz.prog 97 (yx0 k) :=
  pureOk_of_ev (ywt k) Tryz.func97 (by kernel_rfl) (by kernel_rfl) yww ywx
    (fun l a h => by unfold ywx at h; split at h <;> first | (cases h; rfl) | cases h) (fun a => rfl) (lpgood_none (by kernel_rfl))
    (fun o r h => by unfold ywz at h; split at h <;> first | (cases h; rfl) | cases h) (yx1 k)
def yx3 (k : Nat) : Orc := pureOrc [.agg [(.int .i64), (.int .i64), (.int .i64), (.int .i64), (.int .i64), (.int .i64), (.int .i64), (.sl (.int .i64)), (.sl (.int .i64))], .agg [(.int .i64), (.int .i64), (.int .i64)]] (yx0 k)
theorem yx4 (k : Nat) : OrcOk Tryz.prog 97 (yx3 k) := pureOrc_ok (yx2 k)
noncomputable def yx5 (k : Nat) : Env := { P := Tryz.prog, tt := tt, orc := fun g => noOrc }
theorem yx6 (k : Nat) : EnvOk (yx5 k) := fun g => (noOrc_ok _ _)
noncomputable def yx7 : Code := (Tryz.f98.body).getD .skip
def yx8 (ρ : Type) (k : Nat) : Nat → Ev ρ → Ev ρ := fun _ _ _ _ => none
def yx9 (a : Layer × Shape × Int) : List Arg := [.agg [.int .i64 a.1.kind, .int .i64 a.1.out, .int .i64 a.1.size, .int .i64 a.1.step, .int .i64 a.1.mult, .int .i64 a.1.shift, .int .i64 a.1.zero, .sl (.int .i64) a.1.weights, .sl (.int .i64) a.1.bias], .agg [.int .i64 a.2.1.h, .int .i64 a.2.1.w, .int .i64 a.2.1.c], .one (.int .i64 a.2.2)]
def yxa (l : List Arg) : Option (Layer × Shape × Int) := match l with
  | [.agg [.int .i64 b0_0, .int .i64 b0_1, .int .i64 b0_2, .int .i64 b0_3, .int .i64 b0_4, .int .i64 b0_5, .int .i64 b0_6, .sl (.int .i64) b0_7, .sl (.int .i64) b0_8], .agg [.int .i64 b1_0, .int .i64 b1_1, .int .i64 b1_2], .one (.int .i64 b2)] => some ((⟨b0_0, b0_1, b0_2, b0_3, b0_4, b0_5, b0_6, b0_7, b0_8⟩ : Layer), (⟨b1_0, b1_1, b1_2⟩ : Shape), b2)
  | _ => none
def yxb (r : Shape) : Out := (.agg [.r [] (.int .i64 r.h), .r [] (.int .i64 r.w), .r [] (.int .i64 r.c)], [])
def yxc (o : Out) : Option (Shape) := match o with
  | (.agg [.r [] (.int .i64 z1), .r [] (.int .i64 z2), .r [] (.int .i64 z3)], []) => some (⟨z1, z2, z3⟩ : Shape)
  | _ => none
def yxd (k : Nat) : PG := fun _ l K => (yxa l).bind fun a => (I_Layer_windows k a.1 a.2.1 a.2.2).bind fun r => K (yxb r)
theorem yxe (k : Nat) (a : Layer × Shape × Int) : ev (yx5 k) (yx8 (Shape) k) 0 yx7 (st0 Tryz.f98 (yx9 a)) (fin Tryz.prog Tryz.f98 (.agg [.sc, .sc, .sc]) yxc) = I_Layer_windows k a.1 a.2.1 a.2.2 := by kernel_rfl
theorem yxf (k : Nat) : PureOk Tryz.prog 98 (yxd k) :=
  pureOk_of_ev (yx6 k) Tryz.func98 (by kernel_rfl) (by kernel_rfl) yx9 yxa
    (fun l a h => by unfold yxa at h; split at h <;> first | (cases h; rfl) | cases h) (fun a => rfl) (lpgood_none (by kernel_rfl))
    (fun o r h => by unfold yxc at h; split at h <;> first | (cases h; rfl) | cases h) (yxe k)
def yxg (k : Nat) : Orc := pureOrc [.agg [(.int .i64), (.int .i64), (.int .i64), (.int .i64), (.int .i64), (.int .i64), (.int .i64), (.sl (.int .i64)), (.sl (.int .i64))], .agg [(.int .i64), (.int .i64), (.int .i64)], .one (.int .i64)] (yxd k)
theorem yxh (k : Nat) : OrcOk Tryz.prog 98 (yxg k) := pureOrc_ok (yxf k)
noncomputable def yxi (k : Nat) : Env := { P := Tryz.prog, tt := tt, orc := fun g => noOrc }
theorem yxj (k : Nat) : EnvOk (yxi k) := fun g => (noOrc_ok _ _)
noncomputable def yxk : Code := (Tryz.f99.body).getD .skip
def yxl (ρ : Type) (k : Nat) : Nat → Ev ρ → Ev ρ := fun _ _ _ _ => none
def yxm (a : Layer) : List Arg := [.agg [.int .i64 a.kind, .int .i64 a.out, .int .i64 a.size, .int .i64 a.step, .int .i64 a.mult, .int .i64 a.shift, .int .i64 a.zero, .sl (.int .i64) a.weights, .sl (.int .i64) a.bias]]
def yxn (l : List Arg) : Option (Layer) := match l with
  | [.agg [.int .i64 b0_0, .int .i64 b0_1, .int .i64 b0_2, .int .i64 b0_3, .int .i64 b0_4, .int .i64 b0_5, .int .i64 b0_6, .sl (.int .i64) b0_7, .sl (.int .i64) b0_8]] => some (⟨b0_0, b0_1, b0_2, b0_3, b0_4, b0_5, b0_6, b0_7, b0_8⟩ : Layer)
  | _ => none
def yxo (r : Bool) : Out := (.r [] (.bool r), [])
def yxp (o : Out) : Option (Bool) := match o with
  | (.r [] (.bool z1), []) => some z1
  | _ => none
def yxq (k : Nat) : PG := fun _ l K => (yxn l).bind fun a => (I_Layer_isBare k a).bind fun r => K (yxo r)
theorem yxr (k : Nat) (a : Layer) : ev (yxi k) (yxl (Bool) k) 0 yxk (st0 Tryz.f99 (yxm a)) (fin Tryz.prog Tryz.f99 (.sc) yxp) = I_Layer_isBare k a := by kernel_rfl
theorem yxs (k : Nat) : PureOk Tryz.prog 99 (yxq k) :=
  pureOk_of_ev (yxj k) Tryz.func99 (by kernel_rfl) (by kernel_rfl) yxm yxn
    (fun l a h => by unfold yxn at h; split at h <;> first | (cases h; rfl) | cases h) (fun a => rfl) (lpgood_none (by kernel_rfl))
    (fun o r h => by unfold yxp at h; split at h <;> first | (cases h; rfl) | cases h) (yxr k)
def yxt (k : Nat) : Orc := pureOrc [.agg [(.int .i64), (.int .i64), (.int .i64), (.int .i64), (.int .i64), (.int .i64), (.int .i64), (.sl (.int .i64)), (.sl (.int .i64))]] (yxq k)
theorem yxu (k : Nat) : OrcOk Tryz.prog 99 (yxt k) := pureOrc_ok (yxs k)
noncomputable def yxv (k : Nat) : Env := { P := Tryz.prog, tt := tt, orc := fun g => cond (Nat.beq g 53) (o_I_in k) (cond (Nat.beq g 77) (ysg k) (cond (Nat.beq g 78) (yst k) (cond (Nat.beq g 95) (yt6 k) (cond (Nat.beq g 96) (ywq k) (cond (Nat.beq g 97) (yx3 k) (cond (Nat.beq g 98) (yxg k) (cond (Nat.beq g 99) (yxt k) (noOrc)))))))) }
theorem yxw (k : Nat) : EnvOk (yxv k) := fun g => (orc_cond (ys4 k) (orc_cond (ysh k) (orc_cond (ysu k) (orc_cond (yt7 k) (orc_cond (ywr k) (orc_cond (yx4 k) (orc_cond (yxh k) (orc_cond (yxu k) (noOrc_ok _ _)))))))))
noncomputable def yxx : Code := (Tryz.f83.body).getD .skip
def yxy (ρ : Type) (k : Nat) : Nat → Ev ρ → Ev ρ := fun _ _ _ _ => none
def yxz (a : Shape × Layer) : List Arg := [.agg [.int .i64 a.1.h, .int .i64 a.1.w, .int .i64 a.1.c], .agg [.int .i64 a.2.kind, .int .i64 a.2.out, .int .i64 a.2.size, .int .i64 a.2.step, .int .i64 a.2.mult, .int .i64 a.2.shift, .int .i64 a.2.zero, .sl (.int .i64) a.2.weights, .sl (.int .i64) a.2.bias]]
def yy0 (l : List Arg) : Option (Shape × Layer) := match l with
  | [.agg [.int .i64 b0_0, .int .i64 b0_1, .int .i64 b0_2], .agg [.int .i64 b1_0, .int .i64 b1_1, .int .i64 b1_2, .int .i64 b1_3, .int .i64 b1_4, .int .i64 b1_5, .int .i64 b1_6, .sl (.int .i64) b1_7, .sl (.int .i64) b1_8]] => some ((⟨b0_0, b0_1, b0_2⟩ : Shape), (⟨b1_0, b1_1, b1_2, b1_3, b1_4, b1_5, b1_6, b1_7, b1_8⟩ : Layer))
  | _ => none
def yy1 (r : Shape × Bool) : Out := (.tup [.agg [.r [] (.int .i64 r.1.h), .r [] (.int .i64 r.1.w), .r [] (.int .i64 r.1.c)], .r [] (.bool r.2)], [])
def yy2 (o : Out) : Option (Shape × Bool) := match o with
  | (.tup [.agg [.r [] (.int .i64 z1), .r [] (.int .i64 z2), .r [] (.int .i64 z3)], .r [] (.bool z4)], []) => some ((⟨z1, z2, z3⟩ : Shape), z4)
  | _ => none
def yy3 (k : Nat) : PG := fun _ l K => (yy0 l).bind fun a => (I_OutShape k a.1 a.2).bind fun r => K (yy1 r)
theorem yy4 (k : Nat) (a : Shape × Layer) : ev (yxv k) (yxy (Shape × Bool) k) 0 yxx (st0 Tryz.f83 (yxz a)) (fin Tryz.prog Tryz.f83 (.tup [.agg [.sc, .sc, .sc], .sc]) yy2) = I_OutShape k a.1 a.2 := by kernel_rfl
theorem yy5 (k : Nat) : PureOk Tryz.prog 83 (yy3 k) :=
  pureOk_of_ev (yxw k) Tryz.func83 (by kernel_rfl) (by kernel_rfl) yxz yy0
    (fun l a h => by unfold yy0 at h; split at h <;> first | (cases h; rfl) | cases h) (fun a => rfl) (lpgood_none (by kernel_rfl))
    (fun o r h => by unfold yy2 at h; split at h <;> first | (cases h; rfl) | cases h) (yy4 k)
def yy6 (k : Nat) : Orc := pureOrc [.agg [(.int .i64), (.int .i64), (.int .i64)], .agg [(.int .i64), (.int .i64), (.int .i64), (.int .i64), (.int .i64), (.int .i64), (.int .i64), (.sl (.int .i64)), (.sl (.int .i64))]] (yy3 k)
theorem yy7 (k : Nat) : OrcOk Tryz.prog 83 (yy6 k) := pureOrc_ok (yy5 k)
noncomputable def yy8 (k : Nat) : Env := { P := Tryz.prog, tt := tt, orc := fun g => cond (Nat.beq g 83) (yy6 k) (noOrc) }
theorem yy9 (k : Nat) : EnvOk (yy8 k) := fun g => (orc_cond (yy7 k) (noOrc_ok _ _))
noncomputable def yya : Code := (Tryz.f76.body).getD .skip
noncomputable def yyb : Code := ((loopsIn 0 yya).getD 0 (0, .skip)).2
def yyc : List Nat := [4, 5, 16, 17, 18]
def yyd : List (Where × Co) := []
def yye : Ex → List Nat
  | .exit j => cond (Nat.beq j 0) [4] []
  | .ret => [2, 3]
  | .normal => []
def yyf : Ex → List (Where × Co)
  | .exit j => cond (Nat.beq j 0) [] []
  | .ret => []
  | .normal => []
def yyg (pv : (List Layer × Int) × (Int × List Shape × Int × Int × Int)) : St := { slots := [(4, .own 0), (5, .ptr 1 0 0), (16, .r [] (.sl (.st .layer) pv.1.1)), (17, .r [] (.int .i64 pv.1.2)), (18, .r [] (.int .i64 pv.2.1))], heap := [(0, .arr none (.st .shape) pv.2.2.1), (1, .box [.r [] (.int .i64 pv.2.2.2.1), .r [] (.int .i64 pv.2.2.2.2.1), .r [] (.int .i64 pv.2.2.2.2.2)])], nid := 2, n := 37, gh := [] }
def yyh (nf : NF) : Option ((List Layer × Int) × (Int × List Shape × Int × Int × Int)) := match nf with
  | ([.own 0, .ptr 1 0 0, .r [] (.sl (.st .layer) w0), .r [] (.int .i64 w1), .r [] (.int .i64 w2)], [.arr none (.st .shape) w3, .box [.r [] (.int .i64 w4), .r [] (.int .i64 w5), .r [] (.int .i64 w6)]], []) => some ((w0, w1), (w2, w3, w4, w5, w6))
  | _ => none
theorem yyi (nf : NF) (v : (List Layer × Int) × (Int × List Shape × Int × Int × Int)) (h : yyh nf = some v) : denorm yyc 37 nf = yyg v := by
  unfold yyh at h
  split at h
  · cases h; rfl
  · cases h
def yyj (p : List Layer × Int) (x : List Shape) : St := { slots := [(4, .own 0)], heap := [(0, .arr none (.st .shape) x)], nid := 1, n := 37, gh := [] }
def yyk (p : List Layer × Int) (x : Bool) : St := { slots := [(2, .nilS), (3, .r [] (.bool x))], heap := [], nid := 0, n := 37, gh := [] }
def yyl (ρ : Type) (k : Nat) : Nat → Ev ρ → Ev ρ := fun id f => cond (Nat.beq id 0) (loopOrc yyc yyd (fun n nf => cond (Nat.beq n 37) (yyh nf) none) fun pv K => iter (fun v next => I_Model_shapes_g0 k pv.1 v next (fun x => K (.exit 0) (yyj pv.1 x)) (fun x => K .ret (yyk pv.1 x))) k pv.2) ((fun _ _ _ _ => none) id f)
theorem yym {ρ : Type} (k : Nat) (p : List Layer × Int) (v : Int × List Shape × Int × Int × Int) (K K1 : Ex → St → Option ρ) : ev (yy8 k) (yyl ρ k) 0 yyb (yyg (p, v)) (fun e st' => match e with
    | .normal => (normC yyc yyd st').bind fun nf => K1 .normal (denorm yyc st'.n nf)
    | e => (normC (yye e) (yyf e) st').bind fun nf => K e (denorm (yye e) st'.n nf)) = I_Model_shapes_g0 k p v (fun v' => K1 .normal (yyg (p, v'))) (fun x => K (.exit 0) (yyj p x)) (fun x => K .ret (yyk p x)) := by kernel_rfl
theorem yyn {ρ : Type} (k : Nat) : Sound Tryz.prog (.loop yyb) (yyl ρ k 0 fun st K => ev (yy8 k) (yyl ρ k) 0 yyb st K) :=
  loop_ok (ev_sound (yy9 k) yyb 0 (lpgood_none (by kernel_rfl))) yye yyf k (g := fun p v next K => I_Model_shapes_g0 k p v next (fun x => K (.exit 0) (yyj p x)) (fun x => K .ret (yyk p x))) (dec_at yyi) (fun p v K K1 => yym k p v K K1)
def yyo (a : Model) : List Arg := [.agg [.int .i64 a.inp.h, .int .i64 a.inp.w, .int .i64 a.inp.c, .sl (.st .layer) a.layers]]
def yyp (l : List Arg) : Option (Model) := match l with
  | [.agg [.int .i64 b0_0, .int .i64 b0_1, .int .i64 b0_2, .sl (.st .layer) b0_3]] => some (⟨(⟨b0_0, b0_1, b0_2⟩ : Shape), b0_3⟩ : Model)
  | _ => none
def yyq (r : List Shape × Bool) : Out := (.tup [.own 0, .r [] (.bool r.2)], [.arr none (.st .shape) r.1])
def yyr (o : Out) : Option (List Shape × Bool) := match o with
  | (.tup [.own 0, .r [] (.bool z2)], [.arr none (.st .shape) z1]) => some (z1, z2)
  | _ => none
def yys (k : Nat) : PG := fun _ l K => (yyp l).bind fun a => (I_Model_shapes k a).bind fun r => K (yyq r)
theorem yyt (k : Nat) (a : Model) : ev (yy8 k) (yyl (List Shape × Bool) k) 0 yya (st0 Tryz.f76 (yyo a)) (fin Tryz.prog Tryz.f76 (.tup [.own (.st .shape), .sc]) yyr) = I_Model_shapes k a := by kernel_rfl
theorem yyu (k : Nat) : PureOk Tryz.prog 76 (yys k) :=
  pureOk_of_ev (yy9 k) Tryz.func76 (by kernel_rfl) (by kernel_rfl) yyo yyp
    (fun l a h => by unfold yyp at h; split at h <;> first | (cases h; rfl) | cases h) (fun a => rfl) (lpgood_of (l := [(0, yyb)]) (by kernel_rfl) ⟨yyn k, trivial⟩)
    (fun o r h => by unfold yyr at h; split at h <;> first | (cases h; rfl) | cases h) (yyt k)
def yyv (k : Nat) : Orc := pureOrc [.agg [(.int .i64), (.int .i64), (.int .i64), (.sl (.st .layer))]] (yys k)
theorem yyw (k : Nat) : OrcOk Tryz.prog 76 (yyv k) := pureOrc_ok (yyu k)
noncomputable def yyx (k : Nat) : Env := { P := Tryz.prog, tt := tt, orc := fun g => cond (Nat.beq g 53) (o_I_in k) (cond (Nat.beq g 76) (yyv k) (noOrc)) }
theorem yyy (k : Nat) : EnvOk (yyx k) := fun g => (orc_cond (ys4 k) (orc_cond (yyw k) (noOrc_ok _ _)))
noncomputable def yyz : Code := (Tryz.f52.body).getD .skip
def yz0 (ρ : Type) (k : Nat) : Nat → Ev ρ → Ev ρ := fun _ _ _ _ => none
def yz1 (a : Model) : List Arg := [.agg [.int .i64 a.inp.h, .int .i64 a.inp.w, .int .i64 a.inp.c, .sl (.st .layer) a.layers]]
def yz2 (l : List Arg) : Option (Model) := match l with
  | [.agg [.int .i64 b0_0, .int .i64 b0_1, .int .i64 b0_2, .sl (.st .layer) b0_3]] => some (⟨(⟨b0_0, b0_1, b0_2⟩ : Shape), b0_3⟩ : Model)
  | _ => none
def yz3 (r : Bool) : Out := (.r [] (.bool r), [])
def yz4 (o : Out) : Option (Bool) := match o with
  | (.r [] (.bool z1), []) => some z1
  | _ => none
def yz5 (k : Nat) : PG := fun _ l K => (yz2 l).bind fun a => (I_ModelOk k a).bind fun r => K (yz3 r)
theorem yz6 (k : Nat) (a : Model) : ev (yyx k) (yz0 (Bool) k) 0 yyz (st0 Tryz.f52 (yz1 a)) (fin Tryz.prog Tryz.f52 (.sc) yz4) = I_ModelOk k a := by kernel_rfl
theorem yz7 (k : Nat) : PureOk Tryz.prog 52 (yz5 k) :=
  pureOk_of_ev (yyy k) Tryz.func52 (by kernel_rfl) (by kernel_rfl) yz1 yz2
    (fun l a h => by unfold yz2 at h; split at h <;> first | (cases h; rfl) | cases h) (fun a => rfl) (lpgood_none (by kernel_rfl))
    (fun o r h => by unfold yz4 at h; split at h <;> first | (cases h; rfl) | cases h) (yz6 k)
def yz8 (k : Nat) : Orc := pureOrc [.agg [(.int .i64), (.int .i64), (.int .i64), (.sl (.st .layer))]] (yz5 k)
theorem yz9 (k : Nat) : OrcOk Tryz.prog 52 (yz8 k) := pureOrc_ok (yz7 k)
noncomputable def yza (k : Nat) : Env := { P := Tryz.prog, tt := tt, orc := fun g => cond (Nat.beq g 77) (ysg k) (cond (Nat.beq g 78) (yst k) (cond (Nat.beq g 79) (yuy k) (noOrc))) }
theorem yzb (k : Nat) : EnvOk (yza k) := fun g => (orc_cond (ysh k) (orc_cond (ysu k) (orc_cond (yuz k) (noOrc_ok _ _))))
noncomputable def yzc : Code := (Tryz.f54.body).getD .skip
def yzd (ρ : Type) (k : Nat) : Nat → Ev ρ → Ev ρ := fun _ _ _ _ => none
def yze (a : Tensor) : List Arg := [.agg [.int .i64 a.sh.h, .int .i64 a.sh.w, .int .i64 a.sh.c, .sl (.int .i64) a.data]]
def yzf (l : List Arg) : Option (Tensor) := match l with
  | [.agg [.int .i64 b0_0, .int .i64 b0_1, .int .i64 b0_2, .sl (.int .i64) b0_3]] => some (⟨(⟨b0_0, b0_1, b0_2⟩ : Shape), b0_3⟩ : Tensor)
  | _ => none
def yzg (r : Bool) : Out := (.r [] (.bool r), [])
def yzh (o : Out) : Option (Bool) := match o with
  | (.r [] (.bool z1), []) => some z1
  | _ => none
def yzi (k : Nat) : PG := fun _ l K => (yzf l).bind fun a => (I_TensorOk k a).bind fun r => K (yzg r)
theorem yzj (k : Nat) (a : Tensor) : ev (yza k) (yzd (Bool) k) 0 yzc (st0 Tryz.f54 (yze a)) (fin Tryz.prog Tryz.f54 (.sc) yzh) = I_TensorOk k a := by kernel_rfl
theorem yzk (k : Nat) : PureOk Tryz.prog 54 (yzi k) :=
  pureOk_of_ev (yzb k) Tryz.func54 (by kernel_rfl) (by kernel_rfl) yze yzf
    (fun l a h => by unfold yzf at h; split at h <;> first | (cases h; rfl) | cases h) (fun a => rfl) (lpgood_none (by kernel_rfl))
    (fun o r h => by unfold yzh at h; split at h <;> first | (cases h; rfl) | cases h) (yzj k)
def yzl (k : Nat) : Orc := pureOrc [.agg [(.int .i64), (.int .i64), (.int .i64), (.sl (.int .i64))]] (yzi k)
theorem yzm (k : Nat) : OrcOk Tryz.prog 54 (yzl k) := pureOrc_ok (yzk k)
noncomputable def yzn (k : Nat) : Env := { P := Tryz.prog, tt := tt, orc := fun g => cond (Nat.beq g 52) (yz8 k) (cond (Nat.beq g 76) (yyv k) (noOrc)) }
theorem yzo (k : Nat) : EnvOk (yzn k) := fun g => (orc_cond (yz9 k) (orc_cond (yyw k) (noOrc_ok _ _)))
noncomputable def yzp : Code := (Tryz.f55.body).getD .skip
def yzq (ρ : Type) (k : Nat) : Nat → Ev ρ → Ev ρ := fun _ _ _ _ => none
def yzr (a : Model) : List Arg := [.agg [.int .i64 a.inp.h, .int .i64 a.inp.w, .int .i64 a.inp.c, .sl (.st .layer) a.layers]]
def yzs (l : List Arg) : Option (Model) := match l with
  | [.agg [.int .i64 b0_0, .int .i64 b0_1, .int .i64 b0_2, .sl (.st .layer) b0_3]] => some (⟨(⟨b0_0, b0_1, b0_2⟩ : Shape), b0_3⟩ : Model)
  | _ => none
def yzt (r : List Shape) : Out := (.own 0, [.arr none (.st .shape) r])
def yzu (o : Out) : Option (List Shape) := match o with
  | (.own 0, [.arr none (.st .shape) z1]) => some z1
  | _ => none
def yzv (k : Nat) : PG := fun _ l K => (yzs l).bind fun a => (I_ShapesOf k a).bind fun r => K (yzt r)
theorem yzw (k : Nat) (a : Model) : ev (yzn k) (yzq (List Shape) k) 0 yzp (st0 Tryz.f55 (yzr a)) (fin Tryz.prog Tryz.f55 (.own (.st .shape)) yzu) = I_ShapesOf k a := by kernel_rfl
theorem yzx (k : Nat) : PureOk Tryz.prog 55 (yzv k) :=
  pureOk_of_ev (yzo k) Tryz.func55 (by kernel_rfl) (by kernel_rfl) yzr yzs
    (fun l a h => by unfold yzs at h; split at h <;> first | (cases h; rfl) | cases h) (fun a => rfl) (lpgood_none (by kernel_rfl))
    (fun o r h => by unfold yzu at h; split at h <;> first | (cases h; rfl) | cases h) (yzw k)
def yzy (k : Nat) : Orc := pureOrc [.agg [(.int .i64), (.int .i64), (.int .i64), (.sl (.st .layer))]] (yzv k)
theorem yzz (k : Nat) : OrcOk Tryz.prog 55 (yzy k) := pureOrc_ok (yzx k)
noncomputable def y100 (k : Nat) : Env := { P := Tryz.prog, tt := tt, orc := fun g => cond (Nat.beq g 78) (yst k) (cond (Nat.beq g 83) (yy6 k) (noOrc)) }
theorem y101 (k : Nat) : EnvOk (y100 k) := fun g => (orc_cond (ysu k) (orc_cond (yy7 k) (noOrc_ok _ _)))
noncomputable def y102 : Code := (Tryz.f80.body).getD .skip
def y103 (ρ : Type) (k : Nat) : Nat → Ev ρ → Ev ρ := fun _ _ _ _ => none
def y104 (a : Shape × Layer) : List Arg := [.agg [.int .i64 a.1.h, .int .i64 a.1.w, .int .i64 a.1.c], .agg [.int .i64 a.2.kind, .int .i64 a.2.out, .int .i64 a.2.size, .int .i64 a.2.step, .int .i64 a.2.mult, .int .i64 a.2.shift, .int .i64 a.2.zero, .sl (.int .i64) a.2.weights, .sl (.int .i64) a.2.bias]]
def y105 (l : List Arg) : Option (Shape × Layer) := match l with
  | [.agg [.int .i64 b0_0, .int .i64 b0_1, .int .i64 b0_2], .agg [.int .i64 b1_0, .int .i64 b1_1, .int .i64 b1_2, .int .i64 b1_3, .int .i64 b1_4, .int .i64 b1_5, .int .i64 b1_6, .sl (.int .i64) b1_7, .sl (.int .i64) b1_8]] => some ((⟨b0_0, b0_1, b0_2⟩ : Shape), (⟨b1_0, b1_1, b1_2, b1_3, b1_4, b1_5, b1_6, b1_7, b1_8⟩ : Layer))
  | _ => none
def y106 (r : Int) : Out := (.r [] (.int .i64 r), [])
def y107 (o : Out) : Option (Int) := match o with
  | (.r [] (.int .i64 z1), []) => some z1
  | _ => none
def y108 (k : Nat) : PG := fun _ l K => (y105 l).bind fun a => (I_CostOf k a.1 a.2).bind fun r => K (y106 r)
theorem y109 (k : Nat) (a : Shape × Layer) : ev (y100 k) (y103 (Int) k) 0 y102 (st0 Tryz.f80 (y104 a)) (fin Tryz.prog Tryz.f80 (.sc) y107) = I_CostOf k a.1 a.2 := by kernel_rfl
theorem y10a (k : Nat) : PureOk Tryz.prog 80 (y108 k) :=
  pureOk_of_ev (y101 k) Tryz.func80 (by kernel_rfl) (by kernel_rfl) y104 y105
    (fun l a h => by unfold y105 at h; split at h <;> first | (cases h; rfl) | cases h) (fun a => rfl) (lpgood_none (by kernel_rfl))
    (fun o r h => by unfold y107 at h; split at h <;> first | (cases h; rfl) | cases h) (y109 k)
def y10b (k : Nat) : Orc := pureOrc [.agg [(.int .i64), (.int .i64), (.int .i64)], .agg [(.int .i64), (.int .i64), (.int .i64), (.int .i64), (.int .i64), (.int .i64), (.int .i64), (.sl (.int .i64)), (.sl (.int .i64))]] (y108 k)
theorem y10c (k : Nat) : OrcOk Tryz.prog 80 (y10b k) := pureOrc_ok (y10a k)
noncomputable def y10d (k : Nat) : Env := { P := Tryz.prog, tt := tt, orc := fun g => cond (Nat.beq g 55) (yzy k) (cond (Nat.beq g 80) (y10b k) (noOrc)) }
theorem y10e (k : Nat) : EnvOk (y10d k) := fun g => (orc_cond (yzz k) (orc_cond (y10c k) (noOrc_ok _ _)))
noncomputable def y10f : Code := (Tryz.f57.body).getD .skip
noncomputable def y10g : Code := ((loopsIn 0 y10f).getD 0 (0, .skip)).2
def y10h : List Nat := [1, 3, 8, 9, 10]
def y10i : List (Where × Co) := []
def y10j : Ex → List Nat
  | .exit j => cond (Nat.beq j 0) [3] []
  | .ret => []
  | .normal => []
def y10k : Ex → List (Where × Co)
  | .exit j => cond (Nat.beq j 0) [] []
  | .ret => []
  | .normal => []
def y10l (pv : (Int × Int × Int × Int × List Layer × List Shape) × (Int × List Int)) : St := { slots := [(1, .ptr 0 0 0), (3, .own 1), (8, .own 2), (9, .r [] (.int .i64 pv.1.1)), (10, .r [] (.int .i64 pv.2.1))], heap := [(0, .box [.r [] (.int .i64 pv.1.2.1), .r [] (.int .i64 pv.1.2.2.1), .r [] (.int .i64 pv.1.2.2.2.1), .r [] (.sl (.st .layer) pv.1.2.2.2.2.1)]), (1, .arr none (.int .i64) pv.2.2), (2, .arr none (.st .shape) pv.1.2.2.2.2.2)], nid := 3, n := 32, gh := [] }
def y10m (nf : NF) : Option ((Int × Int × Int × Int × List Layer × List Shape) × (Int × List Int)) := match nf with
  | ([.ptr 0 0 0, .own 1, .own 2, .r [] (.int .i64 w0), .r [] (.int .i64 w1)], [.box [.r [] (.int .i64 w2), .r [] (.int .i64 w3), .r [] (.int .i64 w4), .r [] (.sl (.st .layer) w5)], .arr none (.int .i64) w6, .arr none (.st .shape) w7], []) => some ((w0, w2, w3, w4, w5, w7), (w1, w6))
  | _ => none
theorem y10n (nf : NF) (v : (Int × Int × Int × Int × List Layer × List Shape) × (Int × List Int)) (h : y10m nf = some v) : denorm y10h 32 nf = y10l v := by
  unfold y10m at h
  split at h
  · cases h; rfl
  · cases h
def y10o (p : Int × Int × Int × Int × List Layer × List Shape) (x : List Int) : St := { slots := [(3, .own 0)], heap := [(0, .arr none (.int .i64) x)], nid := 1, n := 32, gh := [] }
def y10p (ρ : Type) (k : Nat) : Nat → Ev ρ → Ev ρ := fun id f => cond (Nat.beq id 0) (loopOrc y10h y10i (fun n nf => cond (Nat.beq n 32) (y10m nf) none) fun pv K => iter (fun v next => I_CostsOf_g0 k pv.1 v next (fun x => K (.exit 0) (y10o pv.1 x))) k pv.2) ((fun _ _ _ _ => none) id f)
theorem y10q {ρ : Type} (k : Nat) (p : Int × Int × Int × Int × List Layer × List Shape) (v : Int × List Int) (K K1 : Ex → St → Option ρ) : ev (y10d k) (y10p ρ k) 0 y10g (y10l (p, v)) (fun e st' => match e with
    | .normal => (normC y10h y10i st').bind fun nf => K1 .normal (denorm y10h st'.n nf)
    | e => (normC (y10j e) (y10k e) st').bind fun nf => K e (denorm (y10j e) st'.n nf)) = I_CostsOf_g0 k p v (fun v' => K1 .normal (y10l (p, v'))) (fun x => K (.exit 0) (y10o p x)) := by kernel_rfl
theorem y10r {ρ : Type} (k : Nat) : Sound Tryz.prog (.loop y10g) (y10p ρ k 0 fun st K => ev (y10d k) (y10p ρ k) 0 y10g st K) :=
  loop_ok (ev_sound (y10e k) y10g 0 (lpgood_none (by kernel_rfl))) y10j y10k k (g := fun p v next K => I_CostsOf_g0 k p v next (fun x => K (.exit 0) (y10o p x))) (dec_at y10n) (fun p v K K1 => y10q k p v K K1)
def y10s (a : Model) : List Arg := [.agg [.int .i64 a.inp.h, .int .i64 a.inp.w, .int .i64 a.inp.c, .sl (.st .layer) a.layers]]
def y10t (l : List Arg) : Option (Model) := match l with
  | [.agg [.int .i64 b0_0, .int .i64 b0_1, .int .i64 b0_2, .sl (.st .layer) b0_3]] => some (⟨(⟨b0_0, b0_1, b0_2⟩ : Shape), b0_3⟩ : Model)
  | _ => none
def y10u (r : List Int) : Out := (.own 0, [.arr none (.int .i64) r])
def y10v (o : Out) : Option (List Int) := match o with
  | (.own 0, [.arr none (.int .i64) z1]) => some z1
  | _ => none
def y10w (k : Nat) : PG := fun _ l K => (y10t l).bind fun a => (I_CostsOf k a).bind fun r => K (y10u r)
theorem y10x (k : Nat) (a : Model) : ev (y10d k) (y10p (List Int) k) 0 y10f (st0 Tryz.f57 (y10s a)) (fin Tryz.prog Tryz.f57 (.own (.int .i64)) y10v) = I_CostsOf k a := by kernel_rfl
theorem y10y (k : Nat) : PureOk Tryz.prog 57 (y10w k) :=
  pureOk_of_ev (y10e k) Tryz.func57 (by kernel_rfl) (by kernel_rfl) y10s y10t
    (fun l a h => by unfold y10t at h; split at h <;> first | (cases h; rfl) | cases h) (fun a => rfl) (lpgood_of (l := [(0, y10g)]) (by kernel_rfl) ⟨y10r k, trivial⟩)
    (fun o r h => by unfold y10v at h; split at h <;> first | (cases h; rfl) | cases h) (y10x k)
def y10z (k : Nat) : Orc := pureOrc [.agg [(.int .i64), (.int .i64), (.int .i64), (.sl (.st .layer))]] (y10w k)
theorem y110 (k : Nat) : OrcOk Tryz.prog 57 (y10z k) := pureOrc_ok (y10y k)
noncomputable def y111 (k : Nat) : Env := { P := Tryz.prog, tt := tt, orc := fun g => noOrc }
theorem y112 (k : Nat) : EnvOk (y111 k) := fun g => (noOrc_ok _ _)
noncomputable def y113 : Code := (Tryz.f56.body).getD .skip
noncomputable def y114 : Code := ((loopsIn 0 y113).getD 0 (0, .skip)).2
def y115 : List Nat := [3, 6, 7, 8]
def y116 : List (Where × Co) := []
def y117 : Ex → List Nat
  | .exit j => cond (Nat.beq j 0) [3] []
  | .ret => []
  | .normal => []
def y118 : Ex → List (Where × Co)
  | .exit j => cond (Nat.beq j 0) [] []
  | .ret => []
  | .normal => []
def y119 (pv : (List Int × Int) × (Int × Int)) : St := { slots := [(3, .r [] (.int .i64 pv.2.1)), (6, .r [] (.sl (.int .i64) pv.1.1)), (7, .r [] (.int .i64 pv.1.2)), (8, .r [] (.int .i64 pv.2.2))], heap := [], nid := 0, n := 17, gh := [] }
def y11a (nf : NF) : Option ((List Int × Int) × (Int × Int)) := match nf with
  | ([.r [] (.int .i64 w0), .r [] (.sl (.int .i64) w1), .r [] (.int .i64 w2), .r [] (.int .i64 w3)], [], []) => some ((w1, w2), (w0, w3))
  | _ => none
theorem y11b (nf : NF) (v : (List Int × Int) × (Int × Int)) (h : y11a nf = some v) : denorm y115 17 nf = y119 v := by
  unfold y11a at h
  split at h
  · cases h; rfl
  · cases h
def y11c (p : List Int × Int) (x : Int) : St := { slots := [(3, .r [] (.int .i64 x))], heap := [], nid := 0, n := 17, gh := [] }
def y11d (ρ : Type) (k : Nat) : Nat → Ev ρ → Ev ρ := fun id f => cond (Nat.beq id 0) (loopOrc y115 y116 (fun n nf => cond (Nat.beq n 17) (y11a nf) none) fun pv K => iter (fun v next => I_sum_g0 k pv.1 v next (fun x => K (.exit 0) (y11c pv.1 x))) k pv.2) ((fun _ _ _ _ => none) id f)
theorem y11e {ρ : Type} (k : Nat) (p : List Int × Int) (v : Int × Int) (K K1 : Ex → St → Option ρ) : ev (y111 k) (y11d ρ k) 0 y114 (y119 (p, v)) (fun e st' => match e with
    | .normal => (normC y115 y116 st').bind fun nf => K1 .normal (denorm y115 st'.n nf)
    | e => (normC (y117 e) (y118 e) st').bind fun nf => K e (denorm (y117 e) st'.n nf)) = I_sum_g0 k p v (fun v' => K1 .normal (y119 (p, v'))) (fun x => K (.exit 0) (y11c p x)) := by kernel_rfl
theorem y11f {ρ : Type} (k : Nat) : Sound Tryz.prog (.loop y114) (y11d ρ k 0 fun st K => ev (y111 k) (y11d ρ k) 0 y114 st K) :=
  loop_ok (ev_sound (y112 k) y114 0 (lpgood_none (by kernel_rfl))) y117 y118 k (g := fun p v next K => I_sum_g0 k p v next (fun x => K (.exit 0) (y11c p x))) (dec_at y11b) (fun p v K K1 => y11e k p v K K1)
def y11g (a : List Int) : List Arg := [.one (.sl (.int .i64) a)]
def y11h (l : List Arg) : Option (List Int) := match l with
  | [.one (.sl (.int .i64) b0)] => some b0
  | _ => none
def y11i (r : Int) : Out := (.r [] (.int .i64 r), [])
def y11j (o : Out) : Option (Int) := match o with
  | (.r [] (.int .i64 z1), []) => some z1
  | _ => none
def y11k (k : Nat) : PG := fun _ l K => (y11h l).bind fun a => (I_sum k a).bind fun r => K (y11i r)
theorem y11l (k : Nat) (a : List Int) : ev (y111 k) (y11d (Int) k) 0 y113 (st0 Tryz.f56 (y11g a)) (fin Tryz.prog Tryz.f56 (.sc) y11j) = I_sum k a := by kernel_rfl
theorem y11m (k : Nat) : PureOk Tryz.prog 56 (y11k k) :=
  pureOk_of_ev (y112 k) Tryz.func56 (by kernel_rfl) (by kernel_rfl) y11g y11h
    (fun l a h => by unfold y11h at h; split at h <;> first | (cases h; rfl) | cases h) (fun a => rfl) (lpgood_of (l := [(0, y114)]) (by kernel_rfl) ⟨y11f k, trivial⟩)
    (fun o r h => by unfold y11j at h; split at h <;> first | (cases h; rfl) | cases h) (y11l k)
def y11n (k : Nat) : Orc := pureOrc [.one (.sl (.int .i64))] (y11k k)
theorem y11o (k : Nat) : OrcOk Tryz.prog 56 (y11n k) := pureOrc_ok (y11m k)
noncomputable def y11p (k : Nat) : Env := { P := Tryz.prog, tt := tt, orc := fun g => cond (Nat.beq g 52) (yz8 k) (cond (Nat.beq g 53) (o_I_in k) (cond (Nat.beq g 54) (yzl k) (cond (Nat.beq g 55) (yzy k) (cond (Nat.beq g 56) (y11n k) (cond (Nat.beq g 57) (y10z k) (noOrc)))))) }
theorem y11q (k : Nat) : EnvOk (y11p k) := fun g => (orc_cond (yz9 k) (orc_cond (ys4 k) (orc_cond (yzm k) (orc_cond (yzz k) (orc_cond (y11o k) (orc_cond (y110 k) (noOrc_ok _ _)))))))
noncomputable def y11r : Code := (Tryz.f27.body).getD .skip
def y11s (ρ : Type) (k : Nat) : Nat → Ev ρ → Ev ρ := fun _ _ _ _ => none
def y11t (a : Job) : List Arg := [.agg [.int .i64 a.model.inp.h, .int .i64 a.model.inp.w, .int .i64 a.model.inp.c, .sl (.st .layer) a.model.layers, .int .i64 a.at_, .int .i64 a.act.sh.h, .int .i64 a.act.sh.w, .int .i64 a.act.sh.c, .sl (.int .i64) a.act.data, .int .i64 a.spent]]
def y11u (l : List Arg) : Option (Job) := match l with
  | [.agg [.int .i64 b0_0, .int .i64 b0_1, .int .i64 b0_2, .sl (.st .layer) b0_3, .int .i64 b0_4, .int .i64 b0_5, .int .i64 b0_6, .int .i64 b0_7, .sl (.int .i64) b0_8, .int .i64 b0_9]] => some (⟨(⟨(⟨b0_0, b0_1, b0_2⟩ : Shape), b0_3⟩ : Model), b0_4, (⟨(⟨b0_5, b0_6, b0_7⟩ : Shape), b0_8⟩ : Tensor), b0_9⟩ : Job)
  | _ => none
def y11v (r : Bool) : Out := (.r [] (.bool r), [])
def y11w (o : Out) : Option (Bool) := match o with
  | (.r [] (.bool z1), []) => some z1
  | _ => none
def y11x (k : Nat) : PG := fun _ l K => (y11u l).bind fun a => (I_JobOk k a).bind fun r => K (y11v r)
theorem y11y (k : Nat) (a : Job) : ev (y11p k) (y11s (Bool) k) 0 y11r (st0 Tryz.f27 (y11t a)) (fin Tryz.prog Tryz.f27 (.sc) y11w) = I_JobOk k a := by kernel_rfl
theorem y11z (k : Nat) : PureOk Tryz.prog 27 (y11x k) :=
  pureOk_of_ev (y11q k) Tryz.func27 (by kernel_rfl) (by kernel_rfl) y11t y11u
    (fun l a h => by unfold y11u at h; split at h <;> first | (cases h; rfl) | cases h) (fun a => rfl) (lpgood_none (by kernel_rfl))
    (fun o r h => by unfold y11w at h; split at h <;> first | (cases h; rfl) | cases h) (y11y k)
def y120 (k : Nat) : Orc := pureOrc [.agg [(.int .i64), (.int .i64), (.int .i64), (.sl (.st .layer)), (.int .i64), (.int .i64), (.int .i64), (.int .i64), (.sl (.int .i64)), (.int .i64)]] (y11x k)
theorem y121 (k : Nat) : OrcOk Tryz.prog 27 (y120 k) := pureOrc_ok (y11z k)
noncomputable def y122 (k : Nat) : Env := { P := Tryz.prog, tt := tt, orc := fun g => noOrc }
theorem y123 (k : Nat) : EnvOk (y122 k) := fun g => (noOrc_ok _ _)
noncomputable def y124 : Code := (Tryz.f29.body).getD .skip
def y125 (ρ : Type) (k : Nat) : Nat → Ev ρ → Ev ρ := fun _ _ _ _ => none
def y126 (a : Job) : List Arg := [.agg [.int .i64 a.model.inp.h, .int .i64 a.model.inp.w, .int .i64 a.model.inp.c, .sl (.st .layer) a.model.layers, .int .i64 a.at_, .int .i64 a.act.sh.h, .int .i64 a.act.sh.w, .int .i64 a.act.sh.c, .sl (.int .i64) a.act.data, .int .i64 a.spent]]
def y127 (l : List Arg) : Option (Job) := match l with
  | [.agg [.int .i64 b0_0, .int .i64 b0_1, .int .i64 b0_2, .sl (.st .layer) b0_3, .int .i64 b0_4, .int .i64 b0_5, .int .i64 b0_6, .int .i64 b0_7, .sl (.int .i64) b0_8, .int .i64 b0_9]] => some (⟨(⟨(⟨b0_0, b0_1, b0_2⟩ : Shape), b0_3⟩ : Model), b0_4, (⟨(⟨b0_5, b0_6, b0_7⟩ : Shape), b0_8⟩ : Tensor), b0_9⟩ : Job)
  | _ => none
def y128 (r : Bool) : Out := (.r [] (.bool r), [])
def y129 (o : Out) : Option (Bool) := match o with
  | (.r [] (.bool z1), []) => some z1
  | _ => none
def y12a (k : Nat) : PG := fun _ l K => (y127 l).bind fun a => (I_Job_isDone k a).bind fun r => K (y128 r)
theorem y12b (k : Nat) (a : Job) : ev (y122 k) (y125 (Bool) k) 0 y124 (st0 Tryz.f29 (y126 a)) (fin Tryz.prog Tryz.f29 (.sc) y129) = I_Job_isDone k a := by kernel_rfl
theorem y12c (k : Nat) : PureOk Tryz.prog 29 (y12a k) :=
  pureOk_of_ev (y123 k) Tryz.func29 (by kernel_rfl) (by kernel_rfl) y126 y127
    (fun l a h => by unfold y127 at h; split at h <;> first | (cases h; rfl) | cases h) (fun a => rfl) (lpgood_none (by kernel_rfl))
    (fun o r h => by unfold y129 at h; split at h <;> first | (cases h; rfl) | cases h) (y12b k)
def y12d (k : Nat) : Orc := pureOrc [.agg [(.int .i64), (.int .i64), (.int .i64), (.sl (.st .layer)), (.int .i64), (.int .i64), (.int .i64), (.int .i64), (.sl (.int .i64)), (.int .i64)]] (y12a k)
theorem y12e (k : Nat) : OrcOk Tryz.prog 29 (y12d k) := pureOrc_ok (y12c k)
noncomputable def y12f (k : Nat) : Env := { P := Tryz.prog, tt := tt, orc := fun g => cond (Nat.beq g 27) (y120 k) (cond (Nat.beq g 57) (y10z k) (noOrc)) }
theorem y12g (k : Nat) : EnvOk (y12f k) := fun g => (orc_cond (y121 k) (orc_cond (y110 k) (noOrc_ok _ _)))
noncomputable def y12h : Code := (Tryz.f67.body).getD .skip
def y12i (ρ : Type) (k : Nat) : Nat → Ev ρ → Ev ρ := fun _ _ _ _ => none
def y12j (a : Job) : List Arg := [.agg [.int .i64 a.model.inp.h, .int .i64 a.model.inp.w, .int .i64 a.model.inp.c, .sl (.st .layer) a.model.layers, .int .i64 a.at_, .int .i64 a.act.sh.h, .int .i64 a.act.sh.w, .int .i64 a.act.sh.c, .sl (.int .i64) a.act.data, .int .i64 a.spent]]
def y12k (l : List Arg) : Option (Job) := match l with
  | [.agg [.int .i64 b0_0, .int .i64 b0_1, .int .i64 b0_2, .sl (.st .layer) b0_3, .int .i64 b0_4, .int .i64 b0_5, .int .i64 b0_6, .int .i64 b0_7, .sl (.int .i64) b0_8, .int .i64 b0_9]] => some (⟨(⟨(⟨b0_0, b0_1, b0_2⟩ : Shape), b0_3⟩ : Model), b0_4, (⟨(⟨b0_5, b0_6, b0_7⟩ : Shape), b0_8⟩ : Tensor), b0_9⟩ : Job)
  | _ => none
def y12l (r : List Int) : Out := (.r [] (.sl (.int .i64) r), [])
def y12m (o : Out) : Option (List Int) := match o with
  | (.r [] (.sl (.int .i64) z1), []) => some z1
  | _ => none
def y12n (k : Nat) : PG := fun _ l K => (y12k l).bind fun a => (I_LeftOf k a).bind fun r => K (y12l r)
theorem y12o (k : Nat) (a : Job) : ev (y12f k) (y12i (List Int) k) 0 y12h (st0 Tryz.f67 (y12j a)) (fin Tryz.prog Tryz.f67 (.ro (.int .i64)) y12m) = I_LeftOf k a := by kernel_rfl
theorem y12p (k : Nat) : PureOk Tryz.prog 67 (y12n k) :=
  pureOk_of_ev (y12g k) Tryz.func67 (by kernel_rfl) (by kernel_rfl) y12j y12k
    (fun l a h => by unfold y12k at h; split at h <;> first | (cases h; rfl) | cases h) (fun a => rfl) (lpgood_none (by kernel_rfl))
    (fun o r h => by unfold y12m at h; split at h <;> first | (cases h; rfl) | cases h) (y12o k)
def y12q (k : Nat) : Orc := pureOrc [.agg [(.int .i64), (.int .i64), (.int .i64), (.sl (.st .layer)), (.int .i64), (.int .i64), (.int .i64), (.int .i64), (.sl (.int .i64)), (.int .i64)]] (y12n k)
theorem y12r (k : Nat) : OrcOk Tryz.prog 67 (y12q k) := pureOrc_ok (y12p k)
noncomputable def y12s (k : Nat) : Env := { P := Tryz.prog, tt := tt, orc := fun g => cond (Nat.beq g 67) (y12q k) (noOrc) }
theorem y12t (k : Nat) : EnvOk (y12s k) := fun g => (orc_cond (y12r k) (noOrc_ok _ _))
noncomputable def y12u : Code := (Tryz.f40.body).getD .skip
def y12v (ρ : Type) (k : Nat) : Nat → Ev ρ → Ev ρ := fun _ _ _ _ => none
def y12w (a : Job) : List Arg := [.agg [.int .i64 a.model.inp.h, .int .i64 a.model.inp.w, .int .i64 a.model.inp.c, .sl (.st .layer) a.model.layers, .int .i64 a.at_, .int .i64 a.act.sh.h, .int .i64 a.act.sh.w, .int .i64 a.act.sh.c, .sl (.int .i64) a.act.data, .int .i64 a.spent]]
def y12x (l : List Arg) : Option (Job) := match l with
  | [.agg [.int .i64 b0_0, .int .i64 b0_1, .int .i64 b0_2, .sl (.st .layer) b0_3, .int .i64 b0_4, .int .i64 b0_5, .int .i64 b0_6, .int .i64 b0_7, .sl (.int .i64) b0_8, .int .i64 b0_9]] => some (⟨(⟨(⟨b0_0, b0_1, b0_2⟩ : Shape), b0_3⟩ : Model), b0_4, (⟨(⟨b0_5, b0_6, b0_7⟩ : Shape), b0_8⟩ : Tensor), b0_9⟩ : Job)
  | _ => none
def y12y (r : Int) : Out := (.r [] (.int .i64 r), [])
def y12z (o : Out) : Option (Int) := match o with
  | (.r [] (.int .i64 z1), []) => some z1
  | _ => none
def y130 (k : Nat) : PG := fun _ l K => (y12x l).bind fun a => (I_NextCost k a).bind fun r => K (y12y r)
theorem y131 (k : Nat) (a : Job) : ev (y12s k) (y12v (Int) k) 0 y12u (st0 Tryz.f40 (y12w a)) (fin Tryz.prog Tryz.f40 (.sc) y12z) = I_NextCost k a := by kernel_rfl
theorem y132 (k : Nat) : PureOk Tryz.prog 40 (y130 k) :=
  pureOk_of_ev (y12t k) Tryz.func40 (by kernel_rfl) (by kernel_rfl) y12w y12x
    (fun l a h => by unfold y12x at h; split at h <;> first | (cases h; rfl) | cases h) (fun a => rfl) (lpgood_none (by kernel_rfl))
    (fun o r h => by unfold y12z at h; split at h <;> first | (cases h; rfl) | cases h) (y131 k)
def y133 (k : Nat) : Orc := pureOrc [.agg [(.int .i64), (.int .i64), (.int .i64), (.sl (.st .layer)), (.int .i64), (.int .i64), (.int .i64), (.int .i64), (.sl (.int .i64)), (.int .i64)]] (y130 k)
theorem y134 (k : Nat) : OrcOk Tryz.prog 40 (y133 k) := pureOrc_ok (y132 k)
noncomputable def y135 (k : Nat) : Env := { P := Tryz.prog, tt := tt, orc := fun g => noOrc }
theorem y136 (k : Nat) : EnvOk (y135 k) := fun g => (noOrc_ok _ _)
noncomputable def y137 : Code := (Tryz.f121.body).getD .skip
def y138 (ρ : Type) (k : Nat) : Nat → Ev ρ → Ev ρ := fun _ _ _ _ => none
def y139 (a : Int × Int × Int) : List Arg := [.one (.int .i64 a.1), .one (.int .i64 a.2.1), .one (.int .i64 a.2.2)]
def y13a (l : List Arg) : Option (Int × Int × Int) := match l with
  | [.one (.int .i64 b0), .one (.int .i64 b1), .one (.int .i64 b2)] => some (b0, b1, b2)
  | _ => none
def y13b (r : Int) : Out := (.r [] (.int .i64 r), [])
def y13c (o : Out) : Option (Int) := match o with
  | (.r [] (.int .i64 z1), []) => some z1
  | _ => none
def y13d (k : Nat) : PG := fun _ l K => (y13a l).bind fun a => (I_cut k a.1 a.2.1 a.2.2).bind fun r => K (y13b r)
theorem y13e (k : Nat) (a : Int × Int × Int) : ev (y135 k) (y138 (Int) k) 0 y137 (st0 Tryz.f121 (y139 a)) (fin Tryz.prog Tryz.f121 (.sc) y13c) = I_cut k a.1 a.2.1 a.2.2 := by kernel_rfl
theorem y13f (k : Nat) : PureOk Tryz.prog 121 (y13d k) :=
  pureOk_of_ev (y136 k) Tryz.func121 (by kernel_rfl) (by kernel_rfl) y139 y13a
    (fun l a h => by unfold y13a at h; split at h <;> first | (cases h; rfl) | cases h) (fun a => rfl) (lpgood_none (by kernel_rfl))
    (fun o r h => by unfold y13c at h; split at h <;> first | (cases h; rfl) | cases h) (y13e k)
def y13g (k : Nat) : Orc := pureOrc [.one (.int .i64), .one (.int .i64), .one (.int .i64)] (y13d k)
theorem y13h (k : Nat) : OrcOk Tryz.prog 121 (y13g k) := pureOrc_ok (y13f k)
noncomputable def y13i (k : Nat) : Env := { P := Tryz.prog, tt := tt, orc := fun g => cond (Nat.beq g 121) (y13g k) (noOrc) }
theorem y13j (k : Nat) : EnvOk (y13i k) := fun g => (orc_cond (y13h k) (noOrc_ok _ _))
noncomputable def y13k : Code := (Tryz.f117.body).getD .skip
def y13l (ρ : Type) (k : Nat) : Nat → Ev ρ → Ev ρ := fun _ _ _ _ => none
def y13m (a : Int) : List Arg := [.one (.int .i64 a)]
def y13n (l : List Arg) : Option (Int) := match l with
  | [.one (.int .i64 b0)] => some b0
  | _ => none
def y13o (r : Int) : Out := (.r [] (.int .i64 r), [])
def y13p (o : Out) : Option (Int) := match o with
  | (.r [] (.int .i64 z1), []) => some z1
  | _ => none
def y13q (k : Nat) : PG := fun _ l K => (y13n l).bind fun a => (I_Sat8 k a).bind fun r => K (y13o r)
theorem y13r (k : Nat) (a : Int) : ev (y13i k) (y13l (Int) k) 0 y13k (st0 Tryz.f117 (y13m a)) (fin Tryz.prog Tryz.f117 (.sc) y13p) = I_Sat8 k a := by kernel_rfl
theorem y13s (k : Nat) : PureOk Tryz.prog 117 (y13q k) :=
  pureOk_of_ev (y13j k) Tryz.func117 (by kernel_rfl) (by kernel_rfl) y13m y13n
    (fun l a h => by unfold y13n at h; split at h <;> first | (cases h; rfl) | cases h) (fun a => rfl) (lpgood_none (by kernel_rfl))
    (fun o r h => by unfold y13p at h; split at h <;> first | (cases h; rfl) | cases h) (y13r k)
def y13t (k : Nat) : Orc := pureOrc [.one (.int .i64)] (y13q k)
theorem y13u (k : Nat) : OrcOk Tryz.prog 117 (y13t k) := pureOrc_ok (y13s k)
noncomputable def y13v (k : Nat) : Env := { P := Tryz.prog, tt := tt, orc := fun g => cond (Nat.beq g 121) (y13g k) (noOrc) }
theorem y13w (k : Nat) : EnvOk (y13v k) := fun g => (orc_cond (y13h k) (noOrc_ok _ _))
noncomputable def y13x : Code := (Tryz.f120.body).getD .skip
def y13y (ρ : Type) (k : Nat) : Nat → Ev ρ → Ev ρ := fun _ _ _ _ => none
def y13z (a : Int) : List Arg := [.one (.int .i64 a)]
def y140 (l : List Arg) : Option (Int) := match l with
  | [.one (.int .i64 b0)] => some b0
  | _ => none
def y141 (r : Int) : Out := (.r [] (.int .i64 r), [])
def y142 (o : Out) : Option (Int) := match o with
  | (.r [] (.int .i64 z1), []) => some z1
  | _ => none
def y143 (k : Nat) : PG := fun _ l K => (y140 l).bind fun a => (I_Sat32 k a).bind fun r => K (y141 r)
theorem y144 (k : Nat) (a : Int) : ev (y13v k) (y13y (Int) k) 0 y13x (st0 Tryz.f120 (y13z a)) (fin Tryz.prog Tryz.f120 (.sc) y142) = I_Sat32 k a := by kernel_rfl
theorem y145 (k : Nat) : PureOk Tryz.prog 120 (y143 k) :=
  pureOk_of_ev (y13w k) Tryz.func120 (by kernel_rfl) (by kernel_rfl) y13z y140
    (fun l a h => by unfold y140 at h; split at h <;> first | (cases h; rfl) | cases h) (fun a => rfl) (lpgood_none (by kernel_rfl))
    (fun o r h => by unfold y142 at h; split at h <;> first | (cases h; rfl) | cases h) (y144 k)
def y146 (k : Nat) : Orc := pureOrc [.one (.int .i64)] (y143 k)
theorem y147 (k : Nat) : OrcOk Tryz.prog 120 (y146 k) := pureOrc_ok (y145 k)
noncomputable def y148 (k : Nat) : Env := { P := Tryz.prog, tt := tt, orc := fun g => cond (Nat.beq g 120) (y146 k) (noOrc) }
theorem y149 (k : Nat) : EnvOk (y148 k) := fun g => (orc_cond (y147 k) (noOrc_ok _ _))
noncomputable def y14a : Code := (Tryz.f114.body).getD .skip
def y14b (ρ : Type) (k : Nat) : Nat → Ev ρ → Ev ρ := fun _ _ _ _ => none
def y14c (a : Int × Int) : List Arg := [.one (.int .i64 a.1), .one (.int .i64 a.2)]
def y14d (l : List Arg) : Option (Int × Int) := match l with
  | [.one (.int .i64 b0), .one (.int .i64 b1)] => some (b0, b1)
  | _ => none
def y14e (r : Int) : Out := (.r [] (.int .i64 r), [])
def y14f (o : Out) : Option (Int) := match o with
  | (.r [] (.int .i64 z1), []) => some z1
  | _ => none
def y14g (k : Nat) : PG := fun _ l K => (y14d l).bind fun a => (I_AddSat k a.1 a.2).bind fun r => K (y14e r)
theorem y14h (k : Nat) (a : Int × Int) : ev (y148 k) (y14b (Int) k) 0 y14a (st0 Tryz.f114 (y14c a)) (fin Tryz.prog Tryz.f114 (.sc) y14f) = I_AddSat k a.1 a.2 := by kernel_rfl
theorem y14i (k : Nat) : PureOk Tryz.prog 114 (y14g k) :=
  pureOk_of_ev (y149 k) Tryz.func114 (by kernel_rfl) (by kernel_rfl) y14c y14d
    (fun l a h => by unfold y14d at h; split at h <;> first | (cases h; rfl) | cases h) (fun a => rfl) (lpgood_none (by kernel_rfl))
    (fun o r h => by unfold y14f at h; split at h <;> first | (cases h; rfl) | cases h) (y14h k)
def y14j (k : Nat) : Orc := pureOrc [.one (.int .i64), .one (.int .i64)] (y14g k)
theorem y14k (k : Nat) : OrcOk Tryz.prog 114 (y14j k) := pureOrc_ok (y14i k)
noncomputable def y14l (k : Nat) : Env := { P := Tryz.prog, tt := tt, orc := fun g => cond (Nat.beq g 114) (y14j k) (cond (Nat.beq g 117) (y13t k) (noOrc)) }
theorem y14m (k : Nat) : EnvOk (y14l k) := fun g => (orc_cond (y14k k) (orc_cond (y13u k) (noOrc_ok _ _)))
noncomputable def y14n : Code := (Tryz.f112.body).getD .skip
noncomputable def y14o : Code := ((loopsIn 0 y14n).getD 0 (0, .skip)).2
def y14p : List Nat := [0, 1, 5, 11, 12]
def y14q : List (Where × Co) := []
def y14r : Ex → List Nat
  | .exit j => cond (Nat.beq j 0) [5] []
  | .ret => []
  | .normal => []
def y14s : Ex → List (Where × Co)
  | .exit j => cond (Nat.beq j 0) [] []
  | .ret => []
  | .normal => []
def y14t (pv : (List Int × List Int × Int) × (Int × Int)) : St := { slots := [(0, .r [] (.sl (.int .i64) pv.1.1)), (1, .r [] (.sl (.int .i64) pv.1.2.1)), (5, .r [] (.int .i64 pv.2.1)), (11, .r [] (.int .i64 pv.1.2.2)), (12, .r [] (.int .i64 pv.2.2))], heap := [], nid := 0, n := 30, gh := [] }
def y14u (nf : NF) : Option ((List Int × List Int × Int) × (Int × Int)) := match nf with
  | ([.r [] (.sl (.int .i64) w0), .r [] (.sl (.int .i64) w1), .r [] (.int .i64 w2), .r [] (.int .i64 w3), .r [] (.int .i64 w4)], [], []) => some ((w0, w1, w3), (w2, w4))
  | _ => none
theorem y14v (nf : NF) (v : (List Int × List Int × Int) × (Int × Int)) (h : y14u nf = some v) : denorm y14p 30 nf = y14t v := by
  unfold y14u at h
  split at h
  · cases h; rfl
  · cases h
def y14w (p : List Int × List Int × Int) (x : Int) : St := { slots := [(5, .r [] (.int .i64 x))], heap := [], nid := 0, n := 30, gh := [] }
def y14x (ρ : Type) (k : Nat) : Nat → Ev ρ → Ev ρ := fun id f => cond (Nat.beq id 0) (loopOrc y14p y14q (fun n nf => cond (Nat.beq n 30) (y14u nf) none) fun pv K => iter (fun v next => I_DotOf_g0 k pv.1 v next (fun x => K (.exit 0) (y14w pv.1 x))) k pv.2) ((fun _ _ _ _ => none) id f)
theorem y14y {ρ : Type} (k : Nat) (p : List Int × List Int × Int) (v : Int × Int) (K K1 : Ex → St → Option ρ) : ev (y14l k) (y14x ρ k) 0 y14o (y14t (p, v)) (fun e st' => match e with
    | .normal => (normC y14p y14q st').bind fun nf => K1 .normal (denorm y14p st'.n nf)
    | e => (normC (y14r e) (y14s e) st').bind fun nf => K e (denorm (y14r e) st'.n nf)) = I_DotOf_g0 k p v (fun v' => K1 .normal (y14t (p, v'))) (fun x => K (.exit 0) (y14w p x)) := by kernel_rfl
theorem y14z {ρ : Type} (k : Nat) : Sound Tryz.prog (.loop y14o) (y14x ρ k 0 fun st K => ev (y14l k) (y14x ρ k) 0 y14o st K) :=
  loop_ok (ev_sound (y14m k) y14o 0 (lpgood_none (by kernel_rfl))) y14r y14s k (g := fun p v next K => I_DotOf_g0 k p v next (fun x => K (.exit 0) (y14w p x))) (dec_at y14v) (fun p v K K1 => y14y k p v K K1)
def y150 (a : List Int × List Int) : List Arg := [.one (.sl (.int .i64) a.1), .one (.sl (.int .i64) a.2)]
def y151 (l : List Arg) : Option (List Int × List Int) := match l with
  | [.one (.sl (.int .i64) b0), .one (.sl (.int .i64) b1)] => some (b0, b1)
  | _ => none
def y152 (r : Int) : Out := (.r [] (.int .i64 r), [])
def y153 (o : Out) : Option (Int) := match o with
  | (.r [] (.int .i64 z1), []) => some z1
  | _ => none
def y154 (k : Nat) : PG := fun _ l K => (y151 l).bind fun a => (I_DotOf k a.1 a.2).bind fun r => K (y152 r)
theorem y155 (k : Nat) (a : List Int × List Int) : ev (y14l k) (y14x (Int) k) 0 y14n (st0 Tryz.f112 (y150 a)) (fin Tryz.prog Tryz.f112 (.sc) y153) = I_DotOf k a.1 a.2 := by kernel_rfl
theorem y156 (k : Nat) : PureOk Tryz.prog 112 (y154 k) :=
  pureOk_of_ev (y14m k) Tryz.func112 (by kernel_rfl) (by kernel_rfl) y150 y151
    (fun l a h => by unfold y151 at h; split at h <;> first | (cases h; rfl) | cases h) (fun a => rfl) (lpgood_of (l := [(0, y14o)]) (by kernel_rfl) ⟨y14z k, trivial⟩)
    (fun o r h => by unfold y153 at h; split at h <;> first | (cases h; rfl) | cases h) (y155 k)
def y157 (k : Nat) : Orc := pureOrc [.one (.sl (.int .i64)), .one (.sl (.int .i64))] (y154 k)
theorem y158 (k : Nat) : OrcOk Tryz.prog 112 (y157 k) := pureOrc_ok (y156 k)
noncomputable def y159 (k : Nat) : Env := { P := Tryz.prog, tt := tt, orc := fun g => cond (Nat.beq g 120) (y146 k) (noOrc) }
theorem y15a (k : Nat) : EnvOk (y159 k) := fun g => (orc_cond (y147 k) (noOrc_ok _ _))
noncomputable def y15b : Code := (Tryz.f119.body).getD .skip
def y15c (ρ : Type) (k : Nat) : Nat → Ev ρ → Ev ρ := fun _ _ _ _ => none
def y15d (a : Int × Int) : List Arg := [.one (.int .i64 a.1), .one (.int .i64 a.2)]
def y15e (l : List Arg) : Option (Int × Int) := match l with
  | [.one (.int .i64 b0), .one (.int .i64 b1)] => some (b0, b1)
  | _ => none
def y15f (r : Int) : Out := (.r [] (.int .i64 r), [])
def y15g (o : Out) : Option (Int) := match o with
  | (.r [] (.int .i64 z1), []) => some z1
  | _ => none
def y15h (k : Nat) : PG := fun _ l K => (y15e l).bind fun a => (I_MulHigh k a.1 a.2).bind fun r => K (y15f r)
theorem y15i (k : Nat) (a : Int × Int) : ev (y159 k) (y15c (Int) k) 0 y15b (st0 Tryz.f119 (y15d a)) (fin Tryz.prog Tryz.f119 (.sc) y15g) = I_MulHigh k a.1 a.2 := by kernel_rfl
theorem y15j (k : Nat) : PureOk Tryz.prog 119 (y15h k) :=
  pureOk_of_ev (y15a k) Tryz.func119 (by kernel_rfl) (by kernel_rfl) y15d y15e
    (fun l a h => by unfold y15e at h; split at h <;> first | (cases h; rfl) | cases h) (fun a => rfl) (lpgood_none (by kernel_rfl))
    (fun o r h => by unfold y15g at h; split at h <;> first | (cases h; rfl) | cases h) (y15i k)
def y15k (k : Nat) : Orc := pureOrc [.one (.int .i64), .one (.int .i64)] (y15h k)
theorem y15l (k : Nat) : OrcOk Tryz.prog 119 (y15k k) := pureOrc_ok (y15j k)
noncomputable def y15m (k : Nat) : Env := { P := Tryz.prog, tt := tt, orc := fun g => noOrc }
theorem y15n (k : Nat) : EnvOk (y15m k) := fun g => (noOrc_ok _ _)
noncomputable def y15o : Code := (Tryz.f103.body).getD .skip
def y15p (ρ : Type) (k : Nat) : Nat → Ev ρ → Ev ρ := fun _ _ _ _ => none
def y15q (a : Int × Int) : List Arg := [.one (.int .i64 a.1), .one (.int .i64 a.2)]
def y15r (l : List Arg) : Option (Int × Int) := match l with
  | [.one (.int .i64 b0), .one (.int .i64 b1)] => some (b0, b1)
  | _ => none
def y15s (r : Int) : Out := (.r [] (.int .i64 r), [])
def y15t (o : Out) : Option (Int) := match o with
  | (.r [] (.int .i64 z1), []) => some z1
  | _ => none
def y15u (k : Nat) : PG := fun _ l K => (y15r l).bind fun a => (I_rounded__r0 k a.1 a.2).bind fun r => K (y15s r)
theorem y15v (k : Nat) (a : Int × Int) : ev (y15m k) (y15p (Int) k) 0 y15o (st0 Tryz.f103 (y15q a)) (fin Tryz.prog Tryz.f103 (.sc) y15t) = I_rounded__r0 k a.1 a.2 := by kernel_rfl
theorem y15w (k : Nat) : PureOk Tryz.prog 103 (y15u k) :=
  pureOk_of_ev (y15n k) Tryz.func103 (by kernel_rfl) (by kernel_rfl) y15q y15r
    (fun l a h => by unfold y15r at h; split at h <;> first | (cases h; rfl) | cases h) (fun a => rfl) (lpgood_none (by kernel_rfl))
    (fun o r h => by unfold y15t at h; split at h <;> first | (cases h; rfl) | cases h) (y15v k)
def y15x (k : Nat) : Orc := pureOrc [.one (.int .i64), .one (.int .i64)] (y15u k)
theorem y15y (k : Nat) : OrcOk Tryz.prog 103 (y15x k) := pureOrc_ok (y15w k)
noncomputable def y15z (k : Nat) : Env := { P := Tryz.prog, tt := tt, orc := fun g => cond (Nat.beq g 103) (y15x k) (noOrc) }
theorem y160 (k : Nat) : EnvOk (y15z k) := fun g => (orc_cond (y15y k) (noOrc_ok _ _))
noncomputable def y161 : Code := (Tryz.f103.body).getD .skip
def y162 (ρ : Type) (k : Nat) : Nat → Ev ρ → Ev ρ := fun _ _ _ _ => none
def y163 (a : Int × Int) : List Arg := [.one (.int .i64 a.1), .one (.int .i64 a.2)]
def y164 (l : List Arg) : Option (Int × Int) := match l with
  | [.one (.int .i64 b0), .one (.int .i64 b1)] => some (b0, b1)
  | _ => none
def y165 (r : Int) : Out := (.r [] (.int .i64 r), [])
def y166 (o : Out) : Option (Int) := match o with
  | (.r [] (.int .i64 z1), []) => some z1
  | _ => none
def y167 (k : Nat) : PG := fun _ l K => (y164 l).bind fun a => (I_rounded k a.1 a.2).bind fun r => K (y165 r)
theorem y168 (k : Nat) (a : Int × Int) : ev (y15z k) (y162 (Int) k) 0 y161 (st0 Tryz.f103 (y163 a)) (fin Tryz.prog Tryz.f103 (.sc) y166) = I_rounded k a.1 a.2 := by kernel_rfl
theorem y169 (k : Nat) : PureOk Tryz.prog 103 (y167 k) :=
  pureOk_of_ev (y160 k) Tryz.func103 (by kernel_rfl) (by kernel_rfl) y163 y164
    (fun l a h => by unfold y164 at h; split at h <;> first | (cases h; rfl) | cases h) (fun a => rfl) (lpgood_none (by kernel_rfl))
    (fun o r h => by unfold y166 at h; split at h <;> first | (cases h; rfl) | cases h) (y168 k)
def y16a (k : Nat) : Orc := pureOrc [.one (.int .i64), .one (.int .i64)] (y167 k)
theorem y16b (k : Nat) : OrcOk Tryz.prog 103 (y16a k) := pureOrc_ok (y169 k)
noncomputable def y16c (k : Nat) : Env := { P := Tryz.prog, tt := tt, orc := fun g => cond (Nat.beq g 103) (y16a k) (cond (Nat.beq g 120) (y146 k) (cond (Nat.beq g 121) (y13g k) (noOrc))) }
theorem y16d (k : Nat) : EnvOk (y16c k) := fun g => (orc_cond (y16b k) (orc_cond (y147 k) (orc_cond (y13h k) (noOrc_ok _ _))))
noncomputable def y16e : Code := (Tryz.f118.body).getD .skip
def y16f (ρ : Type) (k : Nat) : Nat → Ev ρ → Ev ρ := fun _ _ _ _ => none
def y16g (a : Int × Int) : List Arg := [.one (.int .i64 a.1), .one (.int .i64 a.2)]
def y16h (l : List Arg) : Option (Int × Int) := match l with
  | [.one (.int .i64 b0), .one (.int .i64 b1)] => some (b0, b1)
  | _ => none
def y16i (r : Int) : Out := (.r [] (.int .i64 r), [])
def y16j (o : Out) : Option (Int) := match o with
  | (.r [] (.int .i64 z1), []) => some z1
  | _ => none
def y16k (k : Nat) : PG := fun _ l K => (y16h l).bind fun a => (I_RoundShift k a.1 a.2).bind fun r => K (y16i r)
theorem y16l (k : Nat) (a : Int × Int) : ev (y16c k) (y16f (Int) k) 0 y16e (st0 Tryz.f118 (y16g a)) (fin Tryz.prog Tryz.f118 (.sc) y16j) = I_RoundShift k a.1 a.2 := by kernel_rfl
theorem y16m (k : Nat) : PureOk Tryz.prog 118 (y16k k) :=
  pureOk_of_ev (y16d k) Tryz.func118 (by kernel_rfl) (by kernel_rfl) y16g y16h
    (fun l a h => by unfold y16h at h; split at h <;> first | (cases h; rfl) | cases h) (fun a => rfl) (lpgood_none (by kernel_rfl))
    (fun o r h => by unfold y16j at h; split at h <;> first | (cases h; rfl) | cases h) (y16l k)
def y16n (k : Nat) : Orc := pureOrc [.one (.int .i64), .one (.int .i64)] (y16k k)
theorem y16o (k : Nat) : OrcOk Tryz.prog 118 (y16n k) := pureOrc_ok (y16m k)
noncomputable def y16p (k : Nat) : Env := { P := Tryz.prog, tt := tt, orc := fun g => cond (Nat.beq g 117) (y13t k) (cond (Nat.beq g 118) (y16n k) (cond (Nat.beq g 119) (y15k k) (noOrc))) }
theorem y16q (k : Nat) : EnvOk (y16p k) := fun g => (orc_cond (y13u k) (orc_cond (y16o k) (orc_cond (y15l k) (noOrc_ok _ _))))
noncomputable def y16r : Code := (Tryz.f113.body).getD .skip
def y16s (ρ : Type) (k : Nat) : Nat → Ev ρ → Ev ρ := fun _ _ _ _ => none
def y16t (a : Int × Int × Int × Int) : List Arg := [.one (.int .i64 a.1), .one (.int .i64 a.2.1), .one (.int .i64 a.2.2.1), .one (.int .i64 a.2.2.2)]
def y16u (l : List Arg) : Option (Int × Int × Int × Int) := match l with
  | [.one (.int .i64 b0), .one (.int .i64 b1), .one (.int .i64 b2), .one (.int .i64 b3)] => some (b0, b1, b2, b3)
  | _ => none
def y16v (r : Int) : Out := (.r [] (.int .i64 r), [])
def y16w (o : Out) : Option (Int) := match o with
  | (.r [] (.int .i64 z1), []) => some z1
  | _ => none
def y16x (k : Nat) : PG := fun _ l K => (y16u l).bind fun a => (I_Requant k a.1 a.2.1 a.2.2.1 a.2.2.2).bind fun r => K (y16v r)
theorem y16y (k : Nat) (a : Int × Int × Int × Int) : ev (y16p k) (y16s (Int) k) 0 y16r (st0 Tryz.f113 (y16t a)) (fin Tryz.prog Tryz.f113 (.sc) y16w) = I_Requant k a.1 a.2.1 a.2.2.1 a.2.2.2 := by kernel_rfl
theorem y16z (k : Nat) : PureOk Tryz.prog 113 (y16x k) :=
  pureOk_of_ev (y16q k) Tryz.func113 (by kernel_rfl) (by kernel_rfl) y16t y16u
    (fun l a h => by unfold y16u at h; split at h <;> first | (cases h; rfl) | cases h) (fun a => rfl) (lpgood_none (by kernel_rfl))
    (fun o r h => by unfold y16w at h; split at h <;> first | (cases h; rfl) | cases h) (y16y k)
def y170 (k : Nat) : Orc := pureOrc [.one (.int .i64), .one (.int .i64), .one (.int .i64), .one (.int .i64)] (y16x k)
theorem y171 (k : Nat) : OrcOk Tryz.prog 113 (y170 k) := pureOrc_ok (y16z k)
noncomputable def y172 (k : Nat) : Env := { P := Tryz.prog, tt := tt, orc := fun g => cond (Nat.beq g 112) (y157 k) (cond (Nat.beq g 113) (y170 k) (cond (Nat.beq g 114) (y14j k) (noOrc))) }
theorem y173 (k : Nat) : EnvOk (y172 k) := fun g => (orc_cond (y158 k) (orc_cond (y171 k) (orc_cond (y14k k) (noOrc_ok _ _))))
noncomputable def y174 : Code := (Tryz.f100.body).getD .skip
def y175 (ρ : Type) (k : Nat) : Nat → Ev ρ → Ev ρ := fun _ _ _ _ => none
def y176 (a : Layer × List Int × Int) : List Arg := [.agg [.int .i64 a.1.kind, .int .i64 a.1.out, .int .i64 a.1.size, .int .i64 a.1.step, .int .i64 a.1.mult, .int .i64 a.1.shift, .int .i64 a.1.zero, .sl (.int .i64) a.1.weights, .sl (.int .i64) a.1.bias], .one (.sl (.int .i64) a.2.1), .one (.int .i64 a.2.2)]
def y177 (l : List Arg) : Option (Layer × List Int × Int) := match l with
  | [.agg [.int .i64 b0_0, .int .i64 b0_1, .int .i64 b0_2, .int .i64 b0_3, .int .i64 b0_4, .int .i64 b0_5, .int .i64 b0_6, .sl (.int .i64) b0_7, .sl (.int .i64) b0_8], .one (.sl (.int .i64) b1), .one (.int .i64 b2)] => some ((⟨b0_0, b0_1, b0_2, b0_3, b0_4, b0_5, b0_6, b0_7, b0_8⟩ : Layer), b1, b2)
  | _ => none
def y178 (r : Int) : Out := (.r [] (.int .i64 r), [])
def y179 (o : Out) : Option (Int) := match o with
  | (.r [] (.int .i64 z1), []) => some z1
  | _ => none
def y17a (k : Nat) : PG := fun _ l K => (y177 l).bind fun a => (I_Layer_scaled k a.1 a.2.1 a.2.2).bind fun r => K (y178 r)
theorem y17b (k : Nat) (a : Layer × List Int × Int) : ev (y172 k) (y175 (Int) k) 0 y174 (st0 Tryz.f100 (y176 a)) (fin Tryz.prog Tryz.f100 (.sc) y179) = I_Layer_scaled k a.1 a.2.1 a.2.2 := by kernel_rfl
theorem y17c (k : Nat) : PureOk Tryz.prog 100 (y17a k) :=
  pureOk_of_ev (y173 k) Tryz.func100 (by kernel_rfl) (by kernel_rfl) y176 y177
    (fun l a h => by unfold y177 at h; split at h <;> first | (cases h; rfl) | cases h) (fun a => rfl) (lpgood_none (by kernel_rfl))
    (fun o r h => by unfold y179 at h; split at h <;> first | (cases h; rfl) | cases h) (y17b k)
def y17d (k : Nat) : Orc := pureOrc [.agg [(.int .i64), (.int .i64), (.int .i64), (.int .i64), (.int .i64), (.int .i64), (.int .i64), (.sl (.int .i64)), (.sl (.int .i64))], .one (.sl (.int .i64)), .one (.int .i64)] (y17a k)
theorem y17e (k : Nat) : OrcOk Tryz.prog 100 (y17d k) := pureOrc_ok (y17c k)
noncomputable def y17f (k : Nat) : Env := { P := Tryz.prog, tt := tt, orc := fun g => noOrc }
theorem y17g (k : Nat) : EnvOk (y17f k) := fun g => (noOrc_ok _ _)
noncomputable def y17h : Code := (Tryz.f104.body).getD .skip
def y17i (ρ : Type) (k : Nat) : Nat → Ev ρ → Ev ρ := fun _ _ _ _ => none
def y17j (a : Shape × Int × Int × Int) : List Arg := [.agg [.int .i64 a.1.h, .int .i64 a.1.w, .int .i64 a.1.c], .one (.int .i64 a.2.1), .one (.int .i64 a.2.2.1), .one (.int .i64 a.2.2.2)]
def y17k (l : List Arg) : Option (Shape × Int × Int × Int) := match l with
  | [.agg [.int .i64 b0_0, .int .i64 b0_1, .int .i64 b0_2], .one (.int .i64 b1), .one (.int .i64 b2), .one (.int .i64 b3)] => some ((⟨b0_0, b0_1, b0_2⟩ : Shape), b1, b2, b3)
  | _ => none
def y17l (r : Int) : Out := (.r [] (.int .i64 r), [])
def y17m (o : Out) : Option (Int) := match o with
  | (.r [] (.int .i64 z1), []) => some z1
  | _ => none
def y17n (k : Nat) : PG := fun _ l K => (y17k l).bind fun a => (I_Shape_place k a.1 a.2.1 a.2.2.1 a.2.2.2).bind fun r => K (y17l r)
theorem y17o (k : Nat) (a : Shape × Int × Int × Int) : ev (y17f k) (y17i (Int) k) 0 y17h (st0 Tryz.f104 (y17j a)) (fin Tryz.prog Tryz.f104 (.sc) y17m) = I_Shape_place k a.1 a.2.1 a.2.2.1 a.2.2.2 := by kernel_rfl
theorem y17p (k : Nat) : PureOk Tryz.prog 104 (y17n k) :=
  pureOk_of_ev (y17g k) Tryz.func104 (by kernel_rfl) (by kernel_rfl) y17j y17k
    (fun l a h => by unfold y17k at h; split at h <;> first | (cases h; rfl) | cases h) (fun a => rfl) (lpgood_none (by kernel_rfl))
    (fun o r h => by unfold y17m at h; split at h <;> first | (cases h; rfl) | cases h) (y17o k)
def y17q (k : Nat) : Orc := pureOrc [.agg [(.int .i64), (.int .i64), (.int .i64)], .one (.int .i64), .one (.int .i64), .one (.int .i64)] (y17n k)
theorem y17r (k : Nat) : OrcOk Tryz.prog 104 (y17q k) := pureOrc_ok (y17p k)
noncomputable def y17s (k : Nat) : Env := { P := Tryz.prog, tt := tt, orc := fun g => cond (Nat.beq g 104) (y17q k) (noOrc) }
theorem y17t (k : Nat) : EnvOk (y17s k) := fun g => (orc_cond (y17r k) (noOrc_ok _ _))
noncomputable def y17u : Code := (Tryz.f101.body).getD .skip
noncomputable def y17v : Code := ((loopsIn 0 y17u).getD 0 (0, .skip)).2
noncomputable def y17w : Code := ((loopsIn 0 y17v).getD 0 (0, .skip)).2
def y17x : List Nat := [2, 3, 4, 5, 6, 11, 12, 17, 18, 22, 23]
def y17y : List (Where × Co) := []
def y17z : Ex → List Nat
  | .exit j => cond (Nat.beq j 2) [2, 3, 4, 5, 6, 11, 17, 18] []
  | .ret => []
  | .normal => []
def y180 : Ex → List (Where × Co)
  | .exit j => cond (Nat.beq j 2) [] []
  | .ret => []
  | .normal => []
def y181 (pv : (Int × Int × Int × Int × Int × Int × Int × Int × Int × Int × Int × Int × Int × Int × List Int × List Int × Int × Int × Int × List Int) × (Int × List Int)) : St := { slots := [(2, .r [] (.int .i64 pv.1.1)), (3, .r [] (.int .i64 pv.1.2.1)), (4, .r [] (.int .i64 pv.1.2.2.1)), (5, .ptr 0 0 0), (6, .ptr 1 0 0), (11, .own 2), (12, .r [] (.int .i64 pv.1.2.2.2.1)), (17, .r [] (.int .i64 pv.1.2.2.2.2.1)), (18, .r [] (.int .i64 pv.1.2.2.2.2.2.1)), (22, .r [] (.int .i64 pv.1.2.2.2.2.2.2.1)), (23, .r [] (.int .i64 pv.2.1))], heap := [(0, .box [.r [] (.int .i64 pv.1.2.2.2.2.2.2.2.1), .r [] (.int .i64 pv.1.2.2.2.2.2.2.2.2.1), .r [] (.int .i64 pv.1.2.2.2.2.2.2.2.2.2.1), .r [] (.int .i64 pv.1.2.2.2.2.2.2.2.2.2.2.1), .r [] (.int .i64 pv.1.2.2.2.2.2.2.2.2.2.2.2.1), .r [] (.int .i64 pv.1.2.2.2.2.2.2.2.2.2.2.2.2.1), .r [] (.int .i64 pv.1.2.2.2.2.2.2.2.2.2.2.2.2.2.1), .r [] (.sl (.int .i64) pv.1.2.2.2.2.2.2.2.2.2.2.2.2.2.2.1), .r [] (.sl (.int .i64) pv.1.2.2.2.2.2.2.2.2.2.2.2.2.2.2.2.1)]), (1, .box [.r [] (.int .i64 pv.1.2.2.2.2.2.2.2.2.2.2.2.2.2.2.2.2.1), .r [] (.int .i64 pv.1.2.2.2.2.2.2.2.2.2.2.2.2.2.2.2.2.2.1), .r [] (.int .i64 pv.1.2.2.2.2.2.2.2.2.2.2.2.2.2.2.2.2.2.2.1), .r [] (.sl (.int .i64) pv.1.2.2.2.2.2.2.2.2.2.2.2.2.2.2.2.2.2.2.2)]), (2, .arr none (.int .i64) pv.2.2)], nid := 3, n := 67, gh := [] }
def y182 (nf : NF) : Option ((Int × Int × Int × Int × Int × Int × Int × Int × Int × Int × Int × Int × Int × Int × List Int × List Int × Int × Int × Int × List Int) × (Int × List Int)) := match nf with
  | ([.r [] (.int .i64 w0), .r [] (.int .i64 w1), .r [] (.int .i64 w2), .ptr 0 0 0, .ptr 1 0 0, .own 2, .r [] (.int .i64 w3), .r [] (.int .i64 w4), .r [] (.int .i64 w5), .r [] (.int .i64 w6), .r [] (.int .i64 w7)], [.box [.r [] (.int .i64 w8), .r [] (.int .i64 w9), .r [] (.int .i64 w10), .r [] (.int .i64 w11), .r [] (.int .i64 w12), .r [] (.int .i64 w13), .r [] (.int .i64 w14), .r [] (.sl (.int .i64) w15), .r [] (.sl (.int .i64) w16)], .box [.r [] (.int .i64 w17), .r [] (.int .i64 w18), .r [] (.int .i64 w19), .r [] (.sl (.int .i64) w20)], .arr none (.int .i64) w21], []) => some ((w0, w1, w2, w3, w4, w5, w6, w8, w9, w10, w11, w12, w13, w14, w15, w16, w17, w18, w19, w20), (w7, w21))
  | _ => none
theorem y183 (nf : NF) (v : (Int × Int × Int × Int × Int × Int × Int × Int × Int × Int × Int × Int × Int × Int × List Int × List Int × Int × Int × Int × List Int) × (Int × List Int)) (h : y182 nf = some v) : denorm y17x 67 nf = y181 v := by
  unfold y182 at h
  split at h
  · cases h; rfl
  · cases h
def y184 (p : Int × Int × Int × Int × Int × Int × Int × Int × Int × Int × Int × Int × Int × Int × List Int × List Int × Int × Int × Int × List Int) (x : List Int) : St := { slots := [(2, .r [] (.int .i64 p.1)), (3, .r [] (.int .i64 p.2.1)), (4, .r [] (.int .i64 p.2.2.1)), (5, .ptr 0 0 0), (6, .ptr 1 0 0), (11, .own 2), (17, .r [] (.int .i64 p.2.2.2.2.1)), (18, .r [] (.int .i64 p.2.2.2.2.2.1))], heap := [(0, .box [.r [] (.int .i64 p.2.2.2.2.2.2.2.1), .r [] (.int .i64 p.2.2.2.2.2.2.2.2.1), .r [] (.int .i64 p.2.2.2.2.2.2.2.2.2.1), .r [] (.int .i64 p.2.2.2.2.2.2.2.2.2.2.1), .r [] (.int .i64 p.2.2.2.2.2.2.2.2.2.2.2.1), .r [] (.int .i64 p.2.2.2.2.2.2.2.2.2.2.2.2.1), .r [] (.int .i64 p.2.2.2.2.2.2.2.2.2.2.2.2.2.1), .r [] (.sl (.int .i64) p.2.2.2.2.2.2.2.2.2.2.2.2.2.2.1), .r [] (.sl (.int .i64) p.2.2.2.2.2.2.2.2.2.2.2.2.2.2.2.1)]), (1, .box [.r [] (.int .i64 p.2.2.2.2.2.2.2.2.2.2.2.2.2.2.2.2.1), .r [] (.int .i64 p.2.2.2.2.2.2.2.2.2.2.2.2.2.2.2.2.2.1), .r [] (.int .i64 p.2.2.2.2.2.2.2.2.2.2.2.2.2.2.2.2.2.2.1), .r [] (.sl (.int .i64) p.2.2.2.2.2.2.2.2.2.2.2.2.2.2.2.2.2.2.2)]), (2, .arr none (.int .i64) x)], nid := 3, n := 67, gh := [] }
def y185 : List Nat := [2, 3, 4, 5, 6, 11, 17, 18]
def y186 : List (Where × Co) := []
def y187 : Ex → List Nat
  | .exit j => cond (Nat.beq j 0) [11] []
  | .ret => []
  | .normal => []
def y188 : Ex → List (Where × Co)
  | .exit j => cond (Nat.beq j 0) [] []
  | .ret => []
  | .normal => []
def y189 (pv : (Int × Int × Int × Int × Int × Int × Int × Int × Int × Int × Int × List Int × List Int × Int × Int × Int × List Int) × (Int × List Int)) : St := { slots := [(2, .r [] (.int .i64 pv.1.1)), (3, .r [] (.int .i64 pv.1.2.1)), (4, .r [] (.int .i64 pv.1.2.2.1)), (5, .ptr 0 0 0), (6, .ptr 1 0 0), (11, .own 2), (17, .r [] (.int .i64 pv.1.2.2.2.1)), (18, .r [] (.int .i64 pv.2.1))], heap := [(0, .box [.r [] (.int .i64 pv.1.2.2.2.2.1), .r [] (.int .i64 pv.1.2.2.2.2.2.1), .r [] (.int .i64 pv.1.2.2.2.2.2.2.1), .r [] (.int .i64 pv.1.2.2.2.2.2.2.2.1), .r [] (.int .i64 pv.1.2.2.2.2.2.2.2.2.1), .r [] (.int .i64 pv.1.2.2.2.2.2.2.2.2.2.1), .r [] (.int .i64 pv.1.2.2.2.2.2.2.2.2.2.2.1), .r [] (.sl (.int .i64) pv.1.2.2.2.2.2.2.2.2.2.2.2.1), .r [] (.sl (.int .i64) pv.1.2.2.2.2.2.2.2.2.2.2.2.2.1)]), (1, .box [.r [] (.int .i64 pv.1.2.2.2.2.2.2.2.2.2.2.2.2.2.1), .r [] (.int .i64 pv.1.2.2.2.2.2.2.2.2.2.2.2.2.2.2.1), .r [] (.int .i64 pv.1.2.2.2.2.2.2.2.2.2.2.2.2.2.2.2.1), .r [] (.sl (.int .i64) pv.1.2.2.2.2.2.2.2.2.2.2.2.2.2.2.2.2)]), (2, .arr none (.int .i64) pv.2.2)], nid := 3, n := 67, gh := [] }
def y18a (nf : NF) : Option ((Int × Int × Int × Int × Int × Int × Int × Int × Int × Int × Int × List Int × List Int × Int × Int × Int × List Int) × (Int × List Int)) := match nf with
  | ([.r [] (.int .i64 w0), .r [] (.int .i64 w1), .r [] (.int .i64 w2), .ptr 0 0 0, .ptr 1 0 0, .own 2, .r [] (.int .i64 w3), .r [] (.int .i64 w4)], [.box [.r [] (.int .i64 w5), .r [] (.int .i64 w6), .r [] (.int .i64 w7), .r [] (.int .i64 w8), .r [] (.int .i64 w9), .r [] (.int .i64 w10), .r [] (.int .i64 w11), .r [] (.sl (.int .i64) w12), .r [] (.sl (.int .i64) w13)], .box [.r [] (.int .i64 w14), .r [] (.int .i64 w15), .r [] (.int .i64 w16), .r [] (.sl (.int .i64) w17)], .arr none (.int .i64) w18], []) => some ((w0, w1, w2, w3, w5, w6, w7, w8, w9, w10, w11, w12, w13, w14, w15, w16, w17), (w4, w18))
  | _ => none
theorem y18b (nf : NF) (v : (Int × Int × Int × Int × Int × Int × Int × Int × Int × Int × Int × List Int × List Int × Int × Int × Int × List Int) × (Int × List Int)) (h : y18a nf = some v) : denorm y185 67 nf = y189 v := by
  unfold y18a at h
  split at h
  · cases h; rfl
  · cases h
def y18c (p : Int × Int × Int × Int × Int × Int × Int × Int × Int × Int × Int × List Int × List Int × Int × Int × Int × List Int) (x : List Int) : St := { slots := [(11, .own 0)], heap := [(0, .arr none (.int .i64) x)], nid := 1, n := 67, gh := [] }
def y18d (ρ : Type) (k : Nat) : Nat → Ev ρ → Ev ρ := fun id f => cond (Nat.beq id 0) (loopOrc y185 y186 (fun n nf => cond (Nat.beq n 67) (y18a nf) none) fun pv K => iter (fun v next => I_Layer_window_g0 k pv.1 v next (fun x => K (.exit 0) (y18c pv.1 x))) k pv.2) ((fun id f => cond (Nat.beq id 2) (loopOrc y17x y17y (fun n nf => cond (Nat.beq n 67) (y182 nf) none) fun pv K => iter (fun v next => I_Layer_window_g1 k pv.1 v next (fun x => K (.exit 2) (y184 pv.1 x))) k pv.2) ((fun _ _ _ _ => none) id f)) id f)
theorem y18e {ρ : Type} (k : Nat) (p : Int × Int × Int × Int × Int × Int × Int × Int × Int × Int × Int × Int × Int × Int × List Int × List Int × Int × Int × Int × List Int) (v : Int × List Int) (K K1 : Ex → St → Option ρ) : ev (y17s k) (y18d ρ k) 2 y17w (y181 (p, v)) (fun e st' => match e with
    | .normal => (normC y17x y17y st').bind fun nf => K1 .normal (denorm y17x st'.n nf)
    | e => (normC (y17z e) (y180 e) st').bind fun nf => K e (denorm (y17z e) st'.n nf)) = I_Layer_window_g1 k p v (fun v' => K1 .normal (y181 (p, v'))) (fun x => K (.exit 2) (y184 p x)) := by kernel_rfl
theorem y18f {ρ : Type} (k : Nat) : Sound Tryz.prog (.loop y17w) (y18d ρ k 2 fun st K => ev (y17s k) (y18d ρ k) 2 y17w st K) :=
  loop_ok (ev_sound (y17t k) y17w 2 (lpgood_none (by kernel_rfl))) y17z y180 k (g := fun p v next K => I_Layer_window_g1 k p v next (fun x => K (.exit 2) (y184 p x))) (dec_at y183) (fun p v K K1 => y18e k p v K K1)
theorem y18g {ρ : Type} (k : Nat) (p : Int × Int × Int × Int × Int × Int × Int × Int × Int × Int × Int × List Int × List Int × Int × Int × Int × List Int) (v : Int × List Int) (K K1 : Ex → St → Option ρ) : ev (y17s k) (y18d ρ k) 0 y17v (y189 (p, v)) (fun e st' => match e with
    | .normal => (normC y185 y186 st').bind fun nf => K1 .normal (denorm y185 st'.n nf)
    | e => (normC (y187 e) (y188 e) st').bind fun nf => K e (denorm (y187 e) st'.n nf)) = I_Layer_window_g0 k p v (fun v' => K1 .normal (y189 (p, v'))) (fun x => K (.exit 0) (y18c p x)) := by kernel_rfl
theorem y18h {ρ : Type} (k : Nat) : Sound Tryz.prog (.loop y17v) (y18d ρ k 0 fun st K => ev (y17s k) (y18d ρ k) 0 y17v st K) :=
  loop_ok (ev_sound (y17t k) y17v 0 (lpgood_of (l := [(2, y17w)]) (by kernel_rfl) ⟨y18f k, trivial⟩)) y187 y188 k (g := fun p v next K => I_Layer_window_g0 k p v next (fun x => K (.exit 0) (y18c p x))) (dec_at y18b) (fun p v K K1 => y18g k p v K K1)
def y18i (a : Layer × Tensor × Int × Int × Int) : List Arg := [.agg [.int .i64 a.1.kind, .int .i64 a.1.out, .int .i64 a.1.size, .int .i64 a.1.step, .int .i64 a.1.mult, .int .i64 a.1.shift, .int .i64 a.1.zero, .sl (.int .i64) a.1.weights, .sl (.int .i64) a.1.bias], .agg [.int .i64 a.2.1.sh.h, .int .i64 a.2.1.sh.w, .int .i64 a.2.1.sh.c, .sl (.int .i64) a.2.1.data], .one (.int .i64 a.2.2.1), .one (.int .i64 a.2.2.2.1), .one (.int .i64 a.2.2.2.2)]
def y18j (l : List Arg) : Option (Layer × Tensor × Int × Int × Int) := match l with
  | [.agg [.int .i64 b0_0, .int .i64 b0_1, .int .i64 b0_2, .int .i64 b0_3, .int .i64 b0_4, .int .i64 b0_5, .int .i64 b0_6, .sl (.int .i64) b0_7, .sl (.int .i64) b0_8], .agg [.int .i64 b1_0, .int .i64 b1_1, .int .i64 b1_2, .sl (.int .i64) b1_3], .one (.int .i64 b2), .one (.int .i64 b3), .one (.int .i64 b4)] => some ((⟨b0_0, b0_1, b0_2, b0_3, b0_4, b0_5, b0_6, b0_7, b0_8⟩ : Layer), (⟨(⟨b1_0, b1_1, b1_2⟩ : Shape), b1_3⟩ : Tensor), b2, b3, b4)
  | _ => none
def y18k (r : List Int) : Out := (.own 0, [.arr none (.int .i64) r])
def y18l (o : Out) : Option (List Int) := match o with
  | (.own 0, [.arr none (.int .i64) z1]) => some z1
  | _ => none
def y18m (k : Nat) : PG := fun _ l K => (y18j l).bind fun a => (I_Layer_window k a.1 a.2.1 a.2.2.1 a.2.2.2.1 a.2.2.2.2).bind fun r => K (y18k r)
theorem y18n (k : Nat) (a : Layer × Tensor × Int × Int × Int) : ev (y17s k) (y18d (List Int) k) 0 y17u (st0 Tryz.f101 (y18i a)) (fin Tryz.prog Tryz.f101 (.own (.int .i64)) y18l) = I_Layer_window k a.1 a.2.1 a.2.2.1 a.2.2.2.1 a.2.2.2.2 := by kernel_rfl
theorem y18o (k : Nat) : PureOk Tryz.prog 101 (y18m k) :=
  pureOk_of_ev (y17t k) Tryz.func101 (by kernel_rfl) (by kernel_rfl) y18i y18j
    (fun l a h => by unfold y18j at h; split at h <;> first | (cases h; rfl) | cases h) (fun a => rfl) (lpgood_of (l := [(0, y17v)]) (by kernel_rfl) ⟨y18h k, trivial⟩)
    (fun o r h => by unfold y18l at h; split at h <;> first | (cases h; rfl) | cases h) (y18n k)
def y18p (k : Nat) : Orc := pureOrc [.agg [(.int .i64), (.int .i64), (.int .i64), (.int .i64), (.int .i64), (.int .i64), (.int .i64), (.sl (.int .i64)), (.sl (.int .i64))], .agg [(.int .i64), (.int .i64), (.int .i64), (.sl (.int .i64))], .one (.int .i64), .one (.int .i64), .one (.int .i64)] (y18m k)
theorem y18q (k : Nat) : OrcOk Tryz.prog 101 (y18p k) := pureOrc_ok (y18o k)
noncomputable def y18r (k : Nat) : Env := { P := Tryz.prog, tt := tt, orc := fun g => noOrc }
theorem y18s (k : Nat) : EnvOk (y18r k) := fun g => (noOrc_ok _ _)
noncomputable def y18t : Code := (Tryz.f102.body).getD .skip
noncomputable def y18u : Code := ((loopsIn 0 y18t).getD 0 (0, .skip)).2
def y18v : List Nat := [0, 3, 4]
def y18w : List (Where × Co) := []
def y18x : Ex → List Nat
  | .exit j => cond (Nat.beq j 0) [3] []
  | .ret => []
  | .normal => []
def y18y : Ex → List (Where × Co)
  | .exit j => cond (Nat.beq j 0) [] []
  | .ret => []
  | .normal => []
def y18z (pv : (List Int) × (Int × Int)) : St := { slots := [(0, .r [] (.sl (.int .i64) pv.1)), (3, .r [] (.int .i64 pv.2.1)), (4, .r [] (.int .i64 pv.2.2))], heap := [], nid := 0, n := 25, gh := [] }
def y190 (nf : NF) : Option ((List Int) × (Int × Int)) := match nf with
  | ([.r [] (.sl (.int .i64) w0), .r [] (.int .i64 w1), .r [] (.int .i64 w2)], [], []) => some (w0, (w1, w2))
  | _ => none
theorem y191 (nf : NF) (v : (List Int) × (Int × Int)) (h : y190 nf = some v) : denorm y18v 25 nf = y18z v := by
  unfold y190 at h
  split at h
  · cases h; rfl
  · cases h
def y192 (p : List Int) (x : Int) : St := { slots := [(3, .r [] (.int .i64 x))], heap := [], nid := 0, n := 25, gh := [] }
def y193 (ρ : Type) (k : Nat) : Nat → Ev ρ → Ev ρ := fun id f => cond (Nat.beq id 0) (loopOrc y18v y18w (fun n nf => cond (Nat.beq n 25) (y190 nf) none) fun pv K => iter (fun v next => slices_Max_lint_int_g0 k pv.1 v next (fun x => K (.exit 0) (y192 pv.1 x))) k pv.2) ((fun _ _ _ _ => none) id f)
theorem y194 {ρ : Type} (k : Nat) (p : List Int) (v : Int × Int) (K K1 : Ex → St → Option ρ) : ev (y18r k) (y193 ρ k) 0 y18u (y18z (p, v)) (fun e st' => match e with
    | .normal => (normC y18v y18w st').bind fun nf => K1 .normal (denorm y18v st'.n nf)
    | e => (normC (y18x e) (y18y e) st').bind fun nf => K e (denorm (y18x e) st'.n nf)) = slices_Max_lint_int_g0 k p v (fun v' => K1 .normal (y18z (p, v'))) (fun x => K (.exit 0) (y192 p x)) := by kernel_rfl
theorem y195 {ρ : Type} (k : Nat) : Sound Tryz.prog (.loop y18u) (y193 ρ k 0 fun st K => ev (y18r k) (y193 ρ k) 0 y18u st K) :=
  loop_ok (ev_sound (y18s k) y18u 0 (lpgood_none (by kernel_rfl))) y18x y18y k (g := fun p v next K => slices_Max_lint_int_g0 k p v next (fun x => K (.exit 0) (y192 p x))) (dec_at y191) (fun p v K K1 => y194 k p v K K1)
def y196 (a : List Int) : List Arg := [.one (.sl (.int .i64) a)]
def y197 (l : List Arg) : Option (List Int) := match l with
  | [.one (.sl (.int .i64) b0)] => some b0
  | _ => none
def y198 (r : Int) : Out := (.r [] (.int .i64 r), [])
def y199 (o : Out) : Option (Int) := match o with
  | (.r [] (.int .i64 z1), []) => some z1
  | _ => none
def y19a (k : Nat) : PG := fun _ l K => (y197 l).bind fun a => (slices_Max_lint_int k a).bind fun r => K (y198 r)
theorem y19b (k : Nat) (a : List Int) : ev (y18r k) (y193 (Int) k) 0 y18t (st0 Tryz.f102 (y196 a)) (fin Tryz.prog Tryz.f102 (.sc) y199) = slices_Max_lint_int k a := by kernel_rfl
theorem y19c (k : Nat) : PureOk Tryz.prog 102 (y19a k) :=
  pureOk_of_ev (y18s k) Tryz.func102 (by kernel_rfl) (by kernel_rfl) y196 y197
    (fun l a h => by unfold y197 at h; split at h <;> first | (cases h; rfl) | cases h) (fun a => rfl) (lpgood_of (l := [(0, y18u)]) (by kernel_rfl) ⟨y195 k, trivial⟩)
    (fun o r h => by unfold y199 at h; split at h <;> first | (cases h; rfl) | cases h) (y19b k)
def y19d (k : Nat) : Orc := pureOrc [.one (.sl (.int .i64))] (y19a k)
theorem y19e (k : Nat) : OrcOk Tryz.prog 102 (y19d k) := pureOrc_ok (y19c k)
noncomputable def y19f (k : Nat) : Env := { P := Tryz.prog, tt := tt, orc := fun g => cond (Nat.beq g 100) (y17d k) (cond (Nat.beq g 101) (y18p k) (cond (Nat.beq g 102) (y19d k) (cond (Nat.beq g 103) (y16a k) (cond (Nat.beq g 104) (y17q k) (noOrc))))) }
theorem y19g (k : Nat) : EnvOk (y19f k) := fun g => (orc_cond (y17e k) (orc_cond (y18q k) (orc_cond (y19e k) (orc_cond (y16b k) (orc_cond (y17r k) (noOrc_ok _ _))))))
noncomputable def y19h : Code := (Tryz.f84.body).getD .skip
noncomputable def y19i : Code := ((loopsIn 0 y19h).getD 0 (0, .skip)).2
def y19j : List Nat := [5, 11, 49, 50, 51]
def y19k : List (Where × Co) := []
def y19l : Ex → List Nat
  | .exit j => cond (Nat.beq j 1) [5, 11] []
  | .ret => []
  | .normal => []
def y19m : Ex → List (Where × Co)
  | .exit j => cond (Nat.beq j 1) [] []
  | .ret => []
  | .normal => []
def y19n (pv : (Int × Int × Int × Int × Int × Int × Int × Int × List Int × List Int × List Int) × (Int × Int)) : St := { slots := [(5, .ptr 0 0 0), (11, .r [] (.int .i64 pv.2.1)), (49, .own 1), (50, .r [] (.int .i64 pv.1.1)), (51, .r [] (.int .i64 pv.2.2))], heap := [(0, .box [.r [] (.int .i64 pv.1.2.1), .r [] (.int .i64 pv.1.2.2.1), .r [] (.int .i64 pv.1.2.2.2.1), .r [] (.int .i64 pv.1.2.2.2.2.1), .r [] (.int .i64 pv.1.2.2.2.2.2.1), .r [] (.int .i64 pv.1.2.2.2.2.2.2.1), .r [] (.int .i64 pv.1.2.2.2.2.2.2.2.1), .r [] (.sl (.int .i64) pv.1.2.2.2.2.2.2.2.2.1), .r [] (.sl (.int .i64) pv.1.2.2.2.2.2.2.2.2.2.1)]), (1, .arr none (.int .i64) pv.1.2.2.2.2.2.2.2.2.2.2)], nid := 2, n := 86, gh := [] }
def y19o (nf : NF) : Option ((Int × Int × Int × Int × Int × Int × Int × Int × List Int × List Int × List Int) × (Int × Int)) := match nf with
  | ([.ptr 0 0 0, .r [] (.int .i64 w0), .own 1, .r [] (.int .i64 w1), .r [] (.int .i64 w2)], [.box [.r [] (.int .i64 w3), .r [] (.int .i64 w4), .r [] (.int .i64 w5), .r [] (.int .i64 w6), .r [] (.int .i64 w7), .r [] (.int .i64 w8), .r [] (.int .i64 w9), .r [] (.sl (.int .i64) w10), .r [] (.sl (.int .i64) w11)], .arr none (.int .i64) w12], []) => some ((w1, w3, w4, w5, w6, w7, w8, w9, w10, w11, w12), (w0, w2))
  | _ => none
theorem y19p (nf : NF) (v : (Int × Int × Int × Int × Int × Int × Int × Int × List Int × List Int × List Int) × (Int × Int)) (h : y19o nf = some v) : denorm y19j 86 nf = y19n v := by
  unfold y19o at h
  split at h
  · cases h; rfl
  · cases h
def y19q (p : Int × Int × Int × Int × Int × Int × Int × Int × List Int × List Int × List Int) (x : Int) : St := { slots := [(5, .ptr 0 0 0), (11, .r [] (.int .i64 x))], heap := [(0, .box [.r [] (.int .i64 p.2.1), .r [] (.int .i64 p.2.2.1), .r [] (.int .i64 p.2.2.2.1), .r [] (.int .i64 p.2.2.2.2.1), .r [] (.int .i64 p.2.2.2.2.2.1), .r [] (.int .i64 p.2.2.2.2.2.2.1), .r [] (.int .i64 p.2.2.2.2.2.2.2.1), .r [] (.sl (.int .i64) p.2.2.2.2.2.2.2.2.1), .r [] (.sl (.int .i64) p.2.2.2.2.2.2.2.2.2.1)])], nid := 1, n := 86, gh := [] }
def y19r (ρ : Type) (k : Nat) : Nat → Ev ρ → Ev ρ := fun id f => cond (Nat.beq id 1) (loopOrc y19j y19k (fun n nf => cond (Nat.beq n 86) (y19o nf) none) fun pv K => iter (fun v next => I_Layer_item_g0 k pv.1 v next (fun x => K (.exit 1) (y19q pv.1 x))) k pv.2) ((fun _ _ _ _ => none) id f)
theorem y19s {ρ : Type} (k : Nat) (p : Int × Int × Int × Int × Int × Int × Int × Int × List Int × List Int × List Int) (v : Int × Int) (K K1 : Ex → St → Option ρ) : ev (y19f k) (y19r ρ k) 1 y19i (y19n (p, v)) (fun e st' => match e with
    | .normal => (normC y19j y19k st').bind fun nf => K1 .normal (denorm y19j st'.n nf)
    | e => (normC (y19l e) (y19m e) st').bind fun nf => K e (denorm (y19l e) st'.n nf)) = I_Layer_item_g0 k p v (fun v' => K1 .normal (y19n (p, v'))) (fun x => K (.exit 1) (y19q p x)) := by kernel_rfl
theorem y19t {ρ : Type} (k : Nat) : Sound Tryz.prog (.loop y19i) (y19r ρ k 1 fun st K => ev (y19f k) (y19r ρ k) 1 y19i st K) :=
  loop_ok (ev_sound (y19g k) y19i 1 (lpgood_none (by kernel_rfl))) y19l y19m k (g := fun p v next K => I_Layer_item_g0 k p v next (fun x => K (.exit 1) (y19q p x))) (dec_at y19p) (fun p v K K1 => y19s k p v K K1)
def y19u (a : Layer × Tensor × Int × Int × Int) : List Arg := [.agg [.int .i64 a.1.kind, .int .i64 a.1.out, .int .i64 a.1.size, .int .i64 a.1.step, .int .i64 a.1.mult, .int .i64 a.1.shift, .int .i64 a.1.zero, .sl (.int .i64) a.1.weights, .sl (.int .i64) a.1.bias], .agg [.int .i64 a.2.1.sh.h, .int .i64 a.2.1.sh.w, .int .i64 a.2.1.sh.c, .sl (.int .i64) a.2.1.data], .one (.int .i64 a.2.2.1), .one (.int .i64 a.2.2.2.1), .one (.int .i64 a.2.2.2.2)]
def y19v (l : List Arg) : Option (Layer × Tensor × Int × Int × Int) := match l with
  | [.agg [.int .i64 b0_0, .int .i64 b0_1, .int .i64 b0_2, .int .i64 b0_3, .int .i64 b0_4, .int .i64 b0_5, .int .i64 b0_6, .sl (.int .i64) b0_7, .sl (.int .i64) b0_8], .agg [.int .i64 b1_0, .int .i64 b1_1, .int .i64 b1_2, .sl (.int .i64) b1_3], .one (.int .i64 b2), .one (.int .i64 b3), .one (.int .i64 b4)] => some ((⟨b0_0, b0_1, b0_2, b0_3, b0_4, b0_5, b0_6, b0_7, b0_8⟩ : Layer), (⟨(⟨b1_0, b1_1, b1_2⟩ : Shape), b1_3⟩ : Tensor), b2, b3, b4)
  | _ => none
def y19w (r : Int) : Out := (.r [] (.int .i64 r), [])
def y19x (o : Out) : Option (Int) := match o with
  | (.r [] (.int .i64 z1), []) => some z1
  | _ => none
def y19y (k : Nat) : PG := fun _ l K => (y19v l).bind fun a => (I_Layer_item k a.1 a.2.1 a.2.2.1 a.2.2.2.1 a.2.2.2.2).bind fun r => K (y19w r)
theorem y19z (k : Nat) (a : Layer × Tensor × Int × Int × Int) : ev (y19f k) (y19r (Int) k) 0 y19h (st0 Tryz.f84 (y19u a)) (fin Tryz.prog Tryz.f84 (.sc) y19x) = I_Layer_item k a.1 a.2.1 a.2.2.1 a.2.2.2.1 a.2.2.2.2 := by kernel_rfl
theorem y1a0 (k : Nat) : PureOk Tryz.prog 84 (y19y k) :=
  pureOk_of_ev (y19g k) Tryz.func84 (by kernel_rfl) (by kernel_rfl) y19u y19v
    (fun l a h => by unfold y19v at h; split at h <;> first | (cases h; rfl) | cases h) (fun a => rfl) (lpgood_of (l := [(1, y19i)]) (by kernel_rfl) ⟨y19t k, trivial⟩)
    (fun o r h => by unfold y19x at h; split at h <;> first | (cases h; rfl) | cases h) (y19z k)
def y1a1 (k : Nat) : Orc := pureOrc [.agg [(.int .i64), (.int .i64), (.int .i64), (.int .i64), (.int .i64), (.int .i64), (.int .i64), (.sl (.int .i64)), (.sl (.int .i64))], .agg [(.int .i64), (.int .i64), (.int .i64), (.sl (.int .i64))], .one (.int .i64), .one (.int .i64), .one (.int .i64)] (y19y k)
theorem y1a2 (k : Nat) : OrcOk Tryz.prog 84 (y1a1 k) := pureOrc_ok (y1a0 k)
noncomputable def y1a3 (k : Nat) : Env := { P := Tryz.prog, tt := tt, orc := fun g => cond (Nat.beq g 54) (yzl k) (cond (Nat.beq g 83) (yy6 k) (cond (Nat.beq g 84) (y1a1 k) (noOrc))) }
theorem y1a4 (k : Nat) : EnvOk (y1a3 k) := fun g => (orc_cond (yzm k) (orc_cond (yy7 k) (orc_cond (y1a2 k) (noOrc_ok _ _))))
noncomputable def y1a5 : Code := (Tryz.f60.body).getD .skip
noncomputable def y1a6 : Code := ((loopsIn 0 y1a5).getD 0 (0, .skip)).2
noncomputable def y1a7 : Code := ((loopsIn 0 y1a6).getD 0 (0, .skip)).2
noncomputable def y1a8 : Code := ((loopsIn 2 y1a7).getD 0 (0, .skip)).2
def y1a9 : List Nat := [2, 3, 4, 6, 8, 9, 10, 30, 31, 35, 36, 40, 41]
def y1aa : List (Where × Co) := []
def y1ab : Ex → List Nat
  | .exit j => cond (Nat.beq j 4) [2, 3, 4, 6, 8, 9, 30, 31, 35, 36] []
  | .ret => []
  | .normal => []
def y1ac : Ex → List (Where × Co)
  | .exit j => cond (Nat.beq j 4) [] []
  | .ret => []
  | .normal => []
def y1ad (pv : (Int × Int × Int × Int × Int × Int × Int × Int × Int × Int × List Int × Int × Int × Int × Int × Int × Int × Int × List Int × List Int × Int × Int × Int × Int × Int × Int × Int × Int × Int) × (Int × List Int)) : St := { slots := [(2, .ptr 0 0 0), (3, .ptr 1 0 0), (4, .ptr 2 0 0), (6, .ptr 3 0 0), (8, .ptr 4 0 0), (9, .r [] (.int .i64 pv.1.1)), (10, .r [] (.int .i64 pv.1.2.1)), (30, .r [] (.int .i64 pv.1.2.2.1)), (31, .r [] (.int .i64 pv.1.2.2.2.1)), (35, .r [] (.int .i64 pv.1.2.2.2.2.1)), (36, .r [] (.int .i64 pv.1.2.2.2.2.2.1)), (40, .r [] (.int .i64 pv.1.2.2.2.2.2.2.1)), (41, .r [] (.int .i64 pv.2.1))], heap := [(0, .box [.r [] (.int .i64 pv.1.2.2.2.2.2.2.2.1), .r [] (.int .i64 pv.1.2.2.2.2.2.2.2.2.1), .r [] (.int .i64 pv.1.2.2.2.2.2.2.2.2.2.1), .r [] (.sl (.int .i64) pv.1.2.2.2.2.2.2.2.2.2.2.1)]), (1, .box [.r [] (.int .i64 pv.1.2.2.2.2.2.2.2.2.2.2.2.1), .r [] (.int .i64 pv.1.2.2.2.2.2.2.2.2.2.2.2.2.1), .r [] (.int .i64 pv.1.2.2.2.2.2.2.2.2.2.2.2.2.2.1), .r [] (.int .i64 pv.1.2.2.2.2.2.2.2.2.2.2.2.2.2.2.1), .r [] (.int .i64 pv.1.2.2.2.2.2.2.2.2.2.2.2.2.2.2.2.1), .r [] (.int .i64 pv.1.2.2.2.2.2.2.2.2.2.2.2.2.2.2.2.2.1), .r [] (.int .i64 pv.1.2.2.2.2.2.2.2.2.2.2.2.2.2.2.2.2.2.1), .r [] (.sl (.int .i64) pv.1.2.2.2.2.2.2.2.2.2.2.2.2.2.2.2.2.2.2.1), .r [] (.sl (.int .i64) pv.1.2.2.2.2.2.2.2.2.2.2.2.2.2.2.2.2.2.2.2.1)]), (2, .box [.r [] (.int .i64 pv.1.2.2.2.2.2.2.2.2.2.2.2.2.2.2.2.2.2.2.2.2.1), .r [] (.int .i64 pv.1.2.2.2.2.2.2.2.2.2.2.2.2.2.2.2.2.2.2.2.2.2.1), .r [] (.int .i64 pv.1.2.2.2.2.2.2.2.2.2.2.2.2.2.2.2.2.2.2.2.2.2.2.1), .nilS]), (3, .box [.r [] (.int .i64 pv.1.2.2.2.2.2.2.2.2.2.2.2.2.2.2.2.2.2.2.2.2.2.2.2.1), .r [] (.int .i64 pv.1.2.2.2.2.2.2.2.2.2.2.2.2.2.2.2.2.2.2.2.2.2.2.2.2.1), .r [] (.int .i64 pv.1.2.2.2.2.2.2.2.2.2.2.2.2.2.2.2.2.2.2.2.2.2.2.2.2.2.1)]), (4, .box [.r [] (.int .i64 pv.1.2.2.2.2.2.2.2.2.2.2.2.2.2.2.2.2.2.2.2.2.2.2.2.2.2.2.1), .r [] (.int .i64 pv.1.2.2.2.2.2.2.2.2.2.2.2.2.2.2.2.2.2.2.2.2.2.2.2.2.2.2.2.1), .r [] (.int .i64 pv.1.2.2.2.2.2.2.2.2.2.2.2.2.2.2.2.2.2.2.2.2.2.2.2.2.2.2.2.2), .own 5]), (5, .arr none (.int .i64) pv.2.2)], nid := 6, n := 59, gh := [] }
def y1ae (nf : NF) : Option ((Int × Int × Int × Int × Int × Int × Int × Int × Int × Int × List Int × Int × Int × Int × Int × Int × Int × Int × List Int × List Int × Int × Int × Int × Int × Int × Int × Int × Int × Int) × (Int × List Int)) := match nf with
  | ([.ptr 0 0 0, .ptr 1 0 0, .ptr 2 0 0, .ptr 3 0 0, .ptr 4 0 0, .r [] (.int .i64 w0), .r [] (.int .i64 w1), .r [] (.int .i64 w2), .r [] (.int .i64 w3), .r [] (.int .i64 w4), .r [] (.int .i64 w5), .r [] (.int .i64 w6), .r [] (.int .i64 w7)], [.box [.r [] (.int .i64 w8), .r [] (.int .i64 w9), .r [] (.int .i64 w10), .r [] (.sl (.int .i64) w11)], .box [.r [] (.int .i64 w12), .r [] (.int .i64 w13), .r [] (.int .i64 w14), .r [] (.int .i64 w15), .r [] (.int .i64 w16), .r [] (.int .i64 w17), .r [] (.int .i64 w18), .r [] (.sl (.int .i64) w19), .r [] (.sl (.int .i64) w20)], .box [.r [] (.int .i64 w21), .r [] (.int .i64 w22), .r [] (.int .i64 w23), .nilS], .box [.r [] (.int .i64 w24), .r [] (.int .i64 w25), .r [] (.int .i64 w26)], .box [.r [] (.int .i64 w27), .r [] (.int .i64 w28), .r [] (.int .i64 w29), .own 5], .arr none (.int .i64) w30], []) => some ((w0, w1, w2, w3, w4, w5, w6, w8, w9, w10, w11, w12, w13, w14, w15, w16, w17, w18, w19, w20, w21, w22, w23, w24, w25, w26, w27, w28, w29), (w7, w30))
  | _ => none
theorem y1af (nf : NF) (v : (Int × Int × Int × Int × Int × Int × Int × Int × Int × Int × List Int × Int × Int × Int × Int × Int × Int × Int × List Int × List Int × Int × Int × Int × Int × Int × Int × Int × Int × Int) × (Int × List Int)) (h : y1ae nf = some v) : denorm y1a9 59 nf = y1ad v := by
  unfold y1ae at h
  split at h
  · cases h; rfl
  · cases h
def y1ag (p : Int × Int × Int × Int × Int × Int × Int × Int × Int × Int × List Int × Int × Int × Int × Int × Int × Int × Int × List Int × List Int × Int × Int × Int × Int × Int × Int × Int × Int × Int) (x : List Int) : St := { slots := [(2, .ptr 0 0 0), (3, .ptr 1 0 0), (4, .ptr 2 0 0), (6, .ptr 3 0 0), (8, .ptr 4 0 0), (9, .r [] (.int .i64 p.1)), (30, .r [] (.int .i64 p.2.2.1)), (31, .r [] (.int .i64 p.2.2.2.1)), (35, .r [] (.int .i64 p.2.2.2.2.1)), (36, .r [] (.int .i64 p.2.2.2.2.2.1))], heap := [(0, .box [.r [] (.int .i64 p.2.2.2.2.2.2.2.1), .r [] (.int .i64 p.2.2.2.2.2.2.2.2.1), .r [] (.int .i64 p.2.2.2.2.2.2.2.2.2.1), .r [] (.sl (.int .i64) p.2.2.2.2.2.2.2.2.2.2.1)]), (1, .box [.r [] (.int .i64 p.2.2.2.2.2.2.2.2.2.2.2.1), .r [] (.int .i64 p.2.2.2.2.2.2.2.2.2.2.2.2.1), .r [] (.int .i64 p.2.2.2.2.2.2.2.2.2.2.2.2.2.1), .r [] (.int .i64 p.2.2.2.2.2.2.2.2.2.2.2.2.2.2.1), .r [] (.int .i64 p.2.2.2.2.2.2.2.2.2.2.2.2.2.2.2.1), .r [] (.int .i64 p.2.2.2.2.2.2.2.2.2.2.2.2.2.2.2.2.1), .r [] (.int .i64 p.2.2.2.2.2.2.2.2.2.2.2.2.2.2.2.2.2.1), .r [] (.sl (.int .i64) p.2.2.2.2.2.2.2.2.2.2.2.2.2.2.2.2.2.2.1), .r [] (.sl (.int .i64) p.2.2.2.2.2.2.2.2.2.2.2.2.2.2.2.2.2.2.2.1)]), (2, .box [.r [] (.int .i64 p.2.2.2.2.2.2.2.2.2.2.2.2.2.2.2.2.2.2.2.2.1), .r [] (.int .i64 p.2.2.2.2.2.2.2.2.2.2.2.2.2.2.2.2.2.2.2.2.2.1), .r [] (.int .i64 p.2.2.2.2.2.2.2.2.2.2.2.2.2.2.2.2.2.2.2.2.2.2.1), .nilS]), (3, .box [.r [] (.int .i64 p.2.2.2.2.2.2.2.2.2.2.2.2.2.2.2.2.2.2.2.2.2.2.2.1), .r [] (.int .i64 p.2.2.2.2.2.2.2.2.2.2.2.2.2.2.2.2.2.2.2.2.2.2.2.2.1), .r [] (.int .i64 p.2.2.2.2.2.2.2.2.2.2.2.2.2.2.2.2.2.2.2.2.2.2.2.2.2.1)]), (4, .box [.r [] (.int .i64 p.2.2.2.2.2.2.2.2.2.2.2.2.2.2.2.2.2.2.2.2.2.2.2.2.2.2.1), .r [] (.int .i64 p.2.2.2.2.2.2.2.2.2.2.2.2.2.2.2.2.2.2.2.2.2.2.2.2.2.2.2.1), .r [] (.int .i64 p.2.2.2.2.2.2.2.2.2.2.2.2.2.2.2.2.2.2.2.2.2.2.2.2.2.2.2.2), .own 5]), (5, .arr none (.int .i64) x)], nid := 6, n := 59, gh := [] }
def y1ah : List Nat := [2, 3, 4, 6, 8, 9, 30, 31, 35, 36]
def y1ai : List (Where × Co) := []
def y1aj : Ex → List Nat
  | .exit j => cond (Nat.beq j 2) [2, 3, 4, 6, 8, 30, 31] []
  | .ret => []
  | .normal => []
def y1ak : Ex → List (Where × Co)
  | .exit j => cond (Nat.beq j 2) [] []
  | .ret => []
  | .normal => []
def y1al (pv : (Int × Int × Int × Int × Int × Int × Int × List Int × Int × Int × Int × Int × Int × Int × Int × List Int × List Int × Int × Int × Int × Int × Int × Int × Int × Int × Int) × (Int × List Int)) : St := { slots := [(2, .ptr 0 0 0), (3, .ptr 1 0 0), (4, .ptr 2 0 0), (6, .ptr 3 0 0), (8, .ptr 4 0 0), (9, .r [] (.int .i64 pv.1.1)), (30, .r [] (.int .i64 pv.1.2.1)), (31, .r [] (.int .i64 pv.1.2.2.1)), (35, .r [] (.int .i64 pv.1.2.2.2.1)), (36, .r [] (.int .i64 pv.2.1))], heap := [(0, .box [.r [] (.int .i64 pv.1.2.2.2.2.1), .r [] (.int .i64 pv.1.2.2.2.2.2.1), .r [] (.int .i64 pv.1.2.2.2.2.2.2.1), .r [] (.sl (.int .i64) pv.1.2.2.2.2.2.2.2.1)]), (1, .box [.r [] (.int .i64 pv.1.2.2.2.2.2.2.2.2.1), .r [] (.int .i64 pv.1.2.2.2.2.2.2.2.2.2.1), .r [] (.int .i64 pv.1.2.2.2.2.2.2.2.2.2.2.1), .r [] (.int .i64 pv.1.2.2.2.2.2.2.2.2.2.2.2.1), .r [] (.int .i64 pv.1.2.2.2.2.2.2.2.2.2.2.2.2.1), .r [] (.int .i64 pv.1.2.2.2.2.2.2.2.2.2.2.2.2.2.1), .r [] (.int .i64 pv.1.2.2.2.2.2.2.2.2.2.2.2.2.2.2.1), .r [] (.sl (.int .i64) pv.1.2.2.2.2.2.2.2.2.2.2.2.2.2.2.2.1), .r [] (.sl (.int .i64) pv.1.2.2.2.2.2.2.2.2.2.2.2.2.2.2.2.2.1)]), (2, .box [.r [] (.int .i64 pv.1.2.2.2.2.2.2.2.2.2.2.2.2.2.2.2.2.2.1), .r [] (.int .i64 pv.1.2.2.2.2.2.2.2.2.2.2.2.2.2.2.2.2.2.2.1), .r [] (.int .i64 pv.1.2.2.2.2.2.2.2.2.2.2.2.2.2.2.2.2.2.2.2.1), .nilS]), (3, .box [.r [] (.int .i64 pv.1.2.2.2.2.2.2.2.2.2.2.2.2.2.2.2.2.2.2.2.2.1), .r [] (.int .i64 pv.1.2.2.2.2.2.2.2.2.2.2.2.2.2.2.2.2.2.2.2.2.2.1), .r [] (.int .i64 pv.1.2.2.2.2.2.2.2.2.2.2.2.2.2.2.2.2.2.2.2.2.2.2.1)]), (4, .box [.r [] (.int .i64 pv.1.2.2.2.2.2.2.2.2.2.2.2.2.2.2.2.2.2.2.2.2.2.2.2.1), .r [] (.int .i64 pv.1.2.2.2.2.2.2.2.2.2.2.2.2.2.2.2.2.2.2.2.2.2.2.2.2.1), .r [] (.int .i64 pv.1.2.2.2.2.2.2.2.2.2.2.2.2.2.2.2.2.2.2.2.2.2.2.2.2.2), .own 5]), (5, .arr none (.int .i64) pv.2.2)], nid := 6, n := 59, gh := [] }
def y1am (nf : NF) : Option ((Int × Int × Int × Int × Int × Int × Int × List Int × Int × Int × Int × Int × Int × Int × Int × List Int × List Int × Int × Int × Int × Int × Int × Int × Int × Int × Int) × (Int × List Int)) := match nf with
  | ([.ptr 0 0 0, .ptr 1 0 0, .ptr 2 0 0, .ptr 3 0 0, .ptr 4 0 0, .r [] (.int .i64 w0), .r [] (.int .i64 w1), .r [] (.int .i64 w2), .r [] (.int .i64 w3), .r [] (.int .i64 w4)], [.box [.r [] (.int .i64 w5), .r [] (.int .i64 w6), .r [] (.int .i64 w7), .r [] (.sl (.int .i64) w8)], .box [.r [] (.int .i64 w9), .r [] (.int .i64 w10), .r [] (.int .i64 w11), .r [] (.int .i64 w12), .r [] (.int .i64 w13), .r [] (.int .i64 w14), .r [] (.int .i64 w15), .r [] (.sl (.int .i64) w16), .r [] (.sl (.int .i64) w17)], .box [.r [] (.int .i64 w18), .r [] (.int .i64 w19), .r [] (.int .i64 w20), .nilS], .box [.r [] (.int .i64 w21), .r [] (.int .i64 w22), .r [] (.int .i64 w23)], .box [.r [] (.int .i64 w24), .r [] (.int .i64 w25), .r [] (.int .i64 w26), .own 5], .arr none (.int .i64) w27], []) => some ((w0, w1, w2, w3, w5, w6, w7, w8, w9, w10, w11, w12, w13, w14, w15, w16, w17, w18, w19, w20, w21, w22, w23, w24, w25, w26), (w4, w27))
  | _ => none
theorem y1an (nf : NF) (v : (Int × Int × Int × Int × Int × Int × Int × List Int × Int × Int × Int × Int × Int × Int × Int × List Int × List Int × Int × Int × Int × Int × Int × Int × Int × Int × Int) × (Int × List Int)) (h : y1am nf = some v) : denorm y1ah 59 nf = y1al v := by
  unfold y1am at h
  split at h
  · cases h; rfl
  · cases h
def y1ao (p : Int × Int × Int × Int × Int × Int × Int × List Int × Int × Int × Int × Int × Int × Int × Int × List Int × List Int × Int × Int × Int × Int × Int × Int × Int × Int × Int) (x : List Int) : St := { slots := [(2, .ptr 0 0 0), (3, .ptr 1 0 0), (4, .ptr 2 0 0), (6, .ptr 3 0 0), (8, .ptr 4 0 0), (30, .r [] (.int .i64 p.2.1)), (31, .r [] (.int .i64 p.2.2.1))], heap := [(0, .box [.r [] (.int .i64 p.2.2.2.2.1), .r [] (.int .i64 p.2.2.2.2.2.1), .r [] (.int .i64 p.2.2.2.2.2.2.1), .r [] (.sl (.int .i64) p.2.2.2.2.2.2.2.1)]), (1, .box [.r [] (.int .i64 p.2.2.2.2.2.2.2.2.1), .r [] (.int .i64 p.2.2.2.2.2.2.2.2.2.1), .r [] (.int .i64 p.2.2.2.2.2.2.2.2.2.2.1), .r [] (.int .i64 p.2.2.2.2.2.2.2.2.2.2.2.1), .r [] (.int .i64 p.2.2.2.2.2.2.2.2.2.2.2.2.1), .r [] (.int .i64 p.2.2.2.2.2.2.2.2.2.2.2.2.2.1), .r [] (.int .i64 p.2.2.2.2.2.2.2.2.2.2.2.2.2.2.1), .r [] (.sl (.int .i64) p.2.2.2.2.2.2.2.2.2.2.2.2.2.2.2.1), .r [] (.sl (.int .i64) p.2.2.2.2.2.2.2.2.2.2.2.2.2.2.2.2.1)]), (2, .box [.r [] (.int .i64 p.2.2.2.2.2.2.2.2.2.2.2.2.2.2.2.2.2.1), .r [] (.int .i64 p.2.2.2.2.2.2.2.2.2.2.2.2.2.2.2.2.2.2.1), .r [] (.int .i64 p.2.2.2.2.2.2.2.2.2.2.2.2.2.2.2.2.2.2.2.1), .nilS]), (3, .box [.r [] (.int .i64 p.2.2.2.2.2.2.2.2.2.2.2.2.2.2.2.2.2.2.2.2.1), .r [] (.int .i64 p.2.2.2.2.2.2.2.2.2.2.2.2.2.2.2.2.2.2.2.2.2.1), .r [] (.int .i64 p.2.2.2.2.2.2.2.2.2.2.2.2.2.2.2.2.2.2.2.2.2.2.1)]), (4, .box [.r [] (.int .i64 p.2.2.2.2.2.2.2.2.2.2.2.2.2.2.2.2.2.2.2.2.2.2.2.1), .r [] (.int .i64 p.2.2.2.2.2.2.2.2.2.2.2.2.2.2.2.2.2.2.2.2.2.2.2.2.1), .r [] (.int .i64 p.2.2.2.2.2.2.2.2.2.2.2.2.2.2.2.2.2.2.2.2.2.2.2.2.2), .own 5]), (5, .arr none (.int .i64) x)], nid := 6, n := 59, gh := [] }
def y1ap : List Nat := [2, 3, 4, 6, 8, 30, 31]
def y1aq : List (Where × Co) := [((.pbox 8 3), (.nilOwn false (.int .i64)))]
def y1ar : Ex → List Nat
  | .exit j => cond (Nat.beq j 0) [4, 8] []
  | .ret => []
  | .normal => []
def y1as : Ex → List (Where × Co)
  | .exit j => cond (Nat.beq j 0) [] []
  | .ret => []
  | .normal => []
def y1at (pv : (Int × Int × Int × Int × List Int × Int × Int × Int × Int × Int × Int × Int × List Int × List Int × Int × Int × Int × Int × Int × Int × Int × Int × Int) × (Int × List Int)) : St := { slots := [(2, .ptr 0 0 0), (3, .ptr 1 0 0), (4, .ptr 2 0 0), (6, .ptr 3 0 0), (8, .ptr 4 0 0), (30, .r [] (.int .i64 pv.1.1)), (31, .r [] (.int .i64 pv.2.1))], heap := [(0, .box [.r [] (.int .i64 pv.1.2.1), .r [] (.int .i64 pv.1.2.2.1), .r [] (.int .i64 pv.1.2.2.2.1), .r [] (.sl (.int .i64) pv.1.2.2.2.2.1)]), (1, .box [.r [] (.int .i64 pv.1.2.2.2.2.2.1), .r [] (.int .i64 pv.1.2.2.2.2.2.2.1), .r [] (.int .i64 pv.1.2.2.2.2.2.2.2.1), .r [] (.int .i64 pv.1.2.2.2.2.2.2.2.2.1), .r [] (.int .i64 pv.1.2.2.2.2.2.2.2.2.2.1), .r [] (.int .i64 pv.1.2.2.2.2.2.2.2.2.2.2.1), .r [] (.int .i64 pv.1.2.2.2.2.2.2.2.2.2.2.2.1), .r [] (.sl (.int .i64) pv.1.2.2.2.2.2.2.2.2.2.2.2.2.1), .r [] (.sl (.int .i64) pv.1.2.2.2.2.2.2.2.2.2.2.2.2.2.1)]), (2, .box [.r [] (.int .i64 pv.1.2.2.2.2.2.2.2.2.2.2.2.2.2.2.1), .r [] (.int .i64 pv.1.2.2.2.2.2.2.2.2.2.2.2.2.2.2.2.1), .r [] (.int .i64 pv.1.2.2.2.2.2.2.2.2.2.2.2.2.2.2.2.2.1), .nilS]), (3, .box [.r [] (.int .i64 pv.1.2.2.2.2.2.2.2.2.2.2.2.2.2.2.2.2.2.1), .r [] (.int .i64 pv.1.2.2.2.2.2.2.2.2.2.2.2.2.2.2.2.2.2.2.1), .r [] (.int .i64 pv.1.2.2.2.2.2.2.2.2.2.2.2.2.2.2.2.2.2.2.2.1)]), (4, .box [.r [] (.int .i64 pv.1.2.2.2.2.2.2.2.2.2.2.2.2.2.2.2.2.2.2.2.2.1), .r [] (.int .i64 pv.1.2.2.2.2.2.2.2.2.2.2.2.2.2.2.2.2.2.2.2.2.2.1), .r [] (.int .i64 pv.1.2.2.2.2.2.2.2.2.2.2.2.2.2.2.2.2.2.2.2.2.2.2), .own 5]), (5, .arr none (.int .i64) pv.2.2)], nid := 6, n := 59, gh := [] }
def y1au (nf : NF) : Option ((Int × Int × Int × Int × List Int × Int × Int × Int × Int × Int × Int × Int × List Int × List Int × Int × Int × Int × Int × Int × Int × Int × Int × Int) × (Int × List Int)) := match nf with
  | ([.ptr 0 0 0, .ptr 1 0 0, .ptr 2 0 0, .ptr 3 0 0, .ptr 4 0 0, .r [] (.int .i64 w0), .r [] (.int .i64 w1)], [.box [.r [] (.int .i64 w2), .r [] (.int .i64 w3), .r [] (.int .i64 w4), .r [] (.sl (.int .i64) w5)], .box [.r [] (.int .i64 w6), .r [] (.int .i64 w7), .r [] (.int .i64 w8), .r [] (.int .i64 w9), .r [] (.int .i64 w10), .r [] (.int .i64 w11), .r [] (.int .i64 w12), .r [] (.sl (.int .i64) w13), .r [] (.sl (.int .i64) w14)], .box [.r [] (.int .i64 w15), .r [] (.int .i64 w16), .r [] (.int .i64 w17), .nilS], .box [.r [] (.int .i64 w18), .r [] (.int .i64 w19), .r [] (.int .i64 w20)], .box [.r [] (.int .i64 w21), .r [] (.int .i64 w22), .r [] (.int .i64 w23), .own 5], .arr none (.int .i64) w24], []) => some ((w0, w2, w3, w4, w5, w6, w7, w8, w9, w10, w11, w12, w13, w14, w15, w16, w17, w18, w19, w20, w21, w22, w23), (w1, w24))
  | _ => none
theorem y1av (nf : NF) (v : (Int × Int × Int × Int × List Int × Int × Int × Int × Int × Int × Int × Int × List Int × List Int × Int × Int × Int × Int × Int × Int × Int × Int × Int) × (Int × List Int)) (h : y1au nf = some v) : denorm y1ap 59 nf = y1at v := by
  unfold y1au at h
  split at h
  · cases h; rfl
  · cases h
def y1aw (p : Int × Int × Int × Int × List Int × Int × Int × Int × Int × Int × Int × Int × List Int × List Int × Int × Int × Int × Int × Int × Int × Int × Int × Int) (x : List Int) : St := { slots := [(4, .ptr 0 0 0), (8, .ptr 1 0 0)], heap := [(0, .box [.r [] (.int .i64 p.2.2.2.2.2.2.2.2.2.2.2.2.2.2.1), .r [] (.int .i64 p.2.2.2.2.2.2.2.2.2.2.2.2.2.2.2.1), .r [] (.int .i64 p.2.2.2.2.2.2.2.2.2.2.2.2.2.2.2.2.1), .nilS]), (1, .box [.r [] (.int .i64 p.2.2.2.2.2.2.2.2.2.2.2.2.2.2.2.2.2.2.2.2.1), .r [] (.int .i64 p.2.2.2.2.2.2.2.2.2.2.2.2.2.2.2.2.2.2.2.2.2.1), .r [] (.int .i64 p.2.2.2.2.2.2.2.2.2.2.2.2.2.2.2.2.2.2.2.2.2.2), .own 2]), (2, .arr none (.int .i64) x)], nid := 3, n := 59, gh := [] }
def y1ax (ρ : Type) (k : Nat) : Nat → Ev ρ → Ev ρ := fun id f => cond (Nat.beq id 0) (loopOrc y1ap y1aq (fun n nf => cond (Nat.beq n 59) (y1au nf) none) fun pv K => iter (fun v next => I_RunLayer_g0 k pv.1 v next (fun x => K (.exit 0) (y1aw pv.1 x))) k pv.2) ((fun id f => cond (Nat.beq id 2) (loopOrc y1ah y1ai (fun n nf => cond (Nat.beq n 59) (y1am nf) none) fun pv K => iter (fun v next => I_RunLayer_g1 k pv.1 v next (fun x => K (.exit 2) (y1ao pv.1 x))) k pv.2) ((fun id f => cond (Nat.beq id 4) (loopOrc y1a9 y1aa (fun n nf => cond (Nat.beq n 59) (y1ae nf) none) fun pv K => iter (fun v next => I_RunLayer_g2 k pv.1 v next (fun x => K (.exit 4) (y1ag pv.1 x))) k pv.2) ((fun _ _ _ _ => none) id f)) id f)) id f)
theorem y1ay {ρ : Type} (k : Nat) (p : Int × Int × Int × Int × Int × Int × Int × Int × Int × Int × List Int × Int × Int × Int × Int × Int × Int × Int × List Int × List Int × Int × Int × Int × Int × Int × Int × Int × Int × Int) (v : Int × List Int) (K K1 : Ex → St → Option ρ) : ev (y1a3 k) (y1ax ρ k) 4 y1a8 (y1ad (p, v)) (fun e st' => match e with
    | .normal => (normC y1a9 y1aa st').bind fun nf => K1 .normal (denorm y1a9 st'.n nf)
    | e => (normC (y1ab e) (y1ac e) st').bind fun nf => K e (denorm (y1ab e) st'.n nf)) = I_RunLayer_g2 k p v (fun v' => K1 .normal (y1ad (p, v'))) (fun x => K (.exit 4) (y1ag p x)) := by kernel_rfl
theorem y1az {ρ : Type} (k : Nat) : Sound Tryz.prog (.loop y1a8) (y1ax ρ k 4 fun st K => ev (y1a3 k) (y1ax ρ k) 4 y1a8 st K) :=
  loop_ok (ev_sound (y1a4 k) y1a8 4 (lpgood_none (by kernel_rfl))) y1ab y1ac k (g := fun p v next K => I_RunLayer_g2 k p v next (fun x => K (.exit 4) (y1ag p x))) (dec_at y1af) (fun p v K K1 => y1ay k p v K K1)
theorem y1b0 {ρ : Type} (k : Nat) (p : Int × Int × Int × Int × Int × Int × Int × List Int × Int × Int × Int × Int × Int × Int × Int × List Int × List Int × Int × Int × Int × Int × Int × Int × Int × Int × Int) (v : Int × List Int) (K K1 : Ex → St → Option ρ) : ev (y1a3 k) (y1ax ρ k) 2 y1a7 (y1al (p, v)) (fun e st' => match e with
    | .normal => (normC y1ah y1ai st').bind fun nf => K1 .normal (denorm y1ah st'.n nf)
    | e => (normC (y1aj e) (y1ak e) st').bind fun nf => K e (denorm (y1aj e) st'.n nf)) = I_RunLayer_g1 k p v (fun v' => K1 .normal (y1al (p, v'))) (fun x => K (.exit 2) (y1ao p x)) := by kernel_rfl
theorem y1b1 {ρ : Type} (k : Nat) : Sound Tryz.prog (.loop y1a7) (y1ax ρ k 2 fun st K => ev (y1a3 k) (y1ax ρ k) 2 y1a7 st K) :=
  loop_ok (ev_sound (y1a4 k) y1a7 2 (lpgood_of (l := [(4, y1a8)]) (by kernel_rfl) ⟨y1az k, trivial⟩)) y1aj y1ak k (g := fun p v next K => I_RunLayer_g1 k p v next (fun x => K (.exit 2) (y1ao p x))) (dec_at y1an) (fun p v K K1 => y1b0 k p v K K1)
theorem y1b2 {ρ : Type} (k : Nat) (p : Int × Int × Int × Int × List Int × Int × Int × Int × Int × Int × Int × Int × List Int × List Int × Int × Int × Int × Int × Int × Int × Int × Int × Int) (v : Int × List Int) (K K1 : Ex → St → Option ρ) : ev (y1a3 k) (y1ax ρ k) 0 y1a6 (y1at (p, v)) (fun e st' => match e with
    | .normal => (normC y1ap y1aq st').bind fun nf => K1 .normal (denorm y1ap st'.n nf)
    | e => (normC (y1ar e) (y1as e) st').bind fun nf => K e (denorm (y1ar e) st'.n nf)) = I_RunLayer_g0 k p v (fun v' => K1 .normal (y1at (p, v'))) (fun x => K (.exit 0) (y1aw p x)) := by kernel_rfl
theorem y1b3 {ρ : Type} (k : Nat) : Sound Tryz.prog (.loop y1a6) (y1ax ρ k 0 fun st K => ev (y1a3 k) (y1ax ρ k) 0 y1a6 st K) :=
  loop_ok (ev_sound (y1a4 k) y1a6 0 (lpgood_of (l := [(2, y1a7)]) (by kernel_rfl) ⟨y1b1 k, trivial⟩)) y1ar y1as k (g := fun p v next K => I_RunLayer_g0 k p v next (fun x => K (.exit 0) (y1aw p x))) (dec_at y1av) (fun p v K K1 => y1b2 k p v K K1)
def y1b4 (a : Tensor × Layer) : List Arg := [.agg [.int .i64 a.1.sh.h, .int .i64 a.1.sh.w, .int .i64 a.1.sh.c, .sl (.int .i64) a.1.data], .agg [.int .i64 a.2.kind, .int .i64 a.2.out, .int .i64 a.2.size, .int .i64 a.2.step, .int .i64 a.2.mult, .int .i64 a.2.shift, .int .i64 a.2.zero, .sl (.int .i64) a.2.weights, .sl (.int .i64) a.2.bias]]
def y1b5 (l : List Arg) : Option (Tensor × Layer) := match l with
  | [.agg [.int .i64 b0_0, .int .i64 b0_1, .int .i64 b0_2, .sl (.int .i64) b0_3], .agg [.int .i64 b1_0, .int .i64 b1_1, .int .i64 b1_2, .int .i64 b1_3, .int .i64 b1_4, .int .i64 b1_5, .int .i64 b1_6, .sl (.int .i64) b1_7, .sl (.int .i64) b1_8]] => some ((⟨(⟨b0_0, b0_1, b0_2⟩ : Shape), b0_3⟩ : Tensor), (⟨b1_0, b1_1, b1_2, b1_3, b1_4, b1_5, b1_6, b1_7, b1_8⟩ : Layer))
  | _ => none
def y1b6 (r : Tensor × Bool) : Out := (.tup [.agg [.r [] (.int .i64 r.1.sh.h), .r [] (.int .i64 r.1.sh.w), .r [] (.int .i64 r.1.sh.c), .own 0], .r [] (.bool r.2)], [.arr none (.int .i64) r.1.data])
def y1b7 (o : Out) : Option (Tensor × Bool) := match o with
  | (.tup [.agg [.r [] (.int .i64 z1), .r [] (.int .i64 z2), .r [] (.int .i64 z3), .own 0], .r [] (.bool z5)], [.arr none (.int .i64) z4]) => some ((⟨(⟨z1, z2, z3⟩ : Shape), z4⟩ : Tensor), z5)
  | _ => none
def y1b8 (k : Nat) : PG := fun _ l K => (y1b5 l).bind fun a => (I_RunLayer k a.1 a.2).bind fun r => K (y1b6 r)
theorem y1b9 (k : Nat) (a : Tensor × Layer) : ev (y1a3 k) (y1ax (Tensor × Bool) k) 0 y1a5 (st0 Tryz.f60 (y1b4 a)) (fin Tryz.prog Tryz.f60 (.tup [.agg [.sc, .sc, .sc, .own (.int .i64)], .sc]) y1b7) = I_RunLayer k a.1 a.2 := by kernel_rfl
theorem y1ba (k : Nat) : PureOk Tryz.prog 60 (y1b8 k) :=
  pureOk_of_ev (y1a4 k) Tryz.func60 (by kernel_rfl) (by kernel_rfl) y1b4 y1b5
    (fun l a h => by unfold y1b5 at h; split at h <;> first | (cases h; rfl) | cases h) (fun a => rfl) (lpgood_of (l := [(0, y1a6)]) (by kernel_rfl) ⟨y1b3 k, trivial⟩)
    (fun o r h => by unfold y1b7 at h; split at h <;> first | (cases h; rfl) | cases h) (y1b9 k)
def y1bb (k : Nat) : Orc := pureOrc [.agg [(.int .i64), (.int .i64), (.int .i64), (.sl (.int .i64))], .agg [(.int .i64), (.int .i64), (.int .i64), (.int .i64), (.int .i64), (.int .i64), (.int .i64), (.sl (.int .i64)), (.sl (.int .i64))]] (y1b8 k)
theorem y1bc (k : Nat) : OrcOk Tryz.prog 60 (y1bb k) := pureOrc_ok (y1ba k)
noncomputable def y1bd (k : Nat) : Env := { P := Tryz.prog, tt := tt, orc := fun g => cond (Nat.beq g 40) (y133 k) (cond (Nat.beq g 60) (y1bb k) (noOrc)) }
theorem y1be (k : Nat) : EnvOk (y1bd k) := fun g => (orc_cond (y134 k) (orc_cond (y1bc k) (noOrc_ok _ _)))
noncomputable def y1bf : Code := (Tryz.f30.body).getD .skip
def y1bg (ρ : Type) (k : Nat) : Nat → Ev ρ → Ev ρ := fun _ _ _ _ => none
def y1bh (a : Job) : List SV := [.ptr 0 0 0]
def y1bi (a : Job) : List Blk := [.box [.r [] (.int .i64 a.model.inp.h), .r [] (.int .i64 a.model.inp.w), .r [] (.int .i64 a.model.inp.c), .own 1, .r [] (.int .i64 a.at_), .r [] (.int .i64 a.act.sh.h), .r [] (.int .i64 a.act.sh.w), .r [] (.int .i64 a.act.sh.c), .own 2, .r [] (.int .i64 a.spent)], .arr none (.st .layer) a.model.layers, .arr none (.int .i64) a.act.data]
def y1bj (l : List SV) (b : List Blk) : Option (Job) := match l, b with
  | [.ptr 0 0 0], [.box [.r [] (.int .i64 w0), .r [] (.int .i64 w1), .r [] (.int .i64 w2), .own 1, .r [] (.int .i64 w3), .r [] (.int .i64 w4), .r [] (.int .i64 w5), .r [] (.int .i64 w6), .own 2, .r [] (.int .i64 w7)], .arr none (.st .layer) w8, .arr none (.int .i64) w9] => some (⟨(⟨(⟨w0, w1, w2⟩ : Shape), w8⟩ : Model), w3, (⟨(⟨w4, w5, w6⟩ : Shape), w9⟩ : Tensor), w7⟩ : Job)
  | _, _ => none
def y1bk (a : Job) (r : Int × Int × Int × Int × List Int × Int) : MOut := ⟨.tup [], [some (.box [.r [] (.int .i64 a.model.inp.h), .r [] (.int .i64 a.model.inp.w), .r [] (.int .i64 a.model.inp.c), .own 3, .r [] (.int .i64 r.1), .r [] (.int .i64 r.2.1), .r [] (.int .i64 r.2.2.1), .r [] (.int .i64 r.2.2.2.1), .own 4, .r [] (.int .i64 r.2.2.2.2.2)]), none, some (.arr none (.int .i64) a.act.data)], [.arr none (.st .layer) a.model.layers, .arr none (.int .i64) r.2.2.2.2.1]⟩
def y1bl (a : Job) (o : MOut) : Option (Int × Int × Int × Int × List Int × Int) := match o with
  | ⟨.tup [], [some (.box [.r [] (.int .i64 z1), .r [] (.int .i64 z2), .r [] (.int .i64 z3), .own 3, .r [] (.int .i64 z4), .r [] (.int .i64 z5), .r [] (.int .i64 z6), .r [] (.int .i64 z7), .own 4, .r [] (.int .i64 z8)]), none, some (.arr none (.int .i64) z9)], [.arr none (.st .layer) z10, .arr none (.int .i64) z11]⟩ => cond (@sameL Int _ z1 a.model.inp.h) (cond (@sameL Int _ z2 a.model.inp.w) (cond (@sameL Int _ z3 a.model.inp.c) (cond (@sameL (List Layer) _ z10 a.model.layers) (cond (@sameL (List Int) _ z9 a.act.data) (some (z4, z5, z6, z7, z11, z8)) none) none) none) none) none
  | _ => none
def y1bm (k : Nat) : MG := fun _ l b K => (y1bj l b).bind fun a => (pI_Job_step_m k a).bind fun r => K (y1bk a r)
theorem y1bn (k : Nat) (a : Job) : ev (y1bd k) (y1bg (Int × Int × Int × Int × List Int × Int) k) 0 y1bf (st0M Tryz.f30 (y1bh a) (y1bi a)) (finM Tryz.prog Tryz.f30 (.tup []) [.box [.sc, .sc, .sc, .own (.st .layer), .sc, .sc, .sc, .sc, .own (.int .i64), .sc], .gone, .arr] (y1bl a)) = pI_Job_step_m k a := by kernel_rfl
theorem y1bo (k : Nat) : MutOk Tryz.prog 30 (y1bm k) :=
  mutOk_of_ev (y1be k) Tryz.func30 (by kernel_rfl) (by kernel_rfl) y1bh y1bi y1bj
    (fun l b a h => by unfold y1bj at h; split at h <;> first | (cases h; exact ⟨rfl, rfl⟩) | cases h) (fun a => rfl) (lpgood_none (by kernel_rfl)) (fun a r => rfl)
    (fun a o r h => by unfold y1bl at h; split at h <;> first | (obtain ⟨e0, e1, e2, e3, e4, hq⟩ := dec_chk5 h; clear h; subst e0; subst e1; subst e2; subst e3; subst e4; have h := hq; clear hq; cases h; rfl) | cases h) (y1bn k)
def y1bp (k : Nat) : Orc := mutOrc [.keep] (y1bm k)
theorem y1bq (k : Nat) : OrcOk Tryz.prog 30 (y1bp k) := mutOrc_ok (y1bo k)
noncomputable def y1br (k : Nat) : Env := { P := Tryz.prog, tt := tt, orc := fun g => cond (Nat.beq g 27) (y120 k) (cond (Nat.beq g 28) (yru k) (cond (Nat.beq g 29) (y12d k) (cond (Nat.beq g 30) (y1bp k) (cond (Nat.beq g 40) (y133 k) (noOrc))))), wr := fun g => mem g [30], wt := true }
theorem y1bs (k : Nat) : EnvOk (y1br k) := fun g => (orc_cond (y121 k) (orc_cond (yrv k) (orc_cond (y12e k) (orc_cond (y1bq k) (orc_cond (y134 k) (noOrc_ok _ _))))))
noncomputable def y1bt : Code := (Tryz.f19.body).getD .skip
noncomputable def y1bu : Code := ((loopsIn 0 y1bt).getD 0 (0, .skip)).2
def y1bv : List Nat := [4, 6, 7]
def y1bw : List (Where × Co) := []
def y1bx : Ex → List Nat
  | .exit j => cond (Nat.beq j 0) [4, 6, 7] []
  | .ret => []
  | .normal => []
def y1by : Ex → List (Where × Co)
  | .exit j => cond (Nat.beq j 0) [] []
  | .ret => []
  | .normal => []
def y1bz (pv : (Int × Int × Int × Int × Int × Int × Int × Int × Int × Int × Int × List Layer) × (Int × Int × Int × Int × Int × Int × List Int)) : St := { slots := [(4, .ptr 0 0 0), (6, .ptr 1 0 0), (7, .r [] (.int .i64 pv.2.1))], heap := [(0, .box [.r [] (.int .i64 pv.1.1), .r [] (.int .i64 pv.1.2.1), .r [] (.int .i64 pv.1.2.2.1), .nilS, .r [] (.int .i64 pv.1.2.2.2.1), .r [] (.int .i64 pv.1.2.2.2.2.1), .r [] (.int .i64 pv.1.2.2.2.2.2.1), .r [] (.int .i64 pv.1.2.2.2.2.2.2.1), .nilS, .r [] (.int .i64 pv.1.2.2.2.2.2.2.2.1)]), (1, .box [.r [] (.int .i64 pv.1.2.2.2.2.2.2.2.2.1), .r [] (.int .i64 pv.1.2.2.2.2.2.2.2.2.2.1), .r [] (.int .i64 pv.1.2.2.2.2.2.2.2.2.2.2.1), .own 2, .r [] (.int .i64 pv.2.2.1), .r [] (.int .i64 pv.2.2.2.1), .r [] (.int .i64 pv.2.2.2.2.1), .r [] (.int .i64 pv.2.2.2.2.2.1), .own 3, .r [] (.int .i64 pv.2.2.2.2.2.2.1)]), (2, .arr none (.st .layer) pv.1.2.2.2.2.2.2.2.2.2.2.2), (3, .arr none (.int .i64) pv.2.2.2.2.2.2.2)], nid := 4, n := 33, gh := [] }
def y1c0 (nf : NF) : Option ((Int × Int × Int × Int × Int × Int × Int × Int × Int × Int × Int × List Layer) × (Int × Int × Int × Int × Int × Int × List Int)) := match nf with
  | ([.ptr 0 0 0, .ptr 1 0 0, .r [] (.int .i64 w0)], [.box [.r [] (.int .i64 w1), .r [] (.int .i64 w2), .r [] (.int .i64 w3), .nilS, .r [] (.int .i64 w4), .r [] (.int .i64 w5), .r [] (.int .i64 w6), .r [] (.int .i64 w7), .nilS, .r [] (.int .i64 w8)], .box [.r [] (.int .i64 w9), .r [] (.int .i64 w10), .r [] (.int .i64 w11), .own 2, .r [] (.int .i64 w12), .r [] (.int .i64 w13), .r [] (.int .i64 w14), .r [] (.int .i64 w15), .own 3, .r [] (.int .i64 w16)], .arr none (.st .layer) w17, .arr none (.int .i64) w18], []) => some ((w1, w2, w3, w4, w5, w6, w7, w8, w9, w10, w11, w17), (w0, w12, w13, w14, w15, w16, w18))
  | _ => none
theorem y1c1 (nf : NF) (v : (Int × Int × Int × Int × Int × Int × Int × Int × Int × Int × Int × List Layer) × (Int × Int × Int × Int × Int × Int × List Int)) (h : y1c0 nf = some v) : denorm y1bv 33 nf = y1bz v := by
  unfold y1c0 at h
  split at h
  · cases h; rfl
  · cases h
def y1c2 (p : Int × Int × Int × Int × Int × Int × Int × Int × Int × Int × Int × List Layer) (x : Int × Int × Int × Int × Int × Int × List Int) : St := { slots := [(4, .ptr 0 0 0), (6, .ptr 1 0 0), (7, .r [] (.int .i64 x.1))], heap := [(0, .box [.r [] (.int .i64 p.1), .r [] (.int .i64 p.2.1), .r [] (.int .i64 p.2.2.1), .nilS, .r [] (.int .i64 p.2.2.2.1), .r [] (.int .i64 p.2.2.2.2.1), .r [] (.int .i64 p.2.2.2.2.2.1), .r [] (.int .i64 p.2.2.2.2.2.2.1), .nilS, .r [] (.int .i64 p.2.2.2.2.2.2.2.1)]), (1, .box [.r [] (.int .i64 p.2.2.2.2.2.2.2.2.1), .r [] (.int .i64 p.2.2.2.2.2.2.2.2.2.1), .r [] (.int .i64 p.2.2.2.2.2.2.2.2.2.2.1), .own 2, .r [] (.int .i64 x.2.1), .r [] (.int .i64 x.2.2.1), .r [] (.int .i64 x.2.2.2.1), .r [] (.int .i64 x.2.2.2.2.1), .own 3, .r [] (.int .i64 x.2.2.2.2.2.1)]), (2, .arr none (.st .layer) p.2.2.2.2.2.2.2.2.2.2.2), (3, .arr none (.int .i64) x.2.2.2.2.2.2)], nid := 4, n := 33, gh := [] }
def y1c3 (ρ : Type) (k : Nat) : Nat → Ev ρ → Ev ρ := fun id f => cond (Nat.beq id 0) (loopOrc y1bv y1bw (fun n nf => cond (Nat.beq n 33) (y1c0 nf) none) fun pv K => iter (fun v next => I_RunFor_g0 k pv.1 v next (fun x => K (.exit 0) (y1c2 pv.1 x))) k pv.2) ((fun _ _ _ _ => none) id f)
theorem y1c4 {ρ : Type} (k : Nat) (p : Int × Int × Int × Int × Int × Int × Int × Int × Int × Int × Int × List Layer) (v : Int × Int × Int × Int × Int × Int × List Int) (K K1 : Ex → St → Option ρ) : ev (y1br k) (y1c3 ρ k) 0 y1bu (y1bz (p, v)) (fun e st' => match e with
    | .normal => (normC y1bv y1bw st').bind fun nf => K1 .normal (denorm y1bv st'.n nf)
    | e => (normC (y1bx e) (y1by e) st').bind fun nf => K e (denorm (y1bx e) st'.n nf)) = I_RunFor_g0 k p v (fun v' => K1 .normal (y1bz (p, v'))) (fun x => K (.exit 0) (y1c2 p x)) := by kernel_rfl
theorem y1c5 {ρ : Type} (k : Nat) : Sound Tryz.prog (.loop y1bu) (y1c3 ρ k 0 fun st K => ev (y1br k) (y1c3 ρ k) 0 y1bu st K) :=
  loop_ok (ev_sound (y1bs k) y1bu 0 (lpgood_none (by kernel_rfl))) y1bx y1by k (g := fun p v next K => I_RunFor_g0 k p v next (fun x => K (.exit 0) (y1c2 p x))) (dec_at y1c1) (fun p v K K1 => y1c4 k p v K K1)
def y1c6 (a : Job × Int) : List Arg := [.agg [.int .i64 a.1.model.inp.h, .int .i64 a.1.model.inp.w, .int .i64 a.1.model.inp.c, .sl (.st .layer) a.1.model.layers, .int .i64 a.1.at_, .int .i64 a.1.act.sh.h, .int .i64 a.1.act.sh.w, .int .i64 a.1.act.sh.c, .sl (.int .i64) a.1.act.data, .int .i64 a.1.spent], .one (.int .i64 a.2)]
def y1c7 (l : List Arg) : Option (Job × Int) := match l with
  | [.agg [.int .i64 b0_0, .int .i64 b0_1, .int .i64 b0_2, .sl (.st .layer) b0_3, .int .i64 b0_4, .int .i64 b0_5, .int .i64 b0_6, .int .i64 b0_7, .sl (.int .i64) b0_8, .int .i64 b0_9], .one (.int .i64 b1)] => some ((⟨(⟨(⟨b0_0, b0_1, b0_2⟩ : Shape), b0_3⟩ : Model), b0_4, (⟨(⟨b0_5, b0_6, b0_7⟩ : Shape), b0_8⟩ : Tensor), b0_9⟩ : Job), b1)
  | _ => none
def y1c8 (r : Job × Int) : Out := (.tup [.agg [.r [] (.int .i64 r.1.model.inp.h), .r [] (.int .i64 r.1.model.inp.w), .r [] (.int .i64 r.1.model.inp.c), .own 0, .r [] (.int .i64 r.1.at_), .r [] (.int .i64 r.1.act.sh.h), .r [] (.int .i64 r.1.act.sh.w), .r [] (.int .i64 r.1.act.sh.c), .own 1, .r [] (.int .i64 r.1.spent)], .r [] (.int .i64 r.2)], [.arr none (.st .layer) r.1.model.layers, .arr none (.int .i64) r.1.act.data])
def y1c9 (o : Out) : Option (Job × Int) := match o with
  | (.tup [.agg [.r [] (.int .i64 z1), .r [] (.int .i64 z2), .r [] (.int .i64 z3), .own 0, .r [] (.int .i64 z5), .r [] (.int .i64 z6), .r [] (.int .i64 z7), .r [] (.int .i64 z8), .own 1, .r [] (.int .i64 z10)], .r [] (.int .i64 z11)], [.arr none (.st .layer) z4, .arr none (.int .i64) z9]) => some ((⟨(⟨(⟨z1, z2, z3⟩ : Shape), z4⟩ : Model), z5, (⟨(⟨z6, z7, z8⟩ : Shape), z9⟩ : Tensor), z10⟩ : Job), z11)
  | _ => none
def y1ca (k : Nat) : PG := fun _ l K => (y1c7 l).bind fun a => (I_RunFor k a.1 a.2).bind fun r => K (y1c8 r)
theorem y1cb (k : Nat) (a : Job × Int) : ev (y1br k) (y1c3 (Job × Int) k) 0 y1bt (st0 Tryz.f19 (y1c6 a)) (fin Tryz.prog Tryz.f19 (.tup [.agg [.sc, .sc, .sc, .own (.st .layer), .sc, .sc, .sc, .sc, .own (.int .i64), .sc], .sc]) y1c9) = I_RunFor k a.1 a.2 := by kernel_rfl
theorem y1cc (k : Nat) : PureOk Tryz.prog 19 (y1ca k) :=
  pureOk_of_ev (y1bs k) Tryz.func19 (by kernel_rfl) (by kernel_rfl) y1c6 y1c7
    (fun l a h => by unfold y1c7 at h; split at h <;> first | (cases h; rfl) | cases h) (fun a => rfl) (lpgood_of (l := [(0, y1bu)]) (by kernel_rfl) ⟨y1c5 k, trivial⟩)
    (fun o r h => by unfold y1c9 at h; split at h <;> first | (cases h; rfl) | cases h) (y1cb k)
def y1cd (k : Nat) : Orc := pureOrc [.agg [(.int .i64), (.int .i64), (.int .i64), (.sl (.st .layer)), (.int .i64), (.int .i64), (.int .i64), (.int .i64), (.sl (.int .i64)), (.int .i64)], .one (.int .i64)] (y1ca k)
theorem y1ce (k : Nat) : OrcOk Tryz.prog 19 (y1cd k) := pureOrc_ok (y1cc k)
noncomputable def y1cf (k : Nat) : Env := { P := Tryz.prog, tt := tt, orc := fun g => noOrc }
theorem y1cg (k : Nat) : EnvOk (y1cf k) := fun g => (noOrc_ok _ _)
noncomputable def y1ch : Code := (Tryz.f31.body).getD .skip
def y1ci (ρ : Type) (k : Nat) : Nat → Ev ρ → Ev ρ := fun _ _ _ _ => none
def y1cj (a : Shape × Shape) : List Arg := [.agg [.int .i64 a.1.h, .int .i64 a.1.w, .int .i64 a.1.c], .agg [.int .i64 a.2.h, .int .i64 a.2.w, .int .i64 a.2.c]]
def y1ck (l : List Arg) : Option (Shape × Shape) := match l with
  | [.agg [.int .i64 b0_0, .int .i64 b0_1, .int .i64 b0_2], .agg [.int .i64 b1_0, .int .i64 b1_1, .int .i64 b1_2]] => some ((⟨b0_0, b0_1, b0_2⟩ : Shape), (⟨b1_0, b1_1, b1_2⟩ : Shape))
  | _ => none
def y1cl (r : Bool) : Out := (.r [] (.bool r), [])
def y1cm (o : Out) : Option (Bool) := match o with
  | (.r [] (.bool z1), []) => some z1
  | _ => none
def y1cn (k : Nat) : PG := fun _ l K => (y1ck l).bind fun a => (L_eqShape k a.1 a.2).bind fun r => K (y1cl r)
theorem y1co (k : Nat) (a : Shape × Shape) : ev (y1cf k) (y1ci (Bool) k) 0 y1ch (st0 Tryz.f31 (y1cj a)) (fin Tryz.prog Tryz.f31 (.sc) y1cm) = L_eqShape k a.1 a.2 := by kernel_rfl
theorem y1cp (k : Nat) : PureOk Tryz.prog 31 (y1cn k) :=
  pureOk_of_ev (y1cg k) Tryz.func31 (by kernel_rfl) (by kernel_rfl) y1cj y1ck
    (fun l a h => by unfold y1ck at h; split at h <;> first | (cases h; rfl) | cases h) (fun a => rfl) (lpgood_none (by kernel_rfl))
    (fun o r h => by unfold y1cm at h; split at h <;> first | (cases h; rfl) | cases h) (y1co k)
def y1cq (k : Nat) : Orc := pureOrc [.agg [(.int .i64), (.int .i64), (.int .i64)], .agg [(.int .i64), (.int .i64), (.int .i64)]] (y1cn k)
theorem y1cr (k : Nat) : OrcOk Tryz.prog 31 (y1cq k) := pureOrc_ok (y1cp k)
noncomputable def y1cs (k : Nat) : Env := { P := Tryz.prog, tt := tt, orc := fun g => noOrc }
theorem y1ct (k : Nat) : EnvOk (y1cs k) := fun g => (noOrc_ok _ _)
noncomputable def y1cu : Code := (Tryz.f32.body).getD .skip
noncomputable def y1cv : Code := ((loopsIn 0 y1cu).getD 0 (0, .skip)).2
def y1cw : List Nat := [0, 1, 5]
def y1cx : List (Where × Co) := []
def y1cy : Ex → List Nat
  | .exit j => cond (Nat.beq j 0) [] []
  | .ret => [4]
  | .normal => []
def y1cz : Ex → List (Where × Co)
  | .exit j => cond (Nat.beq j 0) [] []
  | .ret => []
  | .normal => []
def y1d0 (pv : (List Int × List Int) × (Int)) : St := { slots := [(0, .r [] (.sl (.int .i64) pv.1.1)), (1, .r [] (.sl (.int .i64) pv.1.2)), (5, .r [] (.int .i64 pv.2))], heap := [], nid := 0, n := 26, gh := [] }
def y1d1 (nf : NF) : Option ((List Int × List Int) × (Int)) := match nf with
  | ([.r [] (.sl (.int .i64) w0), .r [] (.sl (.int .i64) w1), .r [] (.int .i64 w2)], [], []) => some ((w0, w1), w2)
  | _ => none
theorem y1d2 (nf : NF) (v : (List Int × List Int) × (Int)) (h : y1d1 nf = some v) : denorm y1cw 26 nf = y1d0 v := by
  unfold y1d1 at h
  split at h
  · cases h; rfl
  · cases h
def y1d3 (p : List Int × List Int) (x : Unit) : St := { slots := [], heap := [], nid := 0, n := 26, gh := [] }
def y1d4 (p : List Int × List Int) (x : Bool) : St := { slots := [(4, .r [] (.bool x))], heap := [], nid := 0, n := 26, gh := [] }
def y1d5 (ρ : Type) (k : Nat) : Nat → Ev ρ → Ev ρ := fun id f => cond (Nat.beq id 0) (loopOrc y1cw y1cx (fun n nf => cond (Nat.beq n 26) (y1d1 nf) none) fun pv K => iter (fun v next => L_eqIntS_g0 k pv.1 v next (fun x => K (.exit 0) (y1d3 pv.1 x)) (fun x => K .ret (y1d4 pv.1 x))) k pv.2) ((fun _ _ _ _ => none) id f)
theorem y1d6 {ρ : Type} (k : Nat) (p : List Int × List Int) (v : Int) (K K1 : Ex → St → Option ρ) : ev (y1cs k) (y1d5 ρ k) 0 y1cv (y1d0 (p, v)) (fun e st' => match e with
    | .normal => (normC y1cw y1cx st').bind fun nf => K1 .normal (denorm y1cw st'.n nf)
    | e => (normC (y1cy e) (y1cz e) st').bind fun nf => K e (denorm (y1cy e) st'.n nf)) = L_eqIntS_g0 k p v (fun v' => K1 .normal (y1d0 (p, v'))) (fun x => K (.exit 0) (y1d3 p x)) (fun x => K .ret (y1d4 p x)) := by kernel_rfl
theorem y1d7 {ρ : Type} (k : Nat) : Sound Tryz.prog (.loop y1cv) (y1d5 ρ k 0 fun st K => ev (y1cs k) (y1d5 ρ k) 0 y1cv st K) :=
  loop_ok (ev_sound (y1ct k) y1cv 0 (lpgood_none (by kernel_rfl))) y1cy y1cz k (g := fun p v next K => L_eqIntS_g0 k p v next (fun x => K (.exit 0) (y1d3 p x)) (fun x => K .ret (y1d4 p x))) (dec_at y1d2) (fun p v K K1 => y1d6 k p v K K1)
def y1d8 (a : List Int × List Int) : List Arg := [.one (.sl (.int .i64) a.1), .one (.sl (.int .i64) a.2)]
def y1d9 (l : List Arg) : Option (List Int × List Int) := match l with
  | [.one (.sl (.int .i64) b0), .one (.sl (.int .i64) b1)] => some (b0, b1)
  | _ => none
def y1da (r : Bool) : Out := (.r [] (.bool r), [])
def y1db (o : Out) : Option (Bool) := match o with
  | (.r [] (.bool z1), []) => some z1
  | _ => none
def y1dc (k : Nat) : PG := fun _ l K => (y1d9 l).bind fun a => (L_eqIntS k a.1 a.2).bind fun r => K (y1da r)
theorem y1dd (k : Nat) (a : List Int × List Int) : ev (y1cs k) (y1d5 (Bool) k) 0 y1cu (st0 Tryz.f32 (y1d8 a)) (fin Tryz.prog Tryz.f32 (.sc) y1db) = L_eqIntS k a.1 a.2 := by kernel_rfl
theorem y1de (k : Nat) : PureOk Tryz.prog 32 (y1dc k) :=
  pureOk_of_ev (y1ct k) Tryz.func32 (by kernel_rfl) (by kernel_rfl) y1d8 y1d9
    (fun l a h => by unfold y1d9 at h; split at h <;> first | (cases h; rfl) | cases h) (fun a => rfl) (lpgood_of (l := [(0, y1cv)]) (by kernel_rfl) ⟨y1d7 k, trivial⟩)
    (fun o r h => by unfold y1db at h; split at h <;> first | (cases h; rfl) | cases h) (y1dd k)
def y1df (k : Nat) : Orc := pureOrc [.one (.sl (.int .i64)), .one (.sl (.int .i64))] (y1dc k)
theorem y1dg (k : Nat) : OrcOk Tryz.prog 32 (y1df k) := pureOrc_ok (y1de k)
noncomputable def y1dh (k : Nat) : Env := { P := Tryz.prog, tt := tt, orc := fun g => cond (Nat.beq g 32) (y1df k) (noOrc) }
theorem y1di (k : Nat) : EnvOk (y1dh k) := fun g => (orc_cond (y1dg k) (noOrc_ok _ _))
noncomputable def y1dj : Code := (Tryz.f85.body).getD .skip
def y1dk (ρ : Type) (k : Nat) : Nat → Ev ρ → Ev ρ := fun _ _ _ _ => none
def y1dl (a : Layer × Layer) : List Arg := [.agg [.int .i64 a.1.kind, .int .i64 a.1.out, .int .i64 a.1.size, .int .i64 a.1.step, .int .i64 a.1.mult, .int .i64 a.1.shift, .int .i64 a.1.zero, .sl (.int .i64) a.1.weights, .sl (.int .i64) a.1.bias], .agg [.int .i64 a.2.kind, .int .i64 a.2.out, .int .i64 a.2.size, .int .i64 a.2.step, .int .i64 a.2.mult, .int .i64 a.2.shift, .int .i64 a.2.zero, .sl (.int .i64) a.2.weights, .sl (.int .i64) a.2.bias]]
def y1dm (l : List Arg) : Option (Layer × Layer) := match l with
  | [.agg [.int .i64 b0_0, .int .i64 b0_1, .int .i64 b0_2, .int .i64 b0_3, .int .i64 b0_4, .int .i64 b0_5, .int .i64 b0_6, .sl (.int .i64) b0_7, .sl (.int .i64) b0_8], .agg [.int .i64 b1_0, .int .i64 b1_1, .int .i64 b1_2, .int .i64 b1_3, .int .i64 b1_4, .int .i64 b1_5, .int .i64 b1_6, .sl (.int .i64) b1_7, .sl (.int .i64) b1_8]] => some ((⟨b0_0, b0_1, b0_2, b0_3, b0_4, b0_5, b0_6, b0_7, b0_8⟩ : Layer), (⟨b1_0, b1_1, b1_2, b1_3, b1_4, b1_5, b1_6, b1_7, b1_8⟩ : Layer))
  | _ => none
def y1dn (r : Bool) : Out := (.r [] (.bool r), [])
def y1do (o : Out) : Option (Bool) := match o with
  | (.r [] (.bool z1), []) => some z1
  | _ => none
def y1dp (k : Nat) : PG := fun _ l K => (y1dm l).bind fun a => (L_eqLayer k a.1 a.2).bind fun r => K (y1dn r)
theorem y1dq (k : Nat) (a : Layer × Layer) : ev (y1dh k) (y1dk (Bool) k) 0 y1dj (st0 Tryz.f85 (y1dl a)) (fin Tryz.prog Tryz.f85 (.sc) y1do) = L_eqLayer k a.1 a.2 := by kernel_rfl
theorem y1dr (k : Nat) : PureOk Tryz.prog 85 (y1dp k) :=
  pureOk_of_ev (y1di k) Tryz.func85 (by kernel_rfl) (by kernel_rfl) y1dl y1dm
    (fun l a h => by unfold y1dm at h; split at h <;> first | (cases h; rfl) | cases h) (fun a => rfl) (lpgood_none (by kernel_rfl))
    (fun o r h => by unfold y1do at h; split at h <;> first | (cases h; rfl) | cases h) (y1dq k)
def y1ds (k : Nat) : Orc := pureOrc [.agg [(.int .i64), (.int .i64), (.int .i64), (.int .i64), (.int .i64), (.int .i64), (.int .i64), (.sl (.int .i64)), (.sl (.int .i64))], .agg [(.int .i64), (.int .i64), (.int .i64), (.int .i64), (.int .i64), (.int .i64), (.int .i64), (.sl (.int .i64)), (.sl (.int .i64))]] (y1dp k)
theorem y1dt (k : Nat) : OrcOk Tryz.prog 85 (y1ds k) := pureOrc_ok (y1dr k)
noncomputable def y1du (k : Nat) : Env := { P := Tryz.prog, tt := tt, orc := fun g => cond (Nat.beq g 85) (y1ds k) (noOrc) }
theorem y1dv (k : Nat) : EnvOk (y1du k) := fun g => (orc_cond (y1dt k) (noOrc_ok _ _))
noncomputable def y1dw : Code := (Tryz.f61.body).getD .skip
noncomputable def y1dx : Code := ((loopsIn 0 y1dw).getD 0 (0, .skip)).2
def y1dy : List Nat := [0, 1, 5]
def y1dz : List (Where × Co) := []
def y1e0 : Ex → List Nat
  | .exit j => cond (Nat.beq j 0) [] []
  | .ret => [4]
  | .normal => []
def y1e1 : Ex → List (Where × Co)
  | .exit j => cond (Nat.beq j 0) [] []
  | .ret => []
  | .normal => []
def y1e2 (pv : (List Layer × List Layer) × (Int)) : St := { slots := [(0, .r [] (.sl (.st .layer) pv.1.1)), (1, .r [] (.sl (.st .layer) pv.1.2)), (5, .r [] (.int .i64 pv.2))], heap := [], nid := 0, n := 27, gh := [] }
def y1e3 (nf : NF) : Option ((List Layer × List Layer) × (Int)) := match nf with
  | ([.r [] (.sl (.st .layer) w0), .r [] (.sl (.st .layer) w1), .r [] (.int .i64 w2)], [], []) => some ((w0, w1), w2)
  | _ => none
theorem y1e4 (nf : NF) (v : (List Layer × List Layer) × (Int)) (h : y1e3 nf = some v) : denorm y1dy 27 nf = y1e2 v := by
  unfold y1e3 at h
  split at h
  · cases h; rfl
  · cases h
def y1e5 (p : List Layer × List Layer) (x : Unit) : St := { slots := [], heap := [], nid := 0, n := 27, gh := [] }
def y1e6 (p : List Layer × List Layer) (x : Bool) : St := { slots := [(4, .r [] (.bool x))], heap := [], nid := 0, n := 27, gh := [] }
def y1e7 (ρ : Type) (k : Nat) : Nat → Ev ρ → Ev ρ := fun id f => cond (Nat.beq id 0) (loopOrc y1dy y1dz (fun n nf => cond (Nat.beq n 27) (y1e3 nf) none) fun pv K => iter (fun v next => L_eqLayerS_g0 k pv.1 v next (fun x => K (.exit 0) (y1e5 pv.1 x)) (fun x => K .ret (y1e6 pv.1 x))) k pv.2) ((fun _ _ _ _ => none) id f)
theorem y1e8 {ρ : Type} (k : Nat) (p : List Layer × List Layer) (v : Int) (K K1 : Ex → St → Option ρ) : ev (y1du k) (y1e7 ρ k) 0 y1dx (y1e2 (p, v)) (fun e st' => match e with
    | .normal => (normC y1dy y1dz st').bind fun nf => K1 .normal (denorm y1dy st'.n nf)
    | e => (normC (y1e0 e) (y1e1 e) st').bind fun nf => K e (denorm (y1e0 e) st'.n nf)) = L_eqLayerS_g0 k p v (fun v' => K1 .normal (y1e2 (p, v'))) (fun x => K (.exit 0) (y1e5 p x)) (fun x => K .ret (y1e6 p x)) := by kernel_rfl
theorem y1e9 {ρ : Type} (k : Nat) : Sound Tryz.prog (.loop y1dx) (y1e7 ρ k 0 fun st K => ev (y1du k) (y1e7 ρ k) 0 y1dx st K) :=
  loop_ok (ev_sound (y1dv k) y1dx 0 (lpgood_none (by kernel_rfl))) y1e0 y1e1 k (g := fun p v next K => L_eqLayerS_g0 k p v next (fun x => K (.exit 0) (y1e5 p x)) (fun x => K .ret (y1e6 p x))) (dec_at y1e4) (fun p v K K1 => y1e8 k p v K K1)
def y1ea (a : List Layer × List Layer) : List Arg := [.one (.sl (.st .layer) a.1), .one (.sl (.st .layer) a.2)]
def y1eb (l : List Arg) : Option (List Layer × List Layer) := match l with
  | [.one (.sl (.st .layer) b0), .one (.sl (.st .layer) b1)] => some (b0, b1)
  | _ => none
def y1ec (r : Bool) : Out := (.r [] (.bool r), [])
def y1ed (o : Out) : Option (Bool) := match o with
  | (.r [] (.bool z1), []) => some z1
  | _ => none
def y1ee (k : Nat) : PG := fun _ l K => (y1eb l).bind fun a => (L_eqLayerS k a.1 a.2).bind fun r => K (y1ec r)
theorem y1ef (k : Nat) (a : List Layer × List Layer) : ev (y1du k) (y1e7 (Bool) k) 0 y1dw (st0 Tryz.f61 (y1ea a)) (fin Tryz.prog Tryz.f61 (.sc) y1ed) = L_eqLayerS k a.1 a.2 := by kernel_rfl
theorem y1eg (k : Nat) : PureOk Tryz.prog 61 (y1ee k) :=
  pureOk_of_ev (y1dv k) Tryz.func61 (by kernel_rfl) (by kernel_rfl) y1ea y1eb
    (fun l a h => by unfold y1eb at h; split at h <;> first | (cases h; rfl) | cases h) (fun a => rfl) (lpgood_of (l := [(0, y1dx)]) (by kernel_rfl) ⟨y1e9 k, trivial⟩)
    (fun o r h => by unfold y1ed at h; split at h <;> first | (cases h; rfl) | cases h) (y1ef k)
def y1eh (k : Nat) : Orc := pureOrc [.one (.sl (.st .layer)), .one (.sl (.st .layer))] (y1ee k)
theorem y1ei (k : Nat) : OrcOk Tryz.prog 61 (y1eh k) := pureOrc_ok (y1eg k)
noncomputable def y1ej (k : Nat) : Env := { P := Tryz.prog, tt := tt, orc := fun g => cond (Nat.beq g 31) (y1cq k) (cond (Nat.beq g 61) (y1eh k) (noOrc)) }
theorem y1ek (k : Nat) : EnvOk (y1ej k) := fun g => (orc_cond (y1cr k) (orc_cond (y1ei k) (noOrc_ok _ _)))
noncomputable def y1el : Code := (Tryz.f33.body).getD .skip
def y1em (ρ : Type) (k : Nat) : Nat → Ev ρ → Ev ρ := fun _ _ _ _ => none
def y1en (a : Model × Model) : List Arg := [.agg [.int .i64 a.1.inp.h, .int .i64 a.1.inp.w, .int .i64 a.1.inp.c, .sl (.st .layer) a.1.layers], .agg [.int .i64 a.2.inp.h, .int .i64 a.2.inp.w, .int .i64 a.2.inp.c, .sl (.st .layer) a.2.layers]]
def y1eo (l : List Arg) : Option (Model × Model) := match l with
  | [.agg [.int .i64 b0_0, .int .i64 b0_1, .int .i64 b0_2, .sl (.st .layer) b0_3], .agg [.int .i64 b1_0, .int .i64 b1_1, .int .i64 b1_2, .sl (.st .layer) b1_3]] => some ((⟨(⟨b0_0, b0_1, b0_2⟩ : Shape), b0_3⟩ : Model), (⟨(⟨b1_0, b1_1, b1_2⟩ : Shape), b1_3⟩ : Model))
  | _ => none
def y1ep (r : Bool) : Out := (.r [] (.bool r), [])
def y1eq (o : Out) : Option (Bool) := match o with
  | (.r [] (.bool z1), []) => some z1
  | _ => none
def y1er (k : Nat) : PG := fun _ l K => (y1eo l).bind fun a => (L_eqModel k a.1 a.2).bind fun r => K (y1ep r)
theorem y1es (k : Nat) (a : Model × Model) : ev (y1ej k) (y1em (Bool) k) 0 y1el (st0 Tryz.f33 (y1en a)) (fin Tryz.prog Tryz.f33 (.sc) y1eq) = L_eqModel k a.1 a.2 := by kernel_rfl
theorem y1et (k : Nat) : PureOk Tryz.prog 33 (y1er k) :=
  pureOk_of_ev (y1ek k) Tryz.func33 (by kernel_rfl) (by kernel_rfl) y1en y1eo
    (fun l a h => by unfold y1eo at h; split at h <;> first | (cases h; rfl) | cases h) (fun a => rfl) (lpgood_none (by kernel_rfl))
    (fun o r h => by unfold y1eq at h; split at h <;> first | (cases h; rfl) | cases h) (y1es k)
def y1eu (k : Nat) : Orc := pureOrc [.agg [(.int .i64), (.int .i64), (.int .i64), (.sl (.st .layer))], .agg [(.int .i64), (.int .i64), (.int .i64), (.sl (.st .layer))]] (y1er k)
theorem y1ev (k : Nat) : OrcOk Tryz.prog 33 (y1eu k) := pureOrc_ok (y1et k)
noncomputable def y1ew (k : Nat) : Env := { P := Tryz.prog, tt := tt, orc := fun g => cond (Nat.beq g 31) (y1cq k) (cond (Nat.beq g 32) (y1df k) (noOrc)) }
theorem y1ex (k : Nat) : EnvOk (y1ew k) := fun g => (orc_cond (y1cr k) (orc_cond (y1dg k) (noOrc_ok _ _)))
noncomputable def y1ey : Code := (Tryz.f10.body).getD .skip
def y1ez (ρ : Type) (k : Nat) : Nat → Ev ρ → Ev ρ := fun _ _ _ _ => none
def y1f0 (a : Tensor × Tensor) : List Arg := [.agg [.int .i64 a.1.sh.h, .int .i64 a.1.sh.w, .int .i64 a.1.sh.c, .sl (.int .i64) a.1.data], .agg [.int .i64 a.2.sh.h, .int .i64 a.2.sh.w, .int .i64 a.2.sh.c, .sl (.int .i64) a.2.data]]
def y1f1 (l : List Arg) : Option (Tensor × Tensor) := match l with
  | [.agg [.int .i64 b0_0, .int .i64 b0_1, .int .i64 b0_2, .sl (.int .i64) b0_3], .agg [.int .i64 b1_0, .int .i64 b1_1, .int .i64 b1_2, .sl (.int .i64) b1_3]] => some ((⟨(⟨b0_0, b0_1, b0_2⟩ : Shape), b0_3⟩ : Tensor), (⟨(⟨b1_0, b1_1, b1_2⟩ : Shape), b1_3⟩ : Tensor))
  | _ => none
def y1f2 (r : Bool) : Out := (.r [] (.bool r), [])
def y1f3 (o : Out) : Option (Bool) := match o with
  | (.r [] (.bool z1), []) => some z1
  | _ => none
def y1f4 (k : Nat) : PG := fun _ l K => (y1f1 l).bind fun a => (L_eqTensor k a.1 a.2).bind fun r => K (y1f2 r)
theorem y1f5 (k : Nat) (a : Tensor × Tensor) : ev (y1ew k) (y1ez (Bool) k) 0 y1ey (st0 Tryz.f10 (y1f0 a)) (fin Tryz.prog Tryz.f10 (.sc) y1f3) = L_eqTensor k a.1 a.2 := by kernel_rfl
theorem y1f6 (k : Nat) : PureOk Tryz.prog 10 (y1f4 k) :=
  pureOk_of_ev (y1ex k) Tryz.func10 (by kernel_rfl) (by kernel_rfl) y1f0 y1f1
    (fun l a h => by unfold y1f1 at h; split at h <;> first | (cases h; rfl) | cases h) (fun a => rfl) (lpgood_none (by kernel_rfl))
    (fun o r h => by unfold y1f3 at h; split at h <;> first | (cases h; rfl) | cases h) (y1f5 k)
def y1f7 (k : Nat) : Orc := pureOrc [.agg [(.int .i64), (.int .i64), (.int .i64), (.sl (.int .i64))], .agg [(.int .i64), (.int .i64), (.int .i64), (.sl (.int .i64))]] (y1f4 k)
theorem y1f8 (k : Nat) : OrcOk Tryz.prog 10 (y1f7 k) := pureOrc_ok (y1f6 k)
noncomputable def y1f9 (k : Nat) : Env := { P := Tryz.prog, tt := tt, orc := fun g => cond (Nat.beq g 10) (y1f7 k) (cond (Nat.beq g 33) (y1eu k) (noOrc)) }
theorem y1fa (k : Nat) : EnvOk (y1f9 k) := fun g => (orc_cond (y1f8 k) (orc_cond (y1ev k) (noOrc_ok _ _)))
noncomputable def y1fb : Code := (Tryz.f11.body).getD .skip
def y1fc (ρ : Type) (k : Nat) : Nat → Ev ρ → Ev ρ := fun _ _ _ _ => none
def y1fd (a : Job × Job) : List Arg := [.agg [.int .i64 a.1.model.inp.h, .int .i64 a.1.model.inp.w, .int .i64 a.1.model.inp.c, .sl (.st .layer) a.1.model.layers, .int .i64 a.1.at_, .int .i64 a.1.act.sh.h, .int .i64 a.1.act.sh.w, .int .i64 a.1.act.sh.c, .sl (.int .i64) a.1.act.data, .int .i64 a.1.spent], .agg [.int .i64 a.2.model.inp.h, .int .i64 a.2.model.inp.w, .int .i64 a.2.model.inp.c, .sl (.st .layer) a.2.model.layers, .int .i64 a.2.at_, .int .i64 a.2.act.sh.h, .int .i64 a.2.act.sh.w, .int .i64 a.2.act.sh.c, .sl (.int .i64) a.2.act.data, .int .i64 a.2.spent]]
def y1fe (l : List Arg) : Option (Job × Job) := match l with
  | [.agg [.int .i64 b0_0, .int .i64 b0_1, .int .i64 b0_2, .sl (.st .layer) b0_3, .int .i64 b0_4, .int .i64 b0_5, .int .i64 b0_6, .int .i64 b0_7, .sl (.int .i64) b0_8, .int .i64 b0_9], .agg [.int .i64 b1_0, .int .i64 b1_1, .int .i64 b1_2, .sl (.st .layer) b1_3, .int .i64 b1_4, .int .i64 b1_5, .int .i64 b1_6, .int .i64 b1_7, .sl (.int .i64) b1_8, .int .i64 b1_9]] => some ((⟨(⟨(⟨b0_0, b0_1, b0_2⟩ : Shape), b0_3⟩ : Model), b0_4, (⟨(⟨b0_5, b0_6, b0_7⟩ : Shape), b0_8⟩ : Tensor), b0_9⟩ : Job), (⟨(⟨(⟨b1_0, b1_1, b1_2⟩ : Shape), b1_3⟩ : Model), b1_4, (⟨(⟨b1_5, b1_6, b1_7⟩ : Shape), b1_8⟩ : Tensor), b1_9⟩ : Job))
  | _ => none
def y1ff (r : Bool) : Out := (.r [] (.bool r), [])
def y1fg (o : Out) : Option (Bool) := match o with
  | (.r [] (.bool z1), []) => some z1
  | _ => none
def y1fh (k : Nat) : PG := fun _ l K => (y1fe l).bind fun a => (L_eqJob k a.1 a.2).bind fun r => K (y1ff r)
theorem y1fi (k : Nat) (a : Job × Job) : ev (y1f9 k) (y1fc (Bool) k) 0 y1fb (st0 Tryz.f11 (y1fd a)) (fin Tryz.prog Tryz.f11 (.sc) y1fg) = L_eqJob k a.1 a.2 := by kernel_rfl
theorem y1fj (k : Nat) : PureOk Tryz.prog 11 (y1fh k) :=
  pureOk_of_ev (y1fa k) Tryz.func11 (by kernel_rfl) (by kernel_rfl) y1fd y1fe
    (fun l a h => by unfold y1fe at h; split at h <;> first | (cases h; rfl) | cases h) (fun a => rfl) (lpgood_none (by kernel_rfl))
    (fun o r h => by unfold y1fg at h; split at h <;> first | (cases h; rfl) | cases h) (y1fi k)
def y1fk (k : Nat) : Orc := pureOrc [.agg [(.int .i64), (.int .i64), (.int .i64), (.sl (.st .layer)), (.int .i64), (.int .i64), (.int .i64), (.int .i64), (.sl (.int .i64)), (.int .i64)], .agg [(.int .i64), (.int .i64), (.int .i64), (.sl (.st .layer)), (.int .i64), (.int .i64), (.int .i64), (.int .i64), (.sl (.int .i64)), (.int .i64)]] (y1fh k)
theorem y1fl (k : Nat) : OrcOk Tryz.prog 11 (y1fk k) := pureOrc_ok (y1fj k)
noncomputable def y1fm (k : Nat) : Env := { P := Tryz.prog, tt := tt, orc := fun g => noOrc }
theorem y1fn (k : Nat) : EnvOk (y1fm k) := fun g => (noOrc_ok _ _)
noncomputable def y1fo : Code := (Tryz.f35.body).getD .skip
noncomputable def y1fp : Code := ((loopsIn 0 y1fo).getD 0 (0, .skip)).2
def y1fq : List Nat := [0, 1, 5]
def y1fr : List (Where × Co) := []
def y1fs : Ex → List Nat
  | .exit j => cond (Nat.beq j 0) [1] []
  | .ret => []
  | .normal => []
def y1ft : Ex → List (Where × Co)
  | .exit j => cond (Nat.beq j 0) [] []
  | .ret => []
  | .normal => []
def y1fu (pv : (Unit) × (Int × Int × List Int)) : St := { slots := [(0, .own 0), (1, .r [] (.int .i64 pv.2.1)), (5, .r [] (.int .i64 pv.2.2.1))], heap := [(0, .arr none (.int .i64) pv.2.2.2)], nid := 1, n := 19, gh := [some 0] }
def y1fv (nf : NF) : Option ((Unit) × (Int × Int × List Int)) := match nf with
  | ([.own 0, .r [] (.int .i64 w0), .r [] (.int .i64 w1)], [.arr none (.int .i64) w2], [some 0]) => some ((), (w0, w1, w2))
  | _ => none
theorem y1fw (nf : NF) (v : (Unit) × (Int × Int × List Int)) (h : y1fv nf = some v) : denorm y1fq 19 nf = y1fu v := by
  unfold y1fv at h
  split at h
  · cases h; rfl
  · cases h
def y1fx (p : Unit) (x : Int × List Int) : St := { slots := [(1, .r [] (.int .i64 x.1))], heap := [(0, .arr none (.int .i64) x.2)], nid := 1, n := 19, gh := [some 0] }
def y1fy (ρ : Type) (k : Nat) : Nat → Ev ρ → Ev ρ := fun id f => cond (Nat.beq id 0) (loopOrc y1fq y1fr (fun n nf => cond (Nat.beq n 19) (y1fv nf) none) fun pv K => iter (fun v next => L_markIntS_m3_g0 k pv.1 v next (fun x => K (.exit 0) (y1fx pv.1 x))) k pv.2) ((fun _ _ _ _ => none) id f)
theorem y1fz {ρ : Type} (k : Nat) (p : Unit) (v : Int × Int × List Int) (K K1 : Ex → St → Option ρ) : ev (y1fm k) (y1fy ρ k) 0 y1fp (y1fu (p, v)) (fun e st' => match e with
    | .normal => (normC y1fq y1fr st').bind fun nf => K1 .normal (denorm y1fq st'.n nf)
    | e => (normC (y1fs e) (y1ft e) st').bind fun nf => K e (denorm (y1fs e) st'.n nf)) = L_markIntS_m3_g0 k p v (fun v' => K1 .normal (y1fu (p, v'))) (fun x => K (.exit 0) (y1fx p x)) := by kernel_rfl
theorem y1g0 {ρ : Type} (k : Nat) : Sound Tryz.prog (.loop y1fp) (y1fy ρ k 0 fun st K => ev (y1fm k) (y1fy ρ k) 0 y1fp st K) :=
  loop_ok (ev_sound (y1fn k) y1fp 0 (lpgood_none (by kernel_rfl))) y1fs y1ft k (g := fun p v next K => L_markIntS_m3_g0 k p v next (fun x => K (.exit 0) (y1fx p x))) (dec_at y1fw) (fun p v K K1 => y1fz k p v K K1)
def y1g1 (a : List Int × Int) : List SV := [.own 0, .r [] (.int .i64 a.2)]
def y1g2 (a : List Int × Int) : List Blk := [.arr none (.int .i64) a.1]
def y1g3 (l : List SV) (b : List Blk) : Option (List Int × Int) := match l, b with
  | [.own 0, .r [] (.int .i64 w0)], [.arr none (.int .i64) w1] => some (w1, w0)
  | _, _ => none
def y1g4 (a : List Int × Int) (r : Int × List Int) : MOut := ⟨.r [] (.int .i64 r.1), [some (.arr none (.int .i64) r.2)], []⟩
def y1g5 (a : List Int × Int) (o : MOut) : Option (Int × List Int) := match o with
  | ⟨.r [] (.int .i64 z1), [some (.arr none (.int .i64) z2)], []⟩ => some (z1, z2)
  | _ => none
def y1g6 (k : Nat) : MG := fun _ l b K => (y1g3 l b).bind fun a => (L_markIntS_m3 k a.1 a.2).bind fun r => K (y1g4 a r)
theorem y1g7 (k : Nat) (a : List Int × Int) : ev (y1fm k) (y1fy (Int × List Int) k) 0 y1fo (st0M Tryz.f35 (y1g1 a) (y1g2 a)) (finM Tryz.prog Tryz.f35 (.sc) [.arr] (y1g5 a)) = L_markIntS_m3 k a.1 a.2 := by kernel_rfl
theorem y1g8 (k : Nat) : MutOk Tryz.prog 35 (y1g6 k) :=
  mutOk_of_ev (y1fn k) Tryz.func35 (by kernel_rfl) (by kernel_rfl) y1g1 y1g2 y1g3
    (fun l b a h => by unfold y1g3 at h; split at h <;> first | (cases h; exact ⟨rfl, rfl⟩) | cases h) (fun a => rfl) (lpgood_of (l := [(0, y1fp)]) (by kernel_rfl) ⟨y1g0 k, trivial⟩) (fun a r => rfl)
    (fun a o r h => by unfold y1g5 at h; split at h <;> first | (skip; cases h; rfl) | cases h) (y1g7 k)
def y1g9 (k : Nat) : Orc := mutOrc [.keep, .keep] (y1g6 k)
theorem y1ga (k : Nat) : OrcOk Tryz.prog 35 (y1g9 k) := mutOrc_ok (y1g8 k)
noncomputable def y1gb (k : Nat) : Env := { P := Tryz.prog, tt := tt, orc := fun g => cond (Nat.beq g 35) (innOrc (y1g9 k)) (noOrc), wr := fun g => mem g [35], wt := true, inn := true }
theorem y1gc (k : Nat) : EnvOk (y1gb k) := fun g => (orc_cond (innOrc_ok (y1ga k)) (noOrc_ok _ _))
noncomputable def y1gd : Code := (Tryz.f62.body).getD .skip
noncomputable def y1ge : Code := ((loopsIn 0 y1gd).getD 0 (0, .skip)).2
def y1gf : List Nat := [0, 1, 5]
def y1gg : List (Where × Co) := []
def y1gh : Ex → List Nat
  | .exit j => cond (Nat.beq j 0) [1] []
  | .ret => []
  | .normal => []
def y1gi : Ex → List (Where × Co)
  | .exit j => cond (Nat.beq j 0) [] []
  | .ret => []
  | .normal => []
def y1gj (pv : (Unit) × (Int × Int × List Layer)) : St := { slots := [(0, .own 0), (1, .r [] (.int .i64 pv.2.1)), (5, .r [] (.int .i64 pv.2.2.1))], heap := [(0, .arr none (.st .layer) pv.2.2.2)], nid := 1, n := 76, gh := [some 0] }
def y1gk (nf : NF) : Option ((Unit) × (Int × Int × List Layer)) := match nf with
  | ([.own 0, .r [] (.int .i64 w0), .r [] (.int .i64 w1)], [.arr none (.st .layer) w2], [some 0]) => some ((), (w0, w1, w2))
  | _ => none
theorem y1gl (nf : NF) (v : (Unit) × (Int × Int × List Layer)) (h : y1gk nf = some v) : denorm y1gf 76 nf = y1gj v := by
  unfold y1gk at h
  split at h
  · cases h; rfl
  · cases h
def y1gm (p : Unit) (x : Int × List Layer) : St := { slots := [(1, .r [] (.int .i64 x.1))], heap := [(0, .arr none (.st .layer) x.2)], nid := 1, n := 76, gh := [some 0] }
def y1gn (ρ : Type) (k : Nat) : Nat → Ev ρ → Ev ρ := fun id f => cond (Nat.beq id 0) (loopOrc y1gf y1gg (fun n nf => cond (Nat.beq n 76) (y1gk nf) none) fun pv K => iter (fun v next => L_markLayerS_m3_g0 k pv.1 v next (fun x => K (.exit 0) (y1gm pv.1 x))) k pv.2) ((fun _ _ _ _ => none) id f)
theorem y1go {ρ : Type} (k : Nat) (p : Unit) (v : Int × Int × List Layer) (K K1 : Ex → St → Option ρ) : ev (y1gb k) (y1gn ρ k) 0 y1ge (y1gj (p, v)) (fun e st' => match e with
    | .normal => (normC y1gf y1gg st').bind fun nf => K1 .normal (denorm y1gf st'.n nf)
    | e => (normC (y1gh e) (y1gi e) st').bind fun nf => K e (denorm (y1gh e) st'.n nf)) = L_markLayerS_m3_g0 k p v (fun v' => K1 .normal (y1gj (p, v'))) (fun x => K (.exit 0) (y1gm p x)) := by kernel_rfl
theorem y1gp {ρ : Type} (k : Nat) : Sound Tryz.prog (.loop y1ge) (y1gn ρ k 0 fun st K => ev (y1gb k) (y1gn ρ k) 0 y1ge st K) :=
  loop_ok (ev_sound (y1gc k) y1ge 0 (lpgood_none (by kernel_rfl))) y1gh y1gi k (g := fun p v next K => L_markLayerS_m3_g0 k p v next (fun x => K (.exit 0) (y1gm p x))) (dec_at y1gl) (fun p v K K1 => y1go k p v K K1)
def y1gq (a : List Layer × Int) : List SV := [.own 0, .r [] (.int .i64 a.2)]
def y1gr (a : List Layer × Int) : List Blk := [.arr none (.st .layer) a.1]
def y1gs (l : List SV) (b : List Blk) : Option (List Layer × Int) := match l, b with
  | [.own 0, .r [] (.int .i64 w0)], [.arr none (.st .layer) w1] => some (w1, w0)
  | _, _ => none
def y1gt (a : List Layer × Int) (r : Int × List Layer) : MOut := ⟨.r [] (.int .i64 r.1), [some (.arr none (.st .layer) r.2)], []⟩
def y1gu (a : List Layer × Int) (o : MOut) : Option (Int × List Layer) := match o with
  | ⟨.r [] (.int .i64 z1), [some (.arr none (.st .layer) z2)], []⟩ => some (z1, z2)
  | _ => none
def y1gv (k : Nat) : MG := fun _ l b K => (y1gs l b).bind fun a => (L_markLayerS_m3 k a.1 a.2).bind fun r => K (y1gt a r)
theorem y1gw (k : Nat) (a : List Layer × Int) : ev (y1gb k) (y1gn (Int × List Layer) k) 0 y1gd (st0M Tryz.f62 (y1gq a) (y1gr a)) (finM Tryz.prog Tryz.f62 (.sc) [.arr] (y1gu a)) = L_markLayerS_m3 k a.1 a.2 := by kernel_rfl
theorem y1gx (k : Nat) : MutOk Tryz.prog 62 (y1gv k) :=
  mutOk_of_ev (y1gc k) Tryz.func62 (by kernel_rfl) (by kernel_rfl) y1gq y1gr y1gs
    (fun l b a h => by unfold y1gs at h; split at h <;> first | (cases h; exact ⟨rfl, rfl⟩) | cases h) (fun a => rfl) (lpgood_of (l := [(0, y1ge)]) (by kernel_rfl) ⟨y1gp k, trivial⟩) (fun a r => rfl)
    (fun a o r h => by unfold y1gu at h; split at h <;> first | (skip; cases h; rfl) | cases h) (y1gw k)
def y1gy (k : Nat) : Orc := mutOrc [.keep, .keep] (y1gv k)
theorem y1gz (k : Nat) : OrcOk Tryz.prog 62 (y1gy k) := mutOrc_ok (y1gx k)
noncomputable def y1h0 (k : Nat) : Env := { P := Tryz.prog, tt := tt, orc := fun g => cond (Nat.beq g 62) (y1gy k) (noOrc), wr := fun g => mem g [62], wt := true }
theorem y1h1 (k : Nat) : EnvOk (y1h0 k) := fun g => (orc_cond (y1gz k) (noOrc_ok _ _))
noncomputable def y1h2 : Code := (Tryz.f34.body).getD .skip
def y1h3 (ρ : Type) (k : Nat) : Nat → Ev ρ → Ev ρ := fun _ _ _ _ => none
def y1h4 (a : Model × Int) : List SV := [.agg [.r [] (.int .i64 a.1.inp.h), .r [] (.int .i64 a.1.inp.w), .r [] (.int .i64 a.1.inp.c), .own 0], .r [] (.int .i64 a.2)]
def y1h5 (a : Model × Int) : List Blk := [.arr none (.st .layer) a.1.layers]
def y1h6 (l : List SV) (b : List Blk) : Option (Model × Int) := match l, b with
  | [.agg [.r [] (.int .i64 w0), .r [] (.int .i64 w1), .r [] (.int .i64 w2), .own 0], .r [] (.int .i64 w3)], [.arr none (.st .layer) w4] => some ((⟨(⟨w0, w1, w2⟩ : Shape), w4⟩ : Model), w3)
  | _, _ => none
def y1h7 (a : Model × Int) (r : Int × List Layer) : MOut := ⟨.r [] (.int .i64 r.1), [some (.arr none (.st .layer) r.2)], []⟩
def y1h8 (a : Model × Int) (o : MOut) : Option (Int × List Layer) := match o with
  | ⟨.r [] (.int .i64 z1), [some (.arr none (.st .layer) z2)], []⟩ => some (z1, z2)
  | _ => none
def y1h9 (k : Nat) : MG := fun _ l b K => (y1h6 l b).bind fun a => (L_markModel_m2 k a.1 a.2).bind fun r => K (y1h7 a r)
theorem y1ha (k : Nat) (a : Model × Int) : ev (y1h0 k) (y1h3 (Int × List Layer) k) 0 y1h2 (st0M Tryz.f34 (y1h4 a) (y1h5 a)) (finM Tryz.prog Tryz.f34 (.sc) [.arr] (y1h8 a)) = L_markModel_m2 k a.1 a.2 := by kernel_rfl
theorem y1hb (k : Nat) : MutOk Tryz.prog 34 (y1h9 k) :=
  mutOk_of_ev (y1h1 k) Tryz.func34 (by kernel_rfl) (by kernel_rfl) y1h4 y1h5 y1h6
    (fun l b a h => by unfold y1h6 at h; split at h <;> first | (cases h; exact ⟨rfl, rfl⟩) | cases h) (fun a => rfl) (lpgood_none (by kernel_rfl)) (fun a r => rfl)
    (fun a o r h => by unfold y1h8 at h; split at h <;> first | (skip; cases h; rfl) | cases h) (y1ha k)
def y1hc (k : Nat) : Orc := mutOrc [.keep, .keep] (y1h9 k)
theorem y1hd (k : Nat) : OrcOk Tryz.prog 34 (y1hc k) := mutOrc_ok (y1hb k)
noncomputable def y1he (k : Nat) : Env := { P := Tryz.prog, tt := tt, orc := fun g => cond (Nat.beq g 35) (y1g9 k) (noOrc), wr := fun g => mem g [35], wt := true }
theorem y1hf (k : Nat) : EnvOk (y1he k) := fun g => (orc_cond (y1ga k) (noOrc_ok _ _))
noncomputable def y1hg : Code := (Tryz.f13.body).getD .skip
def y1hh (ρ : Type) (k : Nat) : Nat → Ev ρ → Ev ρ := fun _ _ _ _ => none
def y1hi (a : Tensor × Int) : List SV := [.agg [.r [] (.int .i64 a.1.sh.h), .r [] (.int .i64 a.1.sh.w), .r [] (.int .i64 a.1.sh.c), .own 0], .r [] (.int .i64 a.2)]
def y1hj (a : Tensor × Int) : List Blk := [.arr none (.int .i64) a.1.data]
def y1hk (l : List SV) (b : List Blk) : Option (Tensor × Int) := match l, b with
  | [.agg [.r [] (.int .i64 w0), .r [] (.int .i64 w1), .r [] (.int .i64 w2), .own 0], .r [] (.int .i64 w3)], [.arr none (.int .i64) w4] => some ((⟨(⟨w0, w1, w2⟩ : Shape), w4⟩ : Tensor), w3)
  | _, _ => none
def y1hl (a : Tensor × Int) (r : Int × List Int) : MOut := ⟨.r [] (.int .i64 r.1), [some (.arr none (.int .i64) r.2)], []⟩
def y1hm (a : Tensor × Int) (o : MOut) : Option (Int × List Int) := match o with
  | ⟨.r [] (.int .i64 z1), [some (.arr none (.int .i64) z2)], []⟩ => some (z1, z2)
  | _ => none
def y1hn (k : Nat) : MG := fun _ l b K => (y1hk l b).bind fun a => (L_markTensor_m2 k a.1 a.2).bind fun r => K (y1hl a r)
theorem y1ho (k : Nat) (a : Tensor × Int) : ev (y1he k) (y1hh (Int × List Int) k) 0 y1hg (st0M Tryz.f13 (y1hi a) (y1hj a)) (finM Tryz.prog Tryz.f13 (.sc) [.arr] (y1hm a)) = L_markTensor_m2 k a.1 a.2 := by kernel_rfl
theorem y1hp (k : Nat) : MutOk Tryz.prog 13 (y1hn k) :=
  mutOk_of_ev (y1hf k) Tryz.func13 (by kernel_rfl) (by kernel_rfl) y1hi y1hj y1hk
    (fun l b a h => by unfold y1hk at h; split at h <;> first | (cases h; exact ⟨rfl, rfl⟩) | cases h) (fun a => rfl) (lpgood_none (by kernel_rfl)) (fun a r => rfl)
    (fun a o r h => by unfold y1hm at h; split at h <;> first | (skip; cases h; rfl) | cases h) (y1ho k)
def y1hq (k : Nat) : Orc := mutOrc [.keep, .keep] (y1hn k)
theorem y1hr (k : Nat) : OrcOk Tryz.prog 13 (y1hq k) := mutOrc_ok (y1hp k)
noncomputable def y1hs (k : Nat) : Env := { P := Tryz.prog, tt := tt, orc := fun g => cond (Nat.beq g 13) (y1hq k) (cond (Nat.beq g 34) (y1hc k) (noOrc)), wr := fun g => mem g [13, 34], wt := true }
theorem y1ht (k : Nat) : EnvOk (y1hs k) := fun g => (orc_cond (y1hr k) (orc_cond (y1hd k) (noOrc_ok _ _)))
noncomputable def y1hu : Code := (Tryz.f12.body).getD .skip
def y1hv (ρ : Type) (k : Nat) : Nat → Ev ρ → Ev ρ := fun _ _ _ _ => none
def y1hw (a : Job × Int) : List SV := [.agg [.r [] (.int .i64 a.1.model.inp.h), .r [] (.int .i64 a.1.model.inp.w), .r [] (.int .i64 a.1.model.inp.c), .own 0, .r [] (.int .i64 a.1.at_), .r [] (.int .i64 a.1.act.sh.h), .r [] (.int .i64 a.1.act.sh.w), .r [] (.int .i64 a.1.act.sh.c), .own 1, .r [] (.int .i64 a.1.spent)], .r [] (.int .i64 a.2)]
def y1hx (a : Job × Int) : List Blk := [.arr none (.st .layer) a.1.model.layers, .arr none (.int .i64) a.1.act.data]
def y1hy (l : List SV) (b : List Blk) : Option (Job × Int) := match l, b with
  | [.agg [.r [] (.int .i64 w0), .r [] (.int .i64 w1), .r [] (.int .i64 w2), .own 0, .r [] (.int .i64 w3), .r [] (.int .i64 w4), .r [] (.int .i64 w5), .r [] (.int .i64 w6), .own 1, .r [] (.int .i64 w7)], .r [] (.int .i64 w8)], [.arr none (.st .layer) w9, .arr none (.int .i64) w10] => some ((⟨(⟨(⟨w0, w1, w2⟩ : Shape), w9⟩ : Model), w3, (⟨(⟨w4, w5, w6⟩ : Shape), w10⟩ : Tensor), w7⟩ : Job), w8)
  | _, _ => none
def y1hz (a : Job × Int) (r : Int × List Layer × List Int) : MOut := ⟨.r [] (.int .i64 r.1), [some (.arr none (.st .layer) r.2.1), some (.arr none (.int .i64) r.2.2)], []⟩
def y1i0 (a : Job × Int) (o : MOut) : Option (Int × List Layer × List Int) := match o with
  | ⟨.r [] (.int .i64 z1), [some (.arr none (.st .layer) z2), some (.arr none (.int .i64) z3)], []⟩ => some (z1, z2, z3)
  | _ => none
def y1i1 (k : Nat) : MG := fun _ l b K => (y1hy l b).bind fun a => (L_markJob_m2 k a.1 a.2).bind fun r => K (y1hz a r)
theorem y1i2 (k : Nat) (a : Job × Int) : ev (y1hs k) (y1hv (Int × List Layer × List Int) k) 0 y1hu (st0M Tryz.f12 (y1hw a) (y1hx a)) (finM Tryz.prog Tryz.f12 (.sc) [.arr, .arr] (y1i0 a)) = L_markJob_m2 k a.1 a.2 := by kernel_rfl
theorem y1i3 (k : Nat) : MutOk Tryz.prog 12 (y1i1 k) :=
  mutOk_of_ev (y1ht k) Tryz.func12 (by kernel_rfl) (by kernel_rfl) y1hw y1hx y1hy
    (fun l b a h => by unfold y1hy at h; split at h <;> first | (cases h; exact ⟨rfl, rfl⟩) | cases h) (fun a => rfl) (lpgood_none (by kernel_rfl)) (fun a r => rfl)
    (fun a o r h => by unfold y1i0 at h; split at h <;> first | (skip; cases h; rfl) | cases h) (y1i2 k)
def y1i4 (k : Nat) : Orc := mutOrc [.keep, .keep] (y1i1 k)
theorem y1i5 (k : Nat) : OrcOk Tryz.prog 12 (y1i4 k) := mutOrc_ok (y1i3 k)
noncomputable def y1i6 (k : Nat) : Env := { P := Tryz.prog, tt := tt, orc := fun g => noOrc }
theorem y1i7 (k : Nat) : EnvOk (y1i6 k) := fun g => (noOrc_ok _ _)
noncomputable def y1i8 : Code := (Tryz.f36.body).getD .skip
noncomputable def y1i9 : Code := ((loopsIn 0 y1i8).getD 0 (0, .skip)).2
def y1ia : List Nat := [0, 1, 5]
def y1ib : List (Where × Co) := []
def y1ic : Ex → List Nat
  | .exit j => cond (Nat.beq j 0) [1] []
  | .ret => [4]
  | .normal => []
def y1id : Ex → List (Where × Co)
  | .exit j => cond (Nat.beq j 0) [] []
  | .ret => []
  | .normal => []
def y1ie (pv : (List Int) × (Int × Int)) : St := { slots := [(0, .r [] (.sl (.int .i64) pv.1)), (1, .r [] (.int .i64 pv.2.1)), (5, .r [] (.int .i64 pv.2.2))], heap := [], nid := 0, n := 21, gh := [] }
def y1if (nf : NF) : Option ((List Int) × (Int × Int)) := match nf with
  | ([.r [] (.sl (.int .i64) w0), .r [] (.int .i64 w1), .r [] (.int .i64 w2)], [], []) => some (w0, (w1, w2))
  | _ => none
theorem y1ig (nf : NF) (v : (List Int) × (Int × Int)) (h : y1if nf = some v) : denorm y1ia 21 nf = y1ie v := by
  unfold y1if at h
  split at h
  · cases h; rfl
  · cases h
def y1ih (p : List Int) (x : Int) : St := { slots := [(1, .r [] (.int .i64 x))], heap := [], nid := 0, n := 21, gh := [] }
def y1ii (p : List Int) (x : Int) : St := { slots := [(4, .r [] (.int .i64 x))], heap := [], nid := 0, n := 21, gh := [] }
def y1ij (ρ : Type) (k : Nat) : Nat → Ev ρ → Ev ρ := fun id f => cond (Nat.beq id 0) (loopOrc y1ia y1ib (fun n nf => cond (Nat.beq n 21) (y1if nf) none) fun pv K => iter (fun v next => L_heldIntS_g0 k pv.1 v next (fun x => K (.exit 0) (y1ih pv.1 x)) (fun x => K .ret (y1ii pv.1 x))) k pv.2) ((fun _ _ _ _ => none) id f)
theorem y1ik {ρ : Type} (k : Nat) (p : List Int) (v : Int × Int) (K K1 : Ex → St → Option ρ) : ev (y1i6 k) (y1ij ρ k) 0 y1i9 (y1ie (p, v)) (fun e st' => match e with
    | .normal => (normC y1ia y1ib st').bind fun nf => K1 .normal (denorm y1ia st'.n nf)
    | e => (normC (y1ic e) (y1id e) st').bind fun nf => K e (denorm (y1ic e) st'.n nf)) = L_heldIntS_g0 k p v (fun v' => K1 .normal (y1ie (p, v'))) (fun x => K (.exit 0) (y1ih p x)) (fun x => K .ret (y1ii p x)) := by kernel_rfl
theorem y1il {ρ : Type} (k : Nat) : Sound Tryz.prog (.loop y1i9) (y1ij ρ k 0 fun st K => ev (y1i6 k) (y1ij ρ k) 0 y1i9 st K) :=
  loop_ok (ev_sound (y1i7 k) y1i9 0 (lpgood_none (by kernel_rfl))) y1ic y1id k (g := fun p v next K => L_heldIntS_g0 k p v next (fun x => K (.exit 0) (y1ih p x)) (fun x => K .ret (y1ii p x))) (dec_at y1ig) (fun p v K K1 => y1ik k p v K K1)
def y1im (a : List Int × Int) : List Arg := [.one (.sl (.int .i64) a.1), .one (.int .i64 a.2)]
def y1in (l : List Arg) : Option (List Int × Int) := match l with
  | [.one (.sl (.int .i64) b0), .one (.int .i64 b1)] => some (b0, b1)
  | _ => none
def y1io (r : Int) : Out := (.r [] (.int .i64 r), [])
def y1ip (o : Out) : Option (Int) := match o with
  | (.r [] (.int .i64 z1), []) => some z1
  | _ => none
def y1iq (k : Nat) : PG := fun _ l K => (y1in l).bind fun a => (L_heldIntS k a.1 a.2).bind fun r => K (y1io r)
theorem y1ir (k : Nat) (a : List Int × Int) : ev (y1i6 k) (y1ij (Int) k) 0 y1i8 (st0 Tryz.f36 (y1im a)) (fin Tryz.prog Tryz.f36 (.sc) y1ip) = L_heldIntS k a.1 a.2 := by kernel_rfl
theorem y1is (k : Nat) : PureOk Tryz.prog 36 (y1iq k) :=
  pureOk_of_ev (y1i7 k) Tryz.func36 (by kernel_rfl) (by kernel_rfl) y1im y1in
    (fun l a h => by unfold y1in at h; split at h <;> first | (cases h; rfl) | cases h) (fun a => rfl) (lpgood_of (l := [(0, y1i9)]) (by kernel_rfl) ⟨y1il k, trivial⟩)
    (fun o r h => by unfold y1ip at h; split at h <;> first | (cases h; rfl) | cases h) (y1ir k)
def y1it (k : Nat) : Orc := pureOrc [.one (.sl (.int .i64)), .one (.int .i64)] (y1iq k)
theorem y1iu (k : Nat) : OrcOk Tryz.prog 36 (y1it k) := pureOrc_ok (y1is k)
noncomputable def y1iv (k : Nat) : Env := { P := Tryz.prog, tt := tt, orc := fun g => cond (Nat.beq g 36) (y1it k) (noOrc) }
theorem y1iw (k : Nat) : EnvOk (y1iv k) := fun g => (orc_cond (y1iu k) (noOrc_ok _ _))
noncomputable def y1ix : Code := (Tryz.f66.body).getD .skip
noncomputable def y1iy : Code := ((loopsIn 0 y1ix).getD 0 (0, .skip)).2
def y1iz : List Nat := [0, 1, 5]
def y1j0 : List (Where × Co) := []
def y1j1 : Ex → List Nat
  | .exit j => cond (Nat.beq j 0) [1] []
  | .ret => [4]
  | .normal => []
def y1j2 : Ex → List (Where × Co)
  | .exit j => cond (Nat.beq j 0) [] []
  | .ret => []
  | .normal => []
def y1j3 (pv : (List Layer) × (Int × Int)) : St := { slots := [(0, .r [] (.sl (.st .layer) pv.1)), (1, .r [] (.int .i64 pv.2.1)), (5, .r [] (.int .i64 pv.2.2))], heap := [], nid := 0, n := 94, gh := [] }
def y1j4 (nf : NF) : Option ((List Layer) × (Int × Int)) := match nf with
  | ([.r [] (.sl (.st .layer) w0), .r [] (.int .i64 w1), .r [] (.int .i64 w2)], [], []) => some (w0, (w1, w2))
  | _ => none
theorem y1j5 (nf : NF) (v : (List Layer) × (Int × Int)) (h : y1j4 nf = some v) : denorm y1iz 94 nf = y1j3 v := by
  unfold y1j4 at h
  split at h
  · cases h; rfl
  · cases h
def y1j6 (p : List Layer) (x : Int) : St := { slots := [(1, .r [] (.int .i64 x))], heap := [], nid := 0, n := 94, gh := [] }
def y1j7 (p : List Layer) (x : Int) : St := { slots := [(4, .r [] (.int .i64 x))], heap := [], nid := 0, n := 94, gh := [] }
def y1j8 (ρ : Type) (k : Nat) : Nat → Ev ρ → Ev ρ := fun id f => cond (Nat.beq id 0) (loopOrc y1iz y1j0 (fun n nf => cond (Nat.beq n 94) (y1j4 nf) none) fun pv K => iter (fun v next => L_heldLayerS_g0 k pv.1 v next (fun x => K (.exit 0) (y1j6 pv.1 x)) (fun x => K .ret (y1j7 pv.1 x))) k pv.2) ((fun _ _ _ _ => none) id f)
theorem y1j9 {ρ : Type} (k : Nat) (p : List Layer) (v : Int × Int) (K K1 : Ex → St → Option ρ) : ev (y1iv k) (y1j8 ρ k) 0 y1iy (y1j3 (p, v)) (fun e st' => match e with
    | .normal => (normC y1iz y1j0 st').bind fun nf => K1 .normal (denorm y1iz st'.n nf)
    | e => (normC (y1j1 e) (y1j2 e) st').bind fun nf => K e (denorm (y1j1 e) st'.n nf)) = L_heldLayerS_g0 k p v (fun v' => K1 .normal (y1j3 (p, v'))) (fun x => K (.exit 0) (y1j6 p x)) (fun x => K .ret (y1j7 p x)) := by kernel_rfl
theorem y1ja {ρ : Type} (k : Nat) : Sound Tryz.prog (.loop y1iy) (y1j8 ρ k 0 fun st K => ev (y1iv k) (y1j8 ρ k) 0 y1iy st K) :=
  loop_ok (ev_sound (y1iw k) y1iy 0 (lpgood_none (by kernel_rfl))) y1j1 y1j2 k (g := fun p v next K => L_heldLayerS_g0 k p v next (fun x => K (.exit 0) (y1j6 p x)) (fun x => K .ret (y1j7 p x))) (dec_at y1j5) (fun p v K K1 => y1j9 k p v K K1)
def y1jb (a : List Layer × Int) : List Arg := [.one (.sl (.st .layer) a.1), .one (.int .i64 a.2)]
def y1jc (l : List Arg) : Option (List Layer × Int) := match l with
  | [.one (.sl (.st .layer) b0), .one (.int .i64 b1)] => some (b0, b1)
  | _ => none
def y1jd (r : Int) : Out := (.r [] (.int .i64 r), [])
def y1je (o : Out) : Option (Int) := match o with
  | (.r [] (.int .i64 z1), []) => some z1
  | _ => none
def y1jf (k : Nat) : PG := fun _ l K => (y1jc l).bind fun a => (L_heldLayerS k a.1 a.2).bind fun r => K (y1jd r)
theorem y1jg (k : Nat) (a : List Layer × Int) : ev (y1iv k) (y1j8 (Int) k) 0 y1ix (st0 Tryz.f66 (y1jb a)) (fin Tryz.prog Tryz.f66 (.sc) y1je) = L_heldLayerS k a.1 a.2 := by kernel_rfl
theorem y1jh (k : Nat) : PureOk Tryz.prog 66 (y1jf k) :=
  pureOk_of_ev (y1iw k) Tryz.func66 (by kernel_rfl) (by kernel_rfl) y1jb y1jc
    (fun l a h => by unfold y1jc at h; split at h <;> first | (cases h; rfl) | cases h) (fun a => rfl) (lpgood_of (l := [(0, y1iy)]) (by kernel_rfl) ⟨y1ja k, trivial⟩)
    (fun o r h => by unfold y1je at h; split at h <;> first | (cases h; rfl) | cases h) (y1jg k)
def y1ji (k : Nat) : Orc := pureOrc [.one (.sl (.st .layer)), .one (.int .i64)] (y1jf k)
theorem y1jj (k : Nat) : OrcOk Tryz.prog 66 (y1ji k) := pureOrc_ok (y1jh k)
noncomputable def y1jk (k : Nat) : Env := { P := Tryz.prog, tt := tt, orc := fun g => cond (Nat.beq g 66) (y1ji k) (noOrc) }
theorem y1jl (k : Nat) : EnvOk (y1jk k) := fun g => (orc_cond (y1jj k) (noOrc_ok _ _))
noncomputable def y1jm : Code := (Tryz.f39.body).getD .skip
def y1jn (ρ : Type) (k : Nat) : Nat → Ev ρ → Ev ρ := fun _ _ _ _ => none
def y1jo (a : Model × Int) : List Arg := [.agg [.int .i64 a.1.inp.h, .int .i64 a.1.inp.w, .int .i64 a.1.inp.c, .sl (.st .layer) a.1.layers], .one (.int .i64 a.2)]
def y1jp (l : List Arg) : Option (Model × Int) := match l with
  | [.agg [.int .i64 b0_0, .int .i64 b0_1, .int .i64 b0_2, .sl (.st .layer) b0_3], .one (.int .i64 b1)] => some ((⟨(⟨b0_0, b0_1, b0_2⟩ : Shape), b0_3⟩ : Model), b1)
  | _ => none
def y1jq (r : Int) : Out := (.r [] (.int .i64 r), [])
def y1jr (o : Out) : Option (Int) := match o with
  | (.r [] (.int .i64 z1), []) => some z1
  | _ => none
def y1js (k : Nat) : PG := fun _ l K => (y1jp l).bind fun a => (L_heldModel k a.1 a.2).bind fun r => K (y1jq r)
theorem y1jt (k : Nat) (a : Model × Int) : ev (y1jk k) (y1jn (Int) k) 0 y1jm (st0 Tryz.f39 (y1jo a)) (fin Tryz.prog Tryz.f39 (.sc) y1jr) = L_heldModel k a.1 a.2 := by kernel_rfl
theorem y1ju (k : Nat) : PureOk Tryz.prog 39 (y1js k) :=
  pureOk_of_ev (y1jl k) Tryz.func39 (by kernel_rfl) (by kernel_rfl) y1jo y1jp
    (fun l a h => by unfold y1jp at h; split at h <;> first | (cases h; rfl) | cases h) (fun a => rfl) (lpgood_none (by kernel_rfl))
    (fun o r h => by unfold y1jr at h; split at h <;> first | (cases h; rfl) | cases h) (y1jt k)
def y1jv (k : Nat) : Orc := pureOrc [.agg [(.int .i64), (.int .i64), (.int .i64), (.sl (.st .layer))], .one (.int .i64)] (y1js k)
theorem y1jw (k : Nat) : OrcOk Tryz.prog 39 (y1jv k) := pureOrc_ok (y1ju k)
noncomputable def y1jx (k : Nat) : Env := { P := Tryz.prog, tt := tt, orc := fun g => cond (Nat.beq g 36) (y1it k) (noOrc) }
theorem y1jy (k : Nat) : EnvOk (y1jx k) := fun g => (orc_cond (y1iu k) (noOrc_ok _ _))
noncomputable def y1jz : Code := (Tryz.f14.body).getD .skip
def y1k0 (ρ : Type) (k : Nat) : Nat → Ev ρ → Ev ρ := fun _ _ _ _ => none
def y1k1 (a : Tensor × Int) : List Arg := [.agg [.int .i64 a.1.sh.h, .int .i64 a.1.sh.w, .int .i64 a.1.sh.c, .sl (.int .i64) a.1.data], .one (.int .i64 a.2)]
def y1k2 (l : List Arg) : Option (Tensor × Int) := match l with
  | [.agg [.int .i64 b0_0, .int .i64 b0_1, .int .i64 b0_2, .sl (.int .i64) b0_3], .one (.int .i64 b1)] => some ((⟨(⟨b0_0, b0_1, b0_2⟩ : Shape), b0_3⟩ : Tensor), b1)
  | _ => none
def y1k3 (r : Int) : Out := (.r [] (.int .i64 r), [])
def y1k4 (o : Out) : Option (Int) := match o with
  | (.r [] (.int .i64 z1), []) => some z1
  | _ => none
def y1k5 (k : Nat) : PG := fun _ l K => (y1k2 l).bind fun a => (L_heldTensor k a.1 a.2).bind fun r => K (y1k3 r)
theorem y1k6 (k : Nat) (a : Tensor × Int) : ev (y1jx k) (y1k0 (Int) k) 0 y1jz (st0 Tryz.f14 (y1k1 a)) (fin Tryz.prog Tryz.f14 (.sc) y1k4) = L_heldTensor k a.1 a.2 := by kernel_rfl
theorem y1k7 (k : Nat) : PureOk Tryz.prog 14 (y1k5 k) :=
  pureOk_of_ev (y1jy k) Tryz.func14 (by kernel_rfl) (by kernel_rfl) y1k1 y1k2
    (fun l a h => by unfold y1k2 at h; split at h <;> first | (cases h; rfl) | cases h) (fun a => rfl) (lpgood_none (by kernel_rfl))
    (fun o r h => by unfold y1k4 at h; split at h <;> first | (cases h; rfl) | cases h) (y1k6 k)
def y1k8 (k : Nat) : Orc := pureOrc [.agg [(.int .i64), (.int .i64), (.int .i64), (.sl (.int .i64))], .one (.int .i64)] (y1k5 k)
theorem y1k9 (k : Nat) : OrcOk Tryz.prog 14 (y1k8 k) := pureOrc_ok (y1k7 k)
noncomputable def y1ka (k : Nat) : Env := { P := Tryz.prog, tt := tt, orc := fun g => cond (Nat.beq g 14) (y1k8 k) (cond (Nat.beq g 39) (y1jv k) (noOrc)) }
theorem y1kb (k : Nat) : EnvOk (y1ka k) := fun g => (orc_cond (y1k9 k) (orc_cond (y1jw k) (noOrc_ok _ _)))
noncomputable def y1kc : Code := (Tryz.f17.body).getD .skip
def y1kd (ρ : Type) (k : Nat) : Nat → Ev ρ → Ev ρ := fun _ _ _ _ => none
def y1ke (a : Job × Int) : List Arg := [.agg [.int .i64 a.1.model.inp.h, .int .i64 a.1.model.inp.w, .int .i64 a.1.model.inp.c, .sl (.st .layer) a.1.model.layers, .int .i64 a.1.at_, .int .i64 a.1.act.sh.h, .int .i64 a.1.act.sh.w, .int .i64 a.1.act.sh.c, .sl (.int .i64) a.1.act.data, .int .i64 a.1.spent], .one (.int .i64 a.2)]
def y1kf (l : List Arg) : Option (Job × Int) := match l with
  | [.agg [.int .i64 b0_0, .int .i64 b0_1, .int .i64 b0_2, .sl (.st .layer) b0_3, .int .i64 b0_4, .int .i64 b0_5, .int .i64 b0_6, .int .i64 b0_7, .sl (.int .i64) b0_8, .int .i64 b0_9], .one (.int .i64 b1)] => some ((⟨(⟨(⟨b0_0, b0_1, b0_2⟩ : Shape), b0_3⟩ : Model), b0_4, (⟨(⟨b0_5, b0_6, b0_7⟩ : Shape), b0_8⟩ : Tensor), b0_9⟩ : Job), b1)
  | _ => none
def y1kg (r : Int) : Out := (.r [] (.int .i64 r), [])
def y1kh (o : Out) : Option (Int) := match o with
  | (.r [] (.int .i64 z1), []) => some z1
  | _ => none
def y1ki (k : Nat) : PG := fun _ l K => (y1kf l).bind fun a => (L_heldJob k a.1 a.2).bind fun r => K (y1kg r)
theorem y1kj (k : Nat) (a : Job × Int) : ev (y1ka k) (y1kd (Int) k) 0 y1kc (st0 Tryz.f17 (y1ke a)) (fin Tryz.prog Tryz.f17 (.sc) y1kh) = L_heldJob k a.1 a.2 := by kernel_rfl
theorem y1kk (k : Nat) : PureOk Tryz.prog 17 (y1ki k) :=
  pureOk_of_ev (y1kb k) Tryz.func17 (by kernel_rfl) (by kernel_rfl) y1ke y1kf
    (fun l a h => by unfold y1kf at h; split at h <;> first | (cases h; rfl) | cases h) (fun a => rfl) (lpgood_none (by kernel_rfl))
    (fun o r h => by unfold y1kh at h; split at h <;> first | (cases h; rfl) | cases h) (y1kj k)
def y1kl (k : Nat) : Orc := pureOrc [.agg [(.int .i64), (.int .i64), (.int .i64), (.sl (.st .layer)), (.int .i64), (.int .i64), (.int .i64), (.int .i64), (.sl (.int .i64)), (.int .i64)], .one (.int .i64)] (y1ki k)
theorem y1km (k : Nat) : OrcOk Tryz.prog 17 (y1kl k) := pureOrc_ok (y1kk k)
noncomputable def y1kn (k : Nat) : Env := { P := Tryz.prog, tt := tt, orc := fun g => cond (Nat.beq g 6) (y31 k) (cond (Nat.beq g 8) (y66 k) (cond (Nat.beq g 11) (y1fk k) (cond (Nat.beq g 12) (y1i4 k) (cond (Nat.beq g 17) (y1kl k) (cond (Nat.beq g 18) (ypd k) (cond (Nat.beq g 19) (y1cd k) (noOrc))))))), wr := fun g => mem g [12], wt := true }
theorem y1ko (k : Nat) : EnvOk (y1kn k) := fun g => (orc_cond (y32 k) (orc_cond (y67 k) (orc_cond (y1fl k) (orc_cond (y1i5 k) (orc_cond (y1km k) (orc_cond (ype k) (orc_cond (y1ce k) (noOrc_ok _ _))))))))
noncomputable def y1kp : Code := (Tryz.f5.body).getD .skip
def y1kq (ρ : Type) (k : Nat) : Nat → Ev ρ → Ev ρ := fun _ _ _ _ => none
def y1kr (a : Job × Int) : List Arg := [.agg [.int .i64 a.1.model.inp.h, .int .i64 a.1.model.inp.w, .int .i64 a.1.model.inp.c, .sl (.st .layer) a.1.model.layers, .int .i64 a.1.at_, .int .i64 a.1.act.sh.h, .int .i64 a.1.act.sh.w, .int .i64 a.1.act.sh.c, .sl (.int .i64) a.1.act.data, .int .i64 a.1.spent], .one (.int .i64 a.2)]
def y1ks (l : List Arg) : Option (Job × Int) := match l with
  | [.agg [.int .i64 b0_0, .int .i64 b0_1, .int .i64 b0_2, .sl (.st .layer) b0_3, .int .i64 b0_4, .int .i64 b0_5, .int .i64 b0_6, .int .i64 b0_7, .sl (.int .i64) b0_8, .int .i64 b0_9], .one (.int .i64 b1)] => some ((⟨(⟨(⟨b0_0, b0_1, b0_2⟩ : Shape), b0_3⟩ : Model), b0_4, (⟨(⟨b0_5, b0_6, b0_7⟩ : Shape), b0_8⟩ : Tensor), b0_9⟩ : Job), b1)
  | _ => none
def y1kt (r : Bool) : Out := (.r [] (.bool r), [])
def y1ku (o : Out) : Option (Bool) := match o with
  | (.r [] (.bool z1), []) => some z1
  | _ => none
def y1kv (k : Nat) : PG := fun _ l K => (y1ks l).bind fun a => (L_FnExactRunFor k a.1 a.2).bind fun r => K (y1kt r)
theorem y1kw (k : Nat) (a : Job × Int) : ev (y1kn k) (y1kq (Bool) k) 0 y1kp (st0 Tryz.f5 (y1kr a)) (fin Tryz.prog Tryz.f5 (.sc) y1ku) = L_FnExactRunFor k a.1 a.2 := by kernel_rfl
theorem y1kx (k : Nat) : PureOk Tryz.prog 5 (y1kv k) :=
  pureOk_of_ev (y1ko k) Tryz.func5 (by kernel_rfl) (by kernel_rfl) y1kr y1ks
    (fun l a h => by unfold y1ks at h; split at h <;> first | (cases h; rfl) | cases h) (fun a => rfl) (lpgood_none (by kernel_rfl))
    (fun o r h => by unfold y1ku at h; split at h <;> first | (cases h; rfl) | cases h) (y1kw k)
end
end Go.Proofs.Ev
