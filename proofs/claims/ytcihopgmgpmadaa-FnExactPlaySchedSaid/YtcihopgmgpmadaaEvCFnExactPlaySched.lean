/- Text of this claim. -/
import Derived.Test.YtcihopgmgpmadaaEvK5
import Derived.Test.YtcihopgmgpmadaaProg
import Derived.Test.YtcihopgmgpmadaaEvD1
import Derived.Test.YtcihopgmgpmadaaEvD3
import Derived.Test.YtcihopgmgpmadaaEvD6
import Derived.Test.YtcihopgmgpmadaaEvD7
import Derived.Test.YtcihopgmgpmadaaEvD8
import Derived.Test.YtcihopgmgpmadaaEvXCFnExactPlaySched
set_option linter.unusedVariables false
set_option linter.unusedSimpArgs false
set_option linter.unusedVariables false
set_option linter.unusedSimpArgs false
set_option maxRecDepth 100000
namespace Go.Proofs.Ev
noncomputable section
variable [Tok]
set_option linter.unusedSectionVars false
def slices_IndexFunc_lI_Task_I_Task_m5_g0_dec (nf : NF) : Option ((List TaskK × Int × Int) × (Int)) := match nf with
  | ([.r [] (.sl (.st .taskK) w0), .fn (.func 170) [] [.ptr 0 0 0], .r [] (.int .i64 w1), .r [] (.int .i64 w2)], [.box [.r [] (.int .i64 w3)]], [some 0]) => some ((w0, w1, w3), w2)
  | _ => none
theorem slices_IndexFunc_lI_Task_I_Task_m5_g0_hd (nf : NF) (v : (List TaskK × Int × Int) × (Int)) (h : slices_IndexFunc_lI_Task_I_Task_m5_g0_dec nf = some v) : denorm slices_IndexFunc_lI_Task_I_Task_m5_g0_keep 19 nf = slices_IndexFunc_lI_Task_I_Task_m5_g0_tm v := by
  unfold slices_IndexFunc_lI_Task_I_Task_m5_g0_dec at h
  split at h
  · cases h; rfl
  · cases h
def slices_IndexFunc_lI_Task_I_Task_m5_g0_x0 (p : List TaskK × Int × Int) (x : Unit) : St := { slots := [], heap := [(0, .box [.r [] (.int .i64 p.2.2)])], nid := 1, n := 19, gh := [some 0] }
def slices_IndexFunc_lI_Task_I_Task_m5_g0_xret (p : List TaskK × Int × Int) (x : Int) : St := { slots := [(4, .r [] (.int .i64 x))], heap := [(0, .box [.r [] (.int .i64 p.2.2)])], nid := 1, n := 19, gh := [some 0] }
def LP_slices_IndexFunc_lI_Task_I_Task_m5 (ρ : Type) (k : Nat) : Nat → Ev ρ → Ev ρ := fun id f => cond (Nat.beq id 0) (loopOrc slices_IndexFunc_lI_Task_I_Task_m5_g0_keep slices_IndexFunc_lI_Task_I_Task_m5_g0_co (fun n nf => cond (Nat.beq n 19) (slices_IndexFunc_lI_Task_I_Task_m5_g0_dec nf) none) fun pv K => iter (fun v next => slices_IndexFunc_lI_Task_I_Task_m5_g0 k pv.1 v next (fun x => K (.exit 0) (slices_IndexFunc_lI_Task_I_Task_m5_g0_x0 pv.1 x)) (fun x => K .ret (slices_IndexFunc_lI_Task_I_Task_m5_g0_xret pv.1 x))) k pv.2) ((fun _ _ _ _ => none) id f)
theorem slices_IndexFunc_lI_Task_I_Task_m5_g0_round {ρ : Type} (k : Nat) (p : List TaskK × Int × Int) (v : Int) (K K1 : Ex → St → Option ρ) : ev (E_slices_IndexFunc_lI_Task_I_Task_m5 k) (LP_slices_IndexFunc_lI_Task_I_Task_m5 ρ k) 0 b_slices_IndexFunc_lI_Task_I_Task_m5_0 (slices_IndexFunc_lI_Task_I_Task_m5_g0_tm (p, v)) (fun e st' => match e with
    | .normal => (normC slices_IndexFunc_lI_Task_I_Task_m5_g0_keep slices_IndexFunc_lI_Task_I_Task_m5_g0_co st').bind fun nf => K1 .normal (denorm slices_IndexFunc_lI_Task_I_Task_m5_g0_keep st'.n nf)
    | e => (normC (slices_IndexFunc_lI_Task_I_Task_m5_g0_kx e) (slices_IndexFunc_lI_Task_I_Task_m5_g0_cx e) st').bind fun nf => K e (denorm (slices_IndexFunc_lI_Task_I_Task_m5_g0_kx e) st'.n nf)) = slices_IndexFunc_lI_Task_I_Task_m5_g0 k p v (fun v' => K1 .normal (slices_IndexFunc_lI_Task_I_Task_m5_g0_tm (p, v'))) (fun x => K (.exit 0) (slices_IndexFunc_lI_Task_I_Task_m5_g0_x0 p x)) (fun x => K .ret (slices_IndexFunc_lI_Task_I_Task_m5_g0_xret p x)) := by kernel_rfl
theorem slices_IndexFunc_lI_Task_I_Task_m5_g0_ok {ρ : Type} (k : Nat) : Sound Try.prog (.loop b_slices_IndexFunc_lI_Task_I_Task_m5_0) (LP_slices_IndexFunc_lI_Task_I_Task_m5 ρ k 0 fun st K => ev (E_slices_IndexFunc_lI_Task_I_Task_m5 k) (LP_slices_IndexFunc_lI_Task_I_Task_m5 ρ k) 0 b_slices_IndexFunc_lI_Task_I_Task_m5_0 st K) :=
  loop_ok (ev_sound (E_slices_IndexFunc_lI_Task_I_Task_m5_ok k) b_slices_IndexFunc_lI_Task_I_Task_m5_0 0 (lpgood_none (by kernel_rfl))) slices_IndexFunc_lI_Task_I_Task_m5_g0_kx slices_IndexFunc_lI_Task_I_Task_m5_g0_cx k (g := fun p v next K => slices_IndexFunc_lI_Task_I_Task_m5_g0 k p v next (fun x => K (.exit 0) (slices_IndexFunc_lI_Task_I_Task_m5_g0_x0 p x)) (fun x => K .ret (slices_IndexFunc_lI_Task_I_Task_m5_g0_xret p x))) (dec_at slices_IndexFunc_lI_Task_I_Task_m5_g0_hd) (fun p v K K1 => slices_IndexFunc_lI_Task_I_Task_m5_g0_round k p v K K1)
def slices_IndexFunc_lI_Task_I_Task_m5_args (a : List TaskK × Int) : List SV := [.r [] (.sl (.st .taskK) a.1), .fn (.func 170) [] [.ptr 0 0 0]]
def slices_IndexFunc_lI_Task_I_Task_m5_blks (a : List TaskK × Int) : List Blk := [.box [.r [] (.int .i64 a.2)]]
def slices_IndexFunc_lI_Task_I_Task_m5_argD (l : List SV) (b : List Blk) : Option (List TaskK × Int) := match l, b with
  | [.r [] (.sl (.st .taskK) w0), .fn (.func 170) [] [.ptr 0 0 0]], [.box [.r [] (.int .i64 w1)]] => some (w0, w1)
  | _, _ => none
def slices_IndexFunc_lI_Task_I_Task_m5_enc (a : List TaskK × Int) (r : Int) : MOut := ⟨.r [] (.int .i64 r), [some (.box [.r [] (.int .i64 a.2)])], []⟩
def slices_IndexFunc_lI_Task_I_Task_m5_dec (a : List TaskK × Int) (o : MOut) : Option (Int) := match o with
  | ⟨.r [] (.int .i64 z1), [some (.box [.r [] (.int .i64 z2)])], []⟩ => cond (@sameL Int _ z2 a.2) (some z1) none
  | _ => none
def slices_IndexFunc_lI_Task_I_Task_m5_G (k : Nat) : MG := fun _ l b K => (slices_IndexFunc_lI_Task_I_Task_m5_argD l b).bind fun a => (slices_IndexFunc_lI_Task_I_Task_m5 k a.1 a.2).bind fun r => K (slices_IndexFunc_lI_Task_I_Task_m5_enc a r)
theorem slices_IndexFunc_lI_Task_I_Task_m5_ev (k : Nat) (a : List TaskK × Int) : ev (E_slices_IndexFunc_lI_Task_I_Task_m5 k) (LP_slices_IndexFunc_lI_Task_I_Task_m5 (Int) k) 0 c_slices_IndexFunc_lI_Task_I_Task_m5 (st0M Try.f167 (slices_IndexFunc_lI_Task_I_Task_m5_args a) (slices_IndexFunc_lI_Task_I_Task_m5_blks a)) (finM Try.prog Try.f167 (.sc) [.box [.sc]] (slices_IndexFunc_lI_Task_I_Task_m5_dec a)) = slices_IndexFunc_lI_Task_I_Task_m5 k a.1 a.2 := by kernel_rfl
theorem slices_IndexFunc_lI_Task_I_Task_m5_ok (k : Nat) : MutOk Try.prog 167 (slices_IndexFunc_lI_Task_I_Task_m5_G k) :=
  mutOk_of_ev (E_slices_IndexFunc_lI_Task_I_Task_m5_ok k) Try.func167 (by kernel_rfl) (by kernel_rfl) slices_IndexFunc_lI_Task_I_Task_m5_args slices_IndexFunc_lI_Task_I_Task_m5_blks slices_IndexFunc_lI_Task_I_Task_m5_argD
    (fun l b a h => by unfold slices_IndexFunc_lI_Task_I_Task_m5_argD at h; split at h <;> first | (cases h; exact ⟨rfl, rfl⟩) | cases h) (fun a => rfl) (lpgood_of (l := [(0, b_slices_IndexFunc_lI_Task_I_Task_m5_0)]) (by kernel_rfl) ⟨slices_IndexFunc_lI_Task_I_Task_m5_g0_ok k, trivial⟩) (fun a r => rfl)
    (fun a o r h => by unfold slices_IndexFunc_lI_Task_I_Task_m5_dec at h; split at h <;> first | (obtain ⟨e0, hq⟩ := dec_chk1 h; clear h; subst e0; have h := hq; clear hq; cases h; rfl) | cases h) (slices_IndexFunc_lI_Task_I_Task_m5_ev k)
def o_slices_IndexFunc_lI_Task_I_Task_m5 (k : Nat) : Orc := mutOrc [.one (.sl (.st .taskK)), .keep] (slices_IndexFunc_lI_Task_I_Task_m5_G k)
theorem o_slices_IndexFunc_lI_Task_I_Task_m5_ok (k : Nat) : OrcOk Try.prog 167 (o_slices_IndexFunc_lI_Task_I_Task_m5 k) := mutOrc_ok (slices_IndexFunc_lI_Task_I_Task_m5_ok k)
/-! ### 169 slices.DeleteFunc[[]loop.example/g00778/impl.Task,loop.example/g00778/impl.Task] -/
noncomputable def E_slices_DeleteFunc_lI_Task_I_Task_m4 (k : Nat) : Env := { P := Try.prog, tt := ttTask, orc := fun g => cond (Nat.beq g 167) (o_slices_IndexFunc_lI_Task_I_Task_m5 k) (cond (Nat.beq g 170) (o_pI_Sched_drop_c1_m3 k) (noOrc)), wr := fun g => mem g [167, 170], wt := true }
theorem E_slices_DeleteFunc_lI_Task_I_Task_m4_ok (k : Nat) : EnvOk (E_slices_DeleteFunc_lI_Task_I_Task_m4 k) := fun g => (orc_cond (o_slices_IndexFunc_lI_Task_I_Task_m5_ok k) (orc_cond (o_pI_Sched_drop_c1_m3_ok k) (noOrc_ok _ _)))
noncomputable def c_slices_DeleteFunc_lI_Task_I_Task_m4 : Code := (Try.f169.body).getD .skip
noncomputable def b_slices_DeleteFunc_lI_Task_I_Task_m4_0 : Code := ((loopsIn 0 c_slices_DeleteFunc_lI_Task_I_Task_m4).getD 0 (0, .skip)).2
def slices_DeleteFunc_lI_Task_I_Task_m4_g0_keep : List Nat := [0, 1, 5, 6]
def slices_DeleteFunc_lI_Task_I_Task_m4_g0_co : List (Where × Co) := []
def slices_DeleteFunc_lI_Task_I_Task_m4_g0_kx : Ex → List Nat
  | .exit j => cond (Nat.beq j 0) [0, 5] []
  | .ret => []
  | .normal => []
def slices_DeleteFunc_lI_Task_I_Task_m4_g0_cx : Ex → List (Where × Co)
  | .exit j => cond (Nat.beq j 0) [] []
  | .ret => []
  | .normal => []
def slices_DeleteFunc_lI_Task_I_Task_m4_g0_tm (pv : (Int) × (Int × Int × List TaskK)) : St := { slots := [(0, .own 0), (1, .fn (.func 170) [] [.ptr 1 0 0]), (5, .r [] (.int .i64 pv.2.1)), (6, .r [] (.int .i64 pv.2.2.1))], heap := [(0, .arr none (.st .taskK) pv.2.2.2), (1, .box [.r [] (.int .i64 pv.1)])], nid := 2, n := 42, gh := [some 0, some 1] }
def slices_DeleteFunc_lI_Task_I_Task_m4_g0_dec (nf : NF) : Option ((Int) × (Int × Int × List TaskK)) := match nf with
  | ([.own 0, .fn (.func 170) [] [.ptr 1 0 0], .r [] (.int .i64 w0), .r [] (.int .i64 w1)], [.arr none (.st .taskK) w2, .box [.r [] (.int .i64 w3)]], [some 0, some 1]) => some (w3, (w0, w1, w2))
  | _ => none
theorem slices_DeleteFunc_lI_Task_I_Task_m4_g0_hd (nf : NF) (v : (Int) × (Int × Int × List TaskK)) (h : slices_DeleteFunc_lI_Task_I_Task_m4_g0_dec nf = some v) : denorm slices_DeleteFunc_lI_Task_I_Task_m4_g0_keep 42 nf = slices_DeleteFunc_lI_Task_I_Task_m4_g0_tm v := by
  unfold slices_DeleteFunc_lI_Task_I_Task_m4_g0_dec at h
  split at h
  · cases h; rfl
  · cases h
def slices_DeleteFunc_lI_Task_I_Task_m4_g0_x0 (p : Int) (x : Int × List TaskK) : St := { slots := [(0, .own 0), (5, .r [] (.int .i64 x.1))], heap := [(0, .arr none (.st .taskK) x.2), (1, .box [.r [] (.int .i64 p)])], nid := 2, n := 42, gh := [some 0, some 1] }
def LP_slices_DeleteFunc_lI_Task_I_Task_m4 (ρ : Type) (k : Nat) : Nat → Ev ρ → Ev ρ := fun id f => cond (Nat.beq id 0) (loopOrc slices_DeleteFunc_lI_Task_I_Task_m4_g0_keep slices_DeleteFunc_lI_Task_I_Task_m4_g0_co (fun n nf => cond (Nat.beq n 42) (slices_DeleteFunc_lI_Task_I_Task_m4_g0_dec nf) none) fun pv K => iter (fun v next => slices_DeleteFunc_lI_Task_I_Task_m4_g0 k pv.1 v next (fun x => K (.exit 0) (slices_DeleteFunc_lI_Task_I_Task_m4_g0_x0 pv.1 x))) k pv.2) ((fun _ _ _ _ => none) id f)
theorem slices_DeleteFunc_lI_Task_I_Task_m4_g0_round {ρ : Type} (k : Nat) (p : Int) (v : Int × Int × List TaskK) (K K1 : Ex → St → Option ρ) : ev (E_slices_DeleteFunc_lI_Task_I_Task_m4 k) (LP_slices_DeleteFunc_lI_Task_I_Task_m4 ρ k) 0 b_slices_DeleteFunc_lI_Task_I_Task_m4_0 (slices_DeleteFunc_lI_Task_I_Task_m4_g0_tm (p, v)) (fun e st' => match e with
    | .normal => (normC slices_DeleteFunc_lI_Task_I_Task_m4_g0_keep slices_DeleteFunc_lI_Task_I_Task_m4_g0_co st').bind fun nf => K1 .normal (denorm slices_DeleteFunc_lI_Task_I_Task_m4_g0_keep st'.n nf)
    | e => (normC (slices_DeleteFunc_lI_Task_I_Task_m4_g0_kx e) (slices_DeleteFunc_lI_Task_I_Task_m4_g0_cx e) st').bind fun nf => K e (denorm (slices_DeleteFunc_lI_Task_I_Task_m4_g0_kx e) st'.n nf)) = slices_DeleteFunc_lI_Task_I_Task_m4_g0 k p v (fun v' => K1 .normal (slices_DeleteFunc_lI_Task_I_Task_m4_g0_tm (p, v'))) (fun x => K (.exit 0) (slices_DeleteFunc_lI_Task_I_Task_m4_g0_x0 p x)) := by kernel_rfl
theorem slices_DeleteFunc_lI_Task_I_Task_m4_g0_ok {ρ : Type} (k : Nat) : Sound Try.prog (.loop b_slices_DeleteFunc_lI_Task_I_Task_m4_0) (LP_slices_DeleteFunc_lI_Task_I_Task_m4 ρ k 0 fun st K => ev (E_slices_DeleteFunc_lI_Task_I_Task_m4 k) (LP_slices_DeleteFunc_lI_Task_I_Task_m4 ρ k) 0 b_slices_DeleteFunc_lI_Task_I_Task_m4_0 st K) :=
  loop_ok (ev_sound (E_slices_DeleteFunc_lI_Task_I_Task_m4_ok k) b_slices_DeleteFunc_lI_Task_I_Task_m4_0 0 (lpgood_none (by kernel_rfl))) slices_DeleteFunc_lI_Task_I_Task_m4_g0_kx slices_DeleteFunc_lI_Task_I_Task_m4_g0_cx k (g := fun p v next K => slices_DeleteFunc_lI_Task_I_Task_m4_g0 k p v next (fun x => K (.exit 0) (slices_DeleteFunc_lI_Task_I_Task_m4_g0_x0 p x))) (dec_at slices_DeleteFunc_lI_Task_I_Task_m4_g0_hd) (fun p v K K1 => slices_DeleteFunc_lI_Task_I_Task_m4_g0_round k p v K K1)
def slices_DeleteFunc_lI_Task_I_Task_m4_args (a : List TaskK × Int) : List SV := [.own 0, .fn (.func 170) [] [.ptr 1 0 0]]
def slices_DeleteFunc_lI_Task_I_Task_m4_blks (a : List TaskK × Int) : List Blk := [.arr none (.st .taskK) a.1, .box [.r [] (.int .i64 a.2)]]
def slices_DeleteFunc_lI_Task_I_Task_m4_argD (l : List SV) (b : List Blk) : Option (List TaskK × Int) := match l, b with
  | [.own 0, .fn (.func 170) [] [.ptr 1 0 0]], [.arr none (.st .taskK) w0, .box [.r [] (.int .i64 w1)]] => some (w0, w1)
  | _, _ => none
def slices_DeleteFunc_lI_Task_I_Task_m4_enc (a : List TaskK × Int) (r : List TaskK) : MOut := ⟨.own 2, [none, some (.box [.r [] (.int .i64 a.2)])], [.arr none (.st .taskK) r]⟩
def slices_DeleteFunc_lI_Task_I_Task_m4_dec (a : List TaskK × Int) (o : MOut) : Option (List TaskK) := match o with
  | ⟨.own 2, [none, some (.box [.r [] (.int .i64 z1)])], [.arr none (.st .taskK) z2]⟩ => cond (@sameL Int _ z1 a.2) (some z2) none
  | _ => none
def slices_DeleteFunc_lI_Task_I_Task_m4_G (k : Nat) : MG := fun _ l b K => (slices_DeleteFunc_lI_Task_I_Task_m4_argD l b).bind fun a => (slices_DeleteFunc_lI_Task_I_Task_m4 k a.1 a.2).bind fun r => K (slices_DeleteFunc_lI_Task_I_Task_m4_enc a r)
theorem slices_DeleteFunc_lI_Task_I_Task_m4_ev (k : Nat) (a : List TaskK × Int) : ev (E_slices_DeleteFunc_lI_Task_I_Task_m4 k) (LP_slices_DeleteFunc_lI_Task_I_Task_m4 (List TaskK) k) 0 c_slices_DeleteFunc_lI_Task_I_Task_m4 (st0M Try.f169 (slices_DeleteFunc_lI_Task_I_Task_m4_args a) (slices_DeleteFunc_lI_Task_I_Task_m4_blks a)) (finM Try.prog Try.f169 (.own (.st .taskK)) [.gone, .box [.sc]] (slices_DeleteFunc_lI_Task_I_Task_m4_dec a)) = slices_DeleteFunc_lI_Task_I_Task_m4 k a.1 a.2 := by kernel_rfl
theorem slices_DeleteFunc_lI_Task_I_Task_m4_ok (k : Nat) : MutOk Try.prog 169 (slices_DeleteFunc_lI_Task_I_Task_m4_G k) :=
  mutOk_of_ev (E_slices_DeleteFunc_lI_Task_I_Task_m4_ok k) Try.func169 (by kernel_rfl) (by kernel_rfl) slices_DeleteFunc_lI_Task_I_Task_m4_args slices_DeleteFunc_lI_Task_I_Task_m4_blks slices_DeleteFunc_lI_Task_I_Task_m4_argD
    (fun l b a h => by unfold slices_DeleteFunc_lI_Task_I_Task_m4_argD at h; split at h <;> first | (cases h; exact ⟨rfl, rfl⟩) | cases h) (fun a => rfl) (lpgood_of (l := [(0, b_slices_DeleteFunc_lI_Task_I_Task_m4_0)]) (by kernel_rfl) ⟨slices_DeleteFunc_lI_Task_I_Task_m4_g0_ok k, trivial⟩) (fun a r => rfl)
    (fun a o r h => by unfold slices_DeleteFunc_lI_Task_I_Task_m4_dec at h; split at h <;> first | (obtain ⟨e0, hq⟩ := dec_chk1 h; clear h; subst e0; have h := hq; clear hq; cases h; rfl) | cases h) (slices_DeleteFunc_lI_Task_I_Task_m4_ev k)
def o_slices_DeleteFunc_lI_Task_I_Task_m4 (k : Nat) : Orc := mutOrc [.keep, .keep] (slices_DeleteFunc_lI_Task_I_Task_m4_G k)
theorem o_slices_DeleteFunc_lI_Task_I_Task_m4_ok (k : Nat) : OrcOk Try.prog 169 (o_slices_DeleteFunc_lI_Task_I_Task_m4 k) := mutOrc_ok (slices_DeleteFunc_lI_Task_I_Task_m4_ok k)
/-! ### 118 (*loop.example/g00778/impl.Sched).drop -/
noncomputable def E_pI_Sched_drop_m3 (k : Nat) : Env := { P := Try.prog, tt := ttTask, orc := fun g => cond (Nat.beq g 169) (o_slices_DeleteFunc_lI_Task_I_Task_m4 k) (noOrc), wr := fun g => mem g [169], wt := true }
theorem E_pI_Sched_drop_m3_ok (k : Nat) : EnvOk (E_pI_Sched_drop_m3 k) := fun g => (orc_cond (o_slices_DeleteFunc_lI_Task_I_Task_m4_ok k) (noOrc_ok _ _))
noncomputable def c_pI_Sched_drop_m3 : Code := (Try.f118.body).getD .skip
def LP_pI_Sched_drop_m3 (ρ : Type) (k : Nat) : Nat → Ev ρ → Ev ρ := fun _ _ _ _ => none
def pI_Sched_drop_m3_args (a : Int × Int × Int × List TaskK × Int × Int × Int × Int × Int) : List SV := [.ptr 0 0 0, .r [] (.int .i64 a.2.2.2.2.2.2.2.2)]
def pI_Sched_drop_m3_blks (a : Int × Int × Int × List TaskK × Int × Int × Int × Int × Int) : List Blk := [.box [.r [] (.int .i64 a.1), .r [] (.int .i64 a.2.1), .r [] (.int .i64 a.2.2.1), .own 1, .r [] (.int .i64 a.2.2.2.2.1), .r [] (.int .i64 a.2.2.2.2.2.1), .r [] (.int .i64 a.2.2.2.2.2.2.1), .r [] (.int .i64 a.2.2.2.2.2.2.2.1)], .arr none (.st .taskK) a.2.2.2.1]
def pI_Sched_drop_m3_argD (l : List SV) (b : List Blk) : Option (Int × Int × Int × List TaskK × Int × Int × Int × Int × Int) := match l, b with
  | [.ptr 0 0 0, .r [] (.int .i64 w0)], [.box [.r [] (.int .i64 w1), .r [] (.int .i64 w2), .r [] (.int .i64 w3), .own 1, .r [] (.int .i64 w4), .r [] (.int .i64 w5), .r [] (.int .i64 w6), .r [] (.int .i64 w7)], .arr none (.st .taskK) w8] => some (w1, w2, w3, w8, w4, w5, w6, w7, w0)
  | _, _ => none
def pI_Sched_drop_m3_enc (a : Int × Int × Int × List TaskK × Int × Int × Int × Int × Int) (r : List TaskK × Int × Int) : MOut := ⟨.tup [], [some (.box [.r [] (.int .i64 a.1), .r [] (.int .i64 a.2.1), .r [] (.int .i64 a.2.2.1), .own 2, .r [] (.int .i64 r.2.1), .r [] (.int .i64 r.2.2), .r [] (.int .i64 a.2.2.2.2.2.2.1), .r [] (.int .i64 a.2.2.2.2.2.2.2.1)]), none], [.arr none (.st .taskK) r.1]⟩
def pI_Sched_drop_m3_dec (a : Int × Int × Int × List TaskK × Int × Int × Int × Int × Int) (o : MOut) : Option (List TaskK × Int × Int) := match o with
  | ⟨.tup [], [some (.box [.r [] (.int .i64 z1), .r [] (.int .i64 z2), .r [] (.int .i64 z3), .own 2, .r [] (.int .i64 z4), .r [] (.int .i64 z5), .r [] (.int .i64 z6), .r [] (.int .i64 z7)]), none], [.arr none (.st .taskK) z8]⟩ => cond (@sameL Int _ z1 a.1) (cond (@sameL Int _ z2 a.2.1) (cond (@sameL Int _ z3 a.2.2.1) (cond (@sameL Int _ z6 a.2.2.2.2.2.2.1) (cond (@sameL Int _ z7 a.2.2.2.2.2.2.2.1) (some (z8, z4, z5)) none) none) none) none) none
  | _ => none
def pI_Sched_drop_m3_G (k : Nat) : MG := fun _ l b K => (pI_Sched_drop_m3_argD l b).bind fun a => (pI_Sched_drop_m3 k a.1 a.2.1 a.2.2.1 a.2.2.2.1 a.2.2.2.2.1 a.2.2.2.2.2.1 a.2.2.2.2.2.2.1 a.2.2.2.2.2.2.2.1 a.2.2.2.2.2.2.2.2).bind fun r => K (pI_Sched_drop_m3_enc a r)
theorem pI_Sched_drop_m3_ev (k : Nat) (a : Int × Int × Int × List TaskK × Int × Int × Int × Int × Int) : ev (E_pI_Sched_drop_m3 k) (LP_pI_Sched_drop_m3 (List TaskK × Int × Int) k) 0 c_pI_Sched_drop_m3 (st0M Try.f118 (pI_Sched_drop_m3_args a) (pI_Sched_drop_m3_blks a)) (finM Try.prog Try.f118 (.tup []) [.box [.sc, .sc, .sc, .own (.st .taskK), .sc, .sc, .sc, .sc], .gone] (pI_Sched_drop_m3_dec a)) = pI_Sched_drop_m3 k a.1 a.2.1 a.2.2.1 a.2.2.2.1 a.2.2.2.2.1 a.2.2.2.2.2.1 a.2.2.2.2.2.2.1 a.2.2.2.2.2.2.2.1 a.2.2.2.2.2.2.2.2 := by kernel_rfl
theorem pI_Sched_drop_m3_ok (k : Nat) : MutOk Try.prog 118 (pI_Sched_drop_m3_G k) :=
  mutOk_of_ev (E_pI_Sched_drop_m3_ok k) Try.func118 (by kernel_rfl) (by kernel_rfl) pI_Sched_drop_m3_args pI_Sched_drop_m3_blks pI_Sched_drop_m3_argD
    (fun l b a h => by unfold pI_Sched_drop_m3_argD at h; split at h <;> first | (cases h; exact ⟨rfl, rfl⟩) | cases h) (fun a => rfl) (lpgood_none (by kernel_rfl)) (fun a r => rfl)
    (fun a o r h => by unfold pI_Sched_drop_m3_dec at h; split at h <;> first | (obtain ⟨e0, e1, e2, e3, e4, hq⟩ := dec_chk5 h; clear h; subst e0; subst e1; subst e2; subst e3; subst e4; have h := hq; clear hq; cases h; rfl) | cases h) (pI_Sched_drop_m3_ev k)
def o_pI_Sched_drop_m3 (k : Nat) : Orc := mutOrc [.keep, .one (.int .i64)] (pI_Sched_drop_m3_G k)
theorem o_pI_Sched_drop_m3_ok (k : Nat) : OrcOk Try.prog 118 (o_pI_Sched_drop_m3 k) := mutOrc_ok (pI_Sched_drop_m3_ok k)
/-! ### 48 loop.example/g00778/impl.CancelTask -/
noncomputable def E_I_CancelTask (k : Nat) : Env := { P := Try.prog, tt := tt, orc := fun g => cond (Nat.beq g 109) (o_I_Sched_copied k) (cond (Nat.beq g 110) (o_I_SchedOk k) (cond (Nat.beq g 117) (o_I_Sched_find k) (cond (Nat.beq g 118) (mutOrc [.keep, .one (.int .i64)] (numG .task .taskK 1 (pI_Sched_drop_m3_G k))) (noOrc)))), wr := fun g => mem g [118], wt := true }
theorem E_I_CancelTask_ok (k : Nat) : EnvOk (E_I_CancelTask k) := fun g => (orc_cond (o_I_Sched_copied_ok k) (orc_cond (o_I_SchedOk_ok k) (orc_cond (o_I_Sched_find_ok k) (orc_cond (mutOrc_ok (numOk (s := .task) (s' := .taskK) rfl rfl rfl 1 (fun _ _ _ _ => by simp only [pI_Sched_drop_m3_G, Option.bind_assoc, Option.bind_some]) (fun T => @pI_Sched_drop_m3_ok T k))) (noOrc_ok _ _)))))
noncomputable def c_I_CancelTask : Code := (Try.f48.body).getD .skip
def LP_I_CancelTask (ρ : Type) (k : Nat) : Nat → Ev ρ → Ev ρ := fun _ _ _ _ => none
def I_CancelTask_args (a : Sched × Int) : List Arg := [.agg [.int .i64 a.1.now, .int .i64 a.1.slack, .int .i64 a.1.age, .sl (.st .task) a.1.tasks, .int .i64 a.1.run, .int .i64 a.1.left, .int .i64 a.1.turns, .int .i64 a.1.next], .one (.int .i64 a.2)]
def I_CancelTask_argD (l : List Arg) : Option (Sched × Int) := match l with
  | [.agg [.int .i64 b0_0, .int .i64 b0_1, .int .i64 b0_2, .sl (.st .task) b0_3, .int .i64 b0_4, .int .i64 b0_5, .int .i64 b0_6, .int .i64 b0_7], .one (.int .i64 b1)] => some ((⟨b0_0, b0_1, b0_2, b0_3, b0_4, b0_5, b0_6, b0_7⟩ : Sched), b1)
  | _ => none
def I_CancelTask_enc (r : Sched × Bool) : Out := (.tup [.agg [.r [] (.int .i64 r.1.now), .r [] (.int .i64 r.1.slack), .r [] (.int .i64 r.1.age), .own 0, .r [] (.int .i64 r.1.run), .r [] (.int .i64 r.1.left), .r [] (.int .i64 r.1.turns), .r [] (.int .i64 r.1.next)], .r [] (.bool r.2)], [.arr none (.st .task) r.1.tasks])
def I_CancelTask_dec (o : Out) : Option (Sched × Bool) := match o with
  | (.tup [.agg [.r [] (.int .i64 z1), .r [] (.int .i64 z2), .r [] (.int .i64 z3), .own 0, .r [] (.int .i64 z5), .r [] (.int .i64 z6), .r [] (.int .i64 z7), .r [] (.int .i64 z8)], .r [] (.bool z9)], [.arr none (.st .task) z4]) => some ((⟨z1, z2, z3, z4, z5, z6, z7, z8⟩ : Sched), z9)
  | _ => none
def I_CancelTask_G (k : Nat) : PG := fun _ l K => (I_CancelTask_argD l).bind fun a => (I_CancelTask k a.1 a.2).bind fun r => K (I_CancelTask_enc r)
theorem I_CancelTask_ev (k : Nat) (a : Sched × Int) : ev (E_I_CancelTask k) (LP_I_CancelTask (Sched × Bool) k) 0 c_I_CancelTask (st0 Try.f48 (I_CancelTask_args a)) (fin Try.prog Try.f48 (.tup [.agg [.sc, .sc, .sc, .own (.st .task), .sc, .sc, .sc, .sc], .sc]) I_CancelTask_dec) = I_CancelTask k a.1 a.2 := by kernel_rfl
theorem I_CancelTask_ok (k : Nat) : PureOk Try.prog 48 (I_CancelTask_G k) :=
  pureOk_of_ev (E_I_CancelTask_ok k) Try.func48 (by kernel_rfl) (by kernel_rfl) I_CancelTask_args I_CancelTask_argD
    (fun l a h => by unfold I_CancelTask_argD at h; split at h <;> first | (cases h; rfl) | cases h) (fun a => rfl) (lpgood_none (by kernel_rfl))
    (fun o r h => by unfold I_CancelTask_dec at h; split at h <;> first | (cases h; rfl) | cases h) (I_CancelTask_ev k)
def o_I_CancelTask (k : Nat) : Orc := pureOrc [.agg [(.int .i64), (.int .i64), (.int .i64), (.sl (.st .task)), (.int .i64), (.int .i64), (.int .i64), (.int .i64)], .one (.int .i64)] (I_CancelTask_G k)
theorem o_I_CancelTask_ok (k : Nat) : OrcOk Try.prog 48 (o_I_CancelTask k) := pureOrc_ok (I_CancelTask_ok k)
/-! ### 204 slices.Clone[[]loop.example/g00778/impl.Task,loop.example/g00778/impl.Task] -/
noncomputable def E_slices_Clone_lI_Task_I_Task (k : Nat) : Env := { P := Try.prog, tt := tt, orc := fun g => noOrc }
theorem E_slices_Clone_lI_Task_I_Task_ok (k : Nat) : EnvOk (E_slices_Clone_lI_Task_I_Task k) := fun g => (noOrc_ok _ _)
noncomputable def c_slices_Clone_lI_Task_I_Task : Code := (Try.f204.body).getD .skip
def LP_slices_Clone_lI_Task_I_Task (ρ : Type) (k : Nat) : Nat → Ev ρ → Ev ρ := fun _ _ _ _ => none
def slices_Clone_lI_Task_I_Task_args (a : List Task) : List Arg := [.one (.sl (.st .task) a)]
def slices_Clone_lI_Task_I_Task_argD (l : List Arg) : Option (List Task) := match l with
  | [.one (.sl (.st .task) b0)] => some b0
  | _ => none
def slices_Clone_lI_Task_I_Task_enc (r : List Task) : Out := (.own 0, [.arr (some []) (.st .task) r])
def slices_Clone_lI_Task_I_Task_dec (o : Out) : Option (List Task) := match o with
  | (.own 0, [.arr (some []) (.st .task) z1]) => some z1
  | _ => none
def slices_Clone_lI_Task_I_Task_G (k : Nat) : PG := fun _ l K => (slices_Clone_lI_Task_I_Task_argD l).bind fun a => (slices_Clone_lI_Task_I_Task k a).bind fun r => K (slices_Clone_lI_Task_I_Task_enc r)
theorem slices_Clone_lI_Task_I_Task_ev (k : Nat) (a : List Task) : ev (E_slices_Clone_lI_Task_I_Task k) (LP_slices_Clone_lI_Task_I_Task (List Task) k) 0 c_slices_Clone_lI_Task_I_Task (st0 Try.f204 (slices_Clone_lI_Task_I_Task_args a)) (fin Try.prog Try.f204 (.shl (.st .task)) slices_Clone_lI_Task_I_Task_dec) = slices_Clone_lI_Task_I_Task k a := by kernel_rfl
theorem slices_Clone_lI_Task_I_Task_ok (k : Nat) : PureOk Try.prog 204 (slices_Clone_lI_Task_I_Task_G k) :=
  pureOk_of_ev (E_slices_Clone_lI_Task_I_Task_ok k) Try.func204 (by kernel_rfl) (by kernel_rfl) slices_Clone_lI_Task_I_Task_args slices_Clone_lI_Task_I_Task_argD
    (fun l a h => by unfold slices_Clone_lI_Task_I_Task_argD at h; split at h <;> first | (cases h; rfl) | cases h) (fun a => rfl) (lpgood_none (by kernel_rfl))
    (fun o r h => by unfold slices_Clone_lI_Task_I_Task_dec at h; split at h <;> first | (cases h; rfl) | cases h) (slices_Clone_lI_Task_I_Task_ev k)
def o_slices_Clone_lI_Task_I_Task (k : Nat) : Orc := pureOrc [.one (.sl (.st .task))] (slices_Clone_lI_Task_I_Task_G k)
theorem o_slices_Clone_lI_Task_I_Task_ok (k : Nat) : OrcOk Try.prog 204 (o_slices_Clone_lI_Task_I_Task k) := pureOrc_ok (slices_Clone_lI_Task_I_Task_ok k)
/-! ### 205 (loop.example/g00778/impl.Sched).first$1 -/
noncomputable def E_I_Sched_first_c1_m (k : Nat) : Env := { P := Try.prog, tt := tt, orc := fun g => cond (Nat.beq g 146) (o_I_Sched_isLate k) (noOrc) }
theorem E_I_Sched_first_c1_m_ok (k : Nat) : EnvOk (E_I_Sched_first_c1_m k) := fun g => (orc_cond (o_I_Sched_isLate_ok k) (noOrc_ok _ _))
noncomputable def c_I_Sched_first_c1_m : Code := (Try.f205.body).getD .skip
def LP_I_Sched_first_c1_m (ρ : Type) (k : Nat) : Nat → Ev ρ → Ev ρ := fun _ _ _ _ => none
def I_Sched_first_c1_m_args (a : Task × Sched) : List SV := [.agg [.r [] (.int .i64 a.1.id), .r [] (.sl (.int .i64) a.1.costs), .r [] (.int .i64 a.1.at_), .r [] (.int .i64 a.1.due), .r [] (.int .i64 a.1.born)], .ptr 0 0 0]
def I_Sched_first_c1_m_blks (a : Task × Sched) : List Blk := [.box [.fn (.func 146) [.agg [.r [] (.int .i64 a.2.now), .r [] (.int .i64 a.2.slack), .r [] (.int .i64 a.2.age), .r [] (.sl (.st .task) a.2.tasks), .r [] (.int .i64 a.2.run), .r [] (.int .i64 a.2.left), .r [] (.int .i64 a.2.turns), .r [] (.int .i64 a.2.next)]] []]]
def I_Sched_first_c1_m_argD (l : List SV) (b : List Blk) : Option (Task × Sched) := match l, b with
  | [.agg [.r [] (.int .i64 w0), .r [] (.sl (.int .i64) w1), .r [] (.int .i64 w2), .r [] (.int .i64 w3), .r [] (.int .i64 w4)], .ptr 0 0 0], [.box [.fn (.func 146) [.agg [.r [] (.int .i64 w5), .r [] (.int .i64 w6), .r [] (.int .i64 w7), .r [] (.sl (.st .task) w8), .r [] (.int .i64 w9), .r [] (.int .i64 w10), .r [] (.int .i64 w11), .r [] (.int .i64 w12)]] []]] => some ((⟨w0, w1, w2, w3, w4⟩ : Task), (⟨w5, w6, w7, w8, w9, w10, w11, w12⟩ : Sched))
  | _, _ => none
def I_Sched_first_c1_m_enc (a : Task × Sched) (r : Bool) : MOut := ⟨.r [] (.bool r), [some (.box [.fn (.func 146) [.agg [.r [] (.int .i64 a.2.now), .r [] (.int .i64 a.2.slack), .r [] (.int .i64 a.2.age), .r [] (.sl (.st .task) a.2.tasks), .r [] (.int .i64 a.2.run), .r [] (.int .i64 a.2.left), .r [] (.int .i64 a.2.turns), .r [] (.int .i64 a.2.next)]] []])], []⟩
def I_Sched_first_c1_m_dec (a : Task × Sched) (o : MOut) : Option (Bool) := match o with
  | ⟨.r [] (.bool z1), [some (.box [.fn (.func 146) [.agg [.r [] (.int .i64 z2), .r [] (.int .i64 z3), .r [] (.int .i64 z4), .r [] (.sl (.st .task) z5), .r [] (.int .i64 z6), .r [] (.int .i64 z7), .r [] (.int .i64 z8), .r [] (.int .i64 z9)]] []])], []⟩ => cond (@sameL Int _ z2 a.2.now) (cond (@sameL Int _ z3 a.2.slack) (cond (@sameL Int _ z4 a.2.age) (cond (@sameL (List Task) _ z5 a.2.tasks) (cond (@sameL Int _ z6 a.2.run) (cond (@sameL Int _ z7 a.2.left) (cond (@sameL Int _ z8 a.2.turns) (cond (@sameL Int _ z9 a.2.next) (some z1) none) none) none) none) none) none) none) none
  | _ => none
def I_Sched_first_c1_m_G (k : Nat) : MG := fun _ l b K => (I_Sched_first_c1_m_argD l b).bind fun a => (I_Sched_first_c1_m k a.1 a.2).bind fun r => K (I_Sched_first_c1_m_enc a r)
theorem I_Sched_first_c1_m_ev (k : Nat) (a : Task × Sched) : ev (E_I_Sched_first_c1_m k) (LP_I_Sched_first_c1_m (Bool) k) 0 c_I_Sched_first_c1_m (st0M Try.f205 (I_Sched_first_c1_m_args a) (I_Sched_first_c1_m_blks a)) (finM Try.prog Try.f205 (.sc) [.box [.fn [.agg [.sc, .sc, .sc, .ro (.st .task), .sc, .sc, .sc, .sc]] []]] (I_Sched_first_c1_m_dec a)) = I_Sched_first_c1_m k a.1 a.2 := by kernel_rfl
theorem I_Sched_first_c1_m_ok (k : Nat) : MutOk Try.prog 205 (I_Sched_first_c1_m_G k) :=
  mutOk_of_ev (E_I_Sched_first_c1_m_ok k) Try.func205 (by kernel_rfl) (by kernel_rfl) I_Sched_first_c1_m_args I_Sched_first_c1_m_blks I_Sched_first_c1_m_argD
    (fun l b a h => by unfold I_Sched_first_c1_m_argD at h; split at h <;> first | (cases h; exact ⟨rfl, rfl⟩) | cases h) (fun a => rfl) (lpgood_none (by kernel_rfl)) (fun a r => rfl)
    (fun a o r h => by unfold I_Sched_first_c1_m_dec at h; split at h <;> first | (obtain ⟨e0, e1, e2, e3, e4, e5, e6, e7, hq⟩ := dec_chk8 h; clear h; subst e0; subst e1; subst e2; subst e3; subst e4; subst e5; subst e6; subst e7; have h := hq; clear hq; cases h; rfl) | cases h) (I_Sched_first_c1_m_ev k)
def o_I_Sched_first_c1_m (k : Nat) : Orc := mutOrc [.agg [(.int .i64), (.sl (.int .i64)), (.int .i64), (.int .i64), (.int .i64)], .keep] (I_Sched_first_c1_m_G k)
theorem o_I_Sched_first_c1_m_ok (k : Nat) : OrcOk Try.prog 205 (o_I_Sched_first_c1_m k) := mutOrc_ok (I_Sched_first_c1_m_ok k)
/-! ### 205 (loop.example/g00778/impl.Sched).first$1 -/
noncomputable def E_I_Sched_first_c1_m2 (k : Nat) : Env := { P := Try.prog, tt := tt, orc := fun g => cond (Nat.beq g 146) (o_I_Sched_isLate k) (noOrc) }
theorem E_I_Sched_first_c1_m2_ok (k : Nat) : EnvOk (E_I_Sched_first_c1_m2 k) := fun g => (orc_cond (o_I_Sched_isLate_ok k) (noOrc_ok _ _))
noncomputable def c_I_Sched_first_c1_m2 : Code := (Try.f205.body).getD .skip
def LP_I_Sched_first_c1_m2 (ρ : Type) (k : Nat) : Nat → Ev ρ → Ev ρ := fun _ _ _ _ => none
def I_Sched_first_c1_m2_args (a : Task × Sched) : List SV := [.agg [.r [] (.int .i64 a.1.id), .r [] (.sl (.int .i64) a.1.costs), .r [] (.int .i64 a.1.at_), .r [] (.int .i64 a.1.due), .r [] (.int .i64 a.1.born)], .ptr 0 0 0]
def I_Sched_first_c1_m2_blks (a : Task × Sched) : List Blk := [.box [.fn (.func 146) [.agg [.r [] (.int .i64 a.2.now), .r [] (.int .i64 a.2.slack), .r [] (.int .i64 a.2.age), .r [] (.sl (.st .task) a.2.tasks), .r [] (.int .i64 a.2.run), .r [] (.int .i64 a.2.left), .r [] (.int .i64 a.2.turns), .r [] (.int .i64 a.2.next)]] []]]
def I_Sched_first_c1_m2_argD (l : List SV) (b : List Blk) : Option (Task × Sched) := match l, b with
  | [.agg [.r [] (.int .i64 w0), .r [] (.sl (.int .i64) w1), .r [] (.int .i64 w2), .r [] (.int .i64 w3), .r [] (.int .i64 w4)], .ptr 0 0 0], [.box [.fn (.func 146) [.agg [.r [] (.int .i64 w5), .r [] (.int .i64 w6), .r [] (.int .i64 w7), .r [] (.sl (.st .task) w8), .r [] (.int .i64 w9), .r [] (.int .i64 w10), .r [] (.int .i64 w11), .r [] (.int .i64 w12)]] []]] => some ((⟨w0, w1, w2, w3, w4⟩ : Task), (⟨w5, w6, w7, w8, w9, w10, w11, w12⟩ : Sched))
  | _, _ => none
def I_Sched_first_c1_m2_enc (a : Task × Sched) (r : Bool) : MOut := ⟨.r [] (.bool r), [some (.box [.fn (.func 146) [.agg [.r [] (.int .i64 a.2.now), .r [] (.int .i64 a.2.slack), .r [] (.int .i64 a.2.age), .r [] (.sl (.st .task) a.2.tasks), .r [] (.int .i64 a.2.run), .r [] (.int .i64 a.2.left), .r [] (.int .i64 a.2.turns), .r [] (.int .i64 a.2.next)]] []])], []⟩
def I_Sched_first_c1_m2_dec (a : Task × Sched) (o : MOut) : Option (Bool) := match o with
  | ⟨.r [] (.bool z1), [some (.box [.fn (.func 146) [.agg [.r [] (.int .i64 z2), .r [] (.int .i64 z3), .r [] (.int .i64 z4), .r [] (.sl (.st .task) z5), .r [] (.int .i64 z6), .r [] (.int .i64 z7), .r [] (.int .i64 z8), .r [] (.int .i64 z9)]] []])], []⟩ => cond (@sameL Int _ z2 a.2.now) (cond (@sameL Int _ z3 a.2.slack) (cond (@sameL Int _ z4 a.2.age) (cond (@sameL (List Task) _ z5 a.2.tasks) (cond (@sameL Int _ z6 a.2.run) (cond (@sameL Int _ z7 a.2.left) (cond (@sameL Int _ z8 a.2.turns) (cond (@sameL Int _ z9 a.2.next) (some z1) none) none) none) none) none) none) none) none
  | _ => none
def I_Sched_first_c1_m2_G (k : Nat) : MG := fun _ l b K => (I_Sched_first_c1_m2_argD l b).bind fun a => (I_Sched_first_c1_m2 k a.1 a.2).bind fun r => K (I_Sched_first_c1_m2_enc a r)
theorem I_Sched_first_c1_m2_ev (k : Nat) (a : Task × Sched) : ev (E_I_Sched_first_c1_m2 k) (LP_I_Sched_first_c1_m2 (Bool) k) 0 c_I_Sched_first_c1_m2 (st0M Try.f205 (I_Sched_first_c1_m2_args a) (I_Sched_first_c1_m2_blks a)) (finM Try.prog Try.f205 (.sc) [.box [.fn [.agg [.sc, .sc, .sc, .ro (.st .task), .sc, .sc, .sc, .sc]] []]] (I_Sched_first_c1_m2_dec a)) = I_Sched_first_c1_m2 k a.1 a.2 := by kernel_rfl
theorem I_Sched_first_c1_m2_ok (k : Nat) : MutOk Try.prog 205 (I_Sched_first_c1_m2_G k) :=
  mutOk_of_ev (E_I_Sched_first_c1_m2_ok k) Try.func205 (by kernel_rfl) (by kernel_rfl) I_Sched_first_c1_m2_args I_Sched_first_c1_m2_blks I_Sched_first_c1_m2_argD
    (fun l b a h => by unfold I_Sched_first_c1_m2_argD at h; split at h <;> first | (cases h; exact ⟨rfl, rfl⟩) | cases h) (fun a => rfl) (lpgood_none (by kernel_rfl)) (fun a r => rfl)
    (fun a o r h => by unfold I_Sched_first_c1_m2_dec at h; split at h <;> first | (obtain ⟨e0, e1, e2, e3, e4, e5, e6, e7, hq⟩ := dec_chk8 h; clear h; subst e0; subst e1; subst e2; subst e3; subst e4; subst e5; subst e6; subst e7; have h := hq; clear hq; cases h; rfl) | cases h) (I_Sched_first_c1_m2_ev k)
def o_I_Sched_first_c1_m2 (k : Nat) : Orc := mutOrc [.keep, .keep] (I_Sched_first_c1_m2_G k)
theorem o_I_Sched_first_c1_m2_ok (k : Nat) : OrcOk Try.prog 205 (o_I_Sched_first_c1_m2 k) := mutOrc_ok (I_Sched_first_c1_m2_ok k)
/-! ### 167 slices.IndexFunc[[]loop.example/g00778/impl.Task,loop.example/g00778/impl.Task] -/
noncomputable def E_slices_IndexFunc_lI_Task_I_Task_m7 (k : Nat) : Env := { P := Try.prog, tt := tt, orc := fun g => cond (Nat.beq g 205) (o_I_Sched_first_c1_m k) (noOrc), wr := fun g => mem g [205], wt := true }
theorem E_slices_IndexFunc_lI_Task_I_Task_m7_ok (k : Nat) : EnvOk (E_slices_IndexFunc_lI_Task_I_Task_m7 k) := fun g => (orc_cond (o_I_Sched_first_c1_m_ok k) (noOrc_ok _ _))
noncomputable def c_slices_IndexFunc_lI_Task_I_Task_m7 : Code := (Try.f167.body).getD .skip
noncomputable def b_slices_IndexFunc_lI_Task_I_Task_m7_0 : Code := ((loopsIn 0 c_slices_IndexFunc_lI_Task_I_Task_m7).getD 0 (0, .skip)).2
def slices_IndexFunc_lI_Task_I_Task_m7_g0_keep : List Nat := [0, 1, 7, 8]
def slices_IndexFunc_lI_Task_I_Task_m7_g0_co : List (Where × Co) := []
def slices_IndexFunc_lI_Task_I_Task_m7_g0_kx : Ex → List Nat
  | .exit j => cond (Nat.beq j 0) [] []
  | .ret => [4]
  | .normal => []
def slices_IndexFunc_lI_Task_I_Task_m7_g0_cx : Ex → List (Where × Co)
  | .exit j => cond (Nat.beq j 0) [] []
  | .ret => []
  | .normal => []
def slices_IndexFunc_lI_Task_I_Task_m7_g0_tm (pv : (Int × List Task × Int × Int × Int × List Task × Int × Int × Int × Int) × (Int)) : St := { slots := [(0, .own 0), (1, .fn (.func 205) [] [.ptr 1 0 0]), (7, .r [] (.int .i64 pv.1.1)), (8, .r [] (.int .i64 pv.2))], heap := [(0, .arr (some []) (.st .task) pv.1.2.1), (1, .box [.fn (.func 146) [.agg [.r [] (.int .i64 pv.1.2.2.1), .r [] (.int .i64 pv.1.2.2.2.1), .r [] (.int .i64 pv.1.2.2.2.2.1), .r [] (.sl (.st .task) pv.1.2.2.2.2.2.1), .r [] (.int .i64 pv.1.2.2.2.2.2.2.1), .r [] (.int .i64 pv.1.2.2.2.2.2.2.2.1), .r [] (.int .i64 pv.1.2.2.2.2.2.2.2.2.1), .r [] (.int .i64 pv.1.2.2.2.2.2.2.2.2.2)]] []])], nid := 2, n := 19, gh := [some 0, some 1] }
def slices_IndexFunc_lI_Task_I_Task_m7_g0_dec (nf : NF) : Option ((Int × List Task × Int × Int × Int × List Task × Int × Int × Int × Int) × (Int)) := match nf with
  | ([.own 0, .fn (.func 205) [] [.ptr 1 0 0], .r [] (.int .i64 w0), .r [] (.int .i64 w1)], [.arr (some []) (.st .task) w2, .box [.fn (.func 146) [.agg [.r [] (.int .i64 w3), .r [] (.int .i64 w4), .r [] (.int .i64 w5), .r [] (.sl (.st .task) w6), .r [] (.int .i64 w7), .r [] (.int .i64 w8), .r [] (.int .i64 w9), .r [] (.int .i64 w10)]] []]], [some 0, some 1]) => some ((w0, w2, w3, w4, w5, w6, w7, w8, w9, w10), w1)
  | _ => none
theorem slices_IndexFunc_lI_Task_I_Task_m7_g0_hd (nf : NF) (v : (Int × List Task × Int × Int × Int × List Task × Int × Int × Int × Int) × (Int)) (h : slices_IndexFunc_lI_Task_I_Task_m7_g0_dec nf = some v) : denorm slices_IndexFunc_lI_Task_I_Task_m7_g0_keep 19 nf = slices_IndexFunc_lI_Task_I_Task_m7_g0_tm v := by
  unfold slices_IndexFunc_lI_Task_I_Task_m7_g0_dec at h
  split at h
  · cases h; rfl
  · cases h
def slices_IndexFunc_lI_Task_I_Task_m7_g0_x0 (p : Int × List Task × Int × Int × Int × List Task × Int × Int × Int × Int) (x : Unit) : St := { slots := [], heap := [(0, .arr (some []) (.st .task) p.2.1), (1, .box [.fn (.func 146) [.agg [.r [] (.int .i64 p.2.2.1), .r [] (.int .i64 p.2.2.2.1), .r [] (.int .i64 p.2.2.2.2.1), .r [] (.sl (.st .task) p.2.2.2.2.2.1), .r [] (.int .i64 p.2.2.2.2.2.2.1), .r [] (.int .i64 p.2.2.2.2.2.2.2.1), .r [] (.int .i64 p.2.2.2.2.2.2.2.2.1), .r [] (.int .i64 p.2.2.2.2.2.2.2.2.2)]] []])], nid := 2, n := 19, gh := [some 0, some 1] }
def slices_IndexFunc_lI_Task_I_Task_m7_g0_xret (p : Int × List Task × Int × Int × Int × List Task × Int × Int × Int × Int) (x : Int) : St := { slots := [(4, .r [] (.int .i64 x))], heap := [(0, .arr (some []) (.st .task) p.2.1), (1, .box [.fn (.func 146) [.agg [.r [] (.int .i64 p.2.2.1), .r [] (.int .i64 p.2.2.2.1), .r [] (.int .i64 p.2.2.2.2.1), .r [] (.sl (.st .task) p.2.2.2.2.2.1), .r [] (.int .i64 p.2.2.2.2.2.2.1), .r [] (.int .i64 p.2.2.2.2.2.2.2.1), .r [] (.int .i64 p.2.2.2.2.2.2.2.2.1), .r [] (.int .i64 p.2.2.2.2.2.2.2.2.2)]] []])], nid := 2, n := 19, gh := [some 0, some 1] }
def LP_slices_IndexFunc_lI_Task_I_Task_m7 (ρ : Type) (k : Nat) : Nat → Ev ρ → Ev ρ := fun id f => cond (Nat.beq id 0) (loopOrc slices_IndexFunc_lI_Task_I_Task_m7_g0_keep slices_IndexFunc_lI_Task_I_Task_m7_g0_co (fun n nf => cond (Nat.beq n 19) (slices_IndexFunc_lI_Task_I_Task_m7_g0_dec nf) none) fun pv K => iter (fun v next => slices_IndexFunc_lI_Task_I_Task_m7_g0 k pv.1 v next (fun x => K (.exit 0) (slices_IndexFunc_lI_Task_I_Task_m7_g0_x0 pv.1 x)) (fun x => K .ret (slices_IndexFunc_lI_Task_I_Task_m7_g0_xret pv.1 x))) k pv.2) ((fun _ _ _ _ => none) id f)
theorem slices_IndexFunc_lI_Task_I_Task_m7_g0_round {ρ : Type} (k : Nat) (p : Int × List Task × Int × Int × Int × List Task × Int × Int × Int × Int) (v : Int) (K K1 : Ex → St → Option ρ) : ev (E_slices_IndexFunc_lI_Task_I_Task_m7 k) (LP_slices_IndexFunc_lI_Task_I_Task_m7 ρ k) 0 b_slices_IndexFunc_lI_Task_I_Task_m7_0 (slices_IndexFunc_lI_Task_I_Task_m7_g0_tm (p, v)) (fun e st' => match e with
    | .normal => (normC slices_IndexFunc_lI_Task_I_Task_m7_g0_keep slices_IndexFunc_lI_Task_I_Task_m7_g0_co st').bind fun nf => K1 .normal (denorm slices_IndexFunc_lI_Task_I_Task_m7_g0_keep st'.n nf)
    | e => (normC (slices_IndexFunc_lI_Task_I_Task_m7_g0_kx e) (slices_IndexFunc_lI_Task_I_Task_m7_g0_cx e) st').bind fun nf => K e (denorm (slices_IndexFunc_lI_Task_I_Task_m7_g0_kx e) st'.n nf)) = slices_IndexFunc_lI_Task_I_Task_m7_g0 k p v (fun v' => K1 .normal (slices_IndexFunc_lI_Task_I_Task_m7_g0_tm (p, v'))) (fun x => K (.exit 0) (slices_IndexFunc_lI_Task_I_Task_m7_g0_x0 p x)) (fun x => K .ret (slices_IndexFunc_lI_Task_I_Task_m7_g0_xret p x)) := by kernel_rfl
theorem slices_IndexFunc_lI_Task_I_Task_m7_g0_ok {ρ : Type} (k : Nat) : Sound Try.prog (.loop b_slices_IndexFunc_lI_Task_I_Task_m7_0) (LP_slices_IndexFunc_lI_Task_I_Task_m7 ρ k 0 fun st K => ev (E_slices_IndexFunc_lI_Task_I_Task_m7 k) (LP_slices_IndexFunc_lI_Task_I_Task_m7 ρ k) 0 b_slices_IndexFunc_lI_Task_I_Task_m7_0 st K) :=
  loop_ok (ev_sound (E_slices_IndexFunc_lI_Task_I_Task_m7_ok k) b_slices_IndexFunc_lI_Task_I_Task_m7_0 0 (lpgood_none (by kernel_rfl))) slices_IndexFunc_lI_Task_I_Task_m7_g0_kx slices_IndexFunc_lI_Task_I_Task_m7_g0_cx k (g := fun p v next K => slices_IndexFunc_lI_Task_I_Task_m7_g0 k p v next (fun x => K (.exit 0) (slices_IndexFunc_lI_Task_I_Task_m7_g0_x0 p x)) (fun x => K .ret (slices_IndexFunc_lI_Task_I_Task_m7_g0_xret p x))) (dec_at slices_IndexFunc_lI_Task_I_Task_m7_g0_hd) (fun p v K K1 => slices_IndexFunc_lI_Task_I_Task_m7_g0_round k p v K K1)
def slices_IndexFunc_lI_Task_I_Task_m7_args (a : List Task × Sched) : List SV := [.own 0, .fn (.func 205) [] [.ptr 1 0 0]]
def slices_IndexFunc_lI_Task_I_Task_m7_blks (a : List Task × Sched) : List Blk := [.arr (some []) (.st .task) a.1, .box [.fn (.func 146) [.agg [.r [] (.int .i64 a.2.now), .r [] (.int .i64 a.2.slack), .r [] (.int .i64 a.2.age), .r [] (.sl (.st .task) a.2.tasks), .r [] (.int .i64 a.2.run), .r [] (.int .i64 a.2.left), .r [] (.int .i64 a.2.turns), .r [] (.int .i64 a.2.next)]] []]]
def slices_IndexFunc_lI_Task_I_Task_m7_argD (l : List SV) (b : List Blk) : Option (List Task × Sched) := match l, b with
  | [.own 0, .fn (.func 205) [] [.ptr 1 0 0]], [.arr (some []) (.st .task) w0, .box [.fn (.func 146) [.agg [.r [] (.int .i64 w1), .r [] (.int .i64 w2), .r [] (.int .i64 w3), .r [] (.sl (.st .task) w4), .r [] (.int .i64 w5), .r [] (.int .i64 w6), .r [] (.int .i64 w7), .r [] (.int .i64 w8)]] []]] => some (w0, (⟨w1, w2, w3, w4, w5, w6, w7, w8⟩ : Sched))
  | _, _ => none
def slices_IndexFunc_lI_Task_I_Task_m7_enc (a : List Task × Sched) (r : Int) : MOut := ⟨.r [] (.int .i64 r), [some (.arr (some []) (.st .task) a.1), some (.box [.fn (.func 146) [.agg [.r [] (.int .i64 a.2.now), .r [] (.int .i64 a.2.slack), .r [] (.int .i64 a.2.age), .r [] (.sl (.st .task) a.2.tasks), .r [] (.int .i64 a.2.run), .r [] (.int .i64 a.2.left), .r [] (.int .i64 a.2.turns), .r [] (.int .i64 a.2.next)]] []])], []⟩
def slices_IndexFunc_lI_Task_I_Task_m7_dec (a : List Task × Sched) (o : MOut) : Option (Int) := match o with
  | ⟨.r [] (.int .i64 z1), [some (.arr (some []) (.st .task) z2), some (.box [.fn (.func 146) [.agg [.r [] (.int .i64 z3), .r [] (.int .i64 z4), .r [] (.int .i64 z5), .r [] (.sl (.st .task) z6), .r [] (.int .i64 z7), .r [] (.int .i64 z8), .r [] (.int .i64 z9), .r [] (.int .i64 z10)]] []])], []⟩ => cond (@sameL (List Task) _ z2 a.1) (cond (@sameL Int _ z3 a.2.now) (cond (@sameL Int _ z4 a.2.slack) (cond (@sameL Int _ z5 a.2.age) (cond (@sameL (List Task) _ z6 a.2.tasks) (cond (@sameL Int _ z7 a.2.run) (cond (@sameL Int _ z8 a.2.left) (cond (@sameL Int _ z9 a.2.turns) (cond (@sameL Int _ z10 a.2.next) (some z1) none) none) none) none) none) none) none) none) none
  | _ => none
def slices_IndexFunc_lI_Task_I_Task_m7_G (k : Nat) : MG := fun _ l b K => (slices_IndexFunc_lI_Task_I_Task_m7_argD l b).bind fun a => (slices_IndexFunc_lI_Task_I_Task_m7 k a.1 a.2).bind fun r => K (slices_IndexFunc_lI_Task_I_Task_m7_enc a r)
theorem slices_IndexFunc_lI_Task_I_Task_m7_ev (k : Nat) (a : List Task × Sched) : ev (E_slices_IndexFunc_lI_Task_I_Task_m7 k) (LP_slices_IndexFunc_lI_Task_I_Task_m7 (Int) k) 0 c_slices_IndexFunc_lI_Task_I_Task_m7 (st0M Try.f167 (slices_IndexFunc_lI_Task_I_Task_m7_args a) (slices_IndexFunc_lI_Task_I_Task_m7_blks a)) (finM Try.prog Try.f167 (.sc) [.arr, .box [.fn [.agg [.sc, .sc, .sc, .ro (.st .task), .sc, .sc, .sc, .sc]] []]] (slices_IndexFunc_lI_Task_I_Task_m7_dec a)) = slices_IndexFunc_lI_Task_I_Task_m7 k a.1 a.2 := by kernel_rfl
theorem slices_IndexFunc_lI_Task_I_Task_m7_ok (k : Nat) : MutOk Try.prog 167 (slices_IndexFunc_lI_Task_I_Task_m7_G k) :=
  mutOk_of_ev (E_slices_IndexFunc_lI_Task_I_Task_m7_ok k) Try.func167 (by kernel_rfl) (by kernel_rfl) slices_IndexFunc_lI_Task_I_Task_m7_args slices_IndexFunc_lI_Task_I_Task_m7_blks slices_IndexFunc_lI_Task_I_Task_m7_argD
    (fun l b a h => by unfold slices_IndexFunc_lI_Task_I_Task_m7_argD at h; split at h <;> first | (cases h; exact ⟨rfl, rfl⟩) | cases h) (fun a => rfl) (lpgood_of (l := [(0, b_slices_IndexFunc_lI_Task_I_Task_m7_0)]) (by kernel_rfl) ⟨slices_IndexFunc_lI_Task_I_Task_m7_g0_ok k, trivial⟩) (fun a r => rfl)
    (fun a o r h => by unfold slices_IndexFunc_lI_Task_I_Task_m7_dec at h; split at h <;> first | (obtain ⟨e0, e1, e2, e3, e4, e5, e6, e7, e8, hq⟩ := dec_chk9 h; clear h; subst e0; subst e1; subst e2; subst e3; subst e4; subst e5; subst e6; subst e7; subst e8; have h := hq; clear hq; cases h; rfl) | cases h) (slices_IndexFunc_lI_Task_I_Task_m7_ev k)
def o_slices_IndexFunc_lI_Task_I_Task_m7 (k : Nat) : Orc := mutOrc [.keep, .keep] (slices_IndexFunc_lI_Task_I_Task_m7_G k)
theorem o_slices_IndexFunc_lI_Task_I_Task_m7_ok (k : Nat) : OrcOk Try.prog 167 (o_slices_IndexFunc_lI_Task_I_Task_m7 k) := mutOrc_ok (slices_IndexFunc_lI_Task_I_Task_m7_ok k)
/-! ### 169 slices.DeleteFunc[[]loop.example/g00778/impl.Task,loop.example/g00778/impl.Task] -/
noncomputable def E_slices_DeleteFunc_lI_Task_I_Task_m6 (k : Nat) : Env := { P := Try.prog, tt := tt, orc := fun g => cond (Nat.beq g 167) (o_slices_IndexFunc_lI_Task_I_Task_m7 k) (cond (Nat.beq g 205) (o_I_Sched_first_c1_m2 k) (noOrc)), wr := fun g => mem g [167, 205], wt := true }
theorem E_slices_DeleteFunc_lI_Task_I_Task_m6_ok (k : Nat) : EnvOk (E_slices_DeleteFunc_lI_Task_I_Task_m6 k) := fun g => (orc_cond (o_slices_IndexFunc_lI_Task_I_Task_m7_ok k) (orc_cond (o_I_Sched_first_c1_m2_ok k) (noOrc_ok _ _)))
noncomputable def c_slices_DeleteFunc_lI_Task_I_Task_m6 : Code := (Try.f169.body).getD .skip
noncomputable def b_slices_DeleteFunc_lI_Task_I_Task_m6_0 : Code := ((loopsIn 0 c_slices_DeleteFunc_lI_Task_I_Task_m6).getD 0 (0, .skip)).2
def slices_DeleteFunc_lI_Task_I_Task_m6_g0_keep : List Nat := [0, 1, 5, 6]
def slices_DeleteFunc_lI_Task_I_Task_m6_g0_co : List (Where × Co) := []
def slices_DeleteFunc_lI_Task_I_Task_m6_g0_kx : Ex → List Nat
  | .exit j => cond (Nat.beq j 0) [0, 5] []
  | .ret => []
  | .normal => []
def slices_DeleteFunc_lI_Task_I_Task_m6_g0_cx : Ex → List (Where × Co)
  | .exit j => cond (Nat.beq j 0) [] []
  | .ret => []
  | .normal => []
def slices_DeleteFunc_lI_Task_I_Task_m6_g0_tm (pv : (Int × Int × Int × List Task × Int × Int × Int × Int) × (Int × Int × List Task)) : St := { slots := [(0, .own 0), (1, .fn (.func 205) [] [.ptr 1 0 0]), (5, .r [] (.int .i64 pv.2.1)), (6, .r [] (.int .i64 pv.2.2.1))], heap := [(0, .arr (some []) (.st .task) pv.2.2.2), (1, .box [.fn (.func 146) [.agg [.r [] (.int .i64 pv.1.1), .r [] (.int .i64 pv.1.2.1), .r [] (.int .i64 pv.1.2.2.1), .r [] (.sl (.st .task) pv.1.2.2.2.1), .r [] (.int .i64 pv.1.2.2.2.2.1), .r [] (.int .i64 pv.1.2.2.2.2.2.1), .r [] (.int .i64 pv.1.2.2.2.2.2.2.1), .r [] (.int .i64 pv.1.2.2.2.2.2.2.2)]] []])], nid := 2, n := 42, gh := [some 0, some 1] }
def slices_DeleteFunc_lI_Task_I_Task_m6_g0_dec (nf : NF) : Option ((Int × Int × Int × List Task × Int × Int × Int × Int) × (Int × Int × List Task)) := match nf with
  | ([.own 0, .fn (.func 205) [] [.ptr 1 0 0], .r [] (.int .i64 w0), .r [] (.int .i64 w1)], [.arr (some []) (.st .task) w2, .box [.fn (.func 146) [.agg [.r [] (.int .i64 w3), .r [] (.int .i64 w4), .r [] (.int .i64 w5), .r [] (.sl (.st .task) w6), .r [] (.int .i64 w7), .r [] (.int .i64 w8), .r [] (.int .i64 w9), .r [] (.int .i64 w10)]] []]], [some 0, some 1]) => some ((w3, w4, w5, w6, w7, w8, w9, w10), (w0, w1, w2))
  | _ => none
theorem slices_DeleteFunc_lI_Task_I_Task_m6_g0_hd (nf : NF) (v : (Int × Int × Int × List Task × Int × Int × Int × Int) × (Int × Int × List Task)) (h : slices_DeleteFunc_lI_Task_I_Task_m6_g0_dec nf = some v) : denorm slices_DeleteFunc_lI_Task_I_Task_m6_g0_keep 42 nf = slices_DeleteFunc_lI_Task_I_Task_m6_g0_tm v := by
  unfold slices_DeleteFunc_lI_Task_I_Task_m6_g0_dec at h
  split at h
  · cases h; rfl
  · cases h
def slices_DeleteFunc_lI_Task_I_Task_m6_g0_x0 (p : Int × Int × Int × List Task × Int × Int × Int × Int) (x : Int × List Task) : St := { slots := [(0, .own 0), (5, .r [] (.int .i64 x.1))], heap := [(0, .arr (some []) (.st .task) x.2), (1, .box [.fn (.func 146) [.agg [.r [] (.int .i64 p.1), .r [] (.int .i64 p.2.1), .r [] (.int .i64 p.2.2.1), .r [] (.sl (.st .task) p.2.2.2.1), .r [] (.int .i64 p.2.2.2.2.1), .r [] (.int .i64 p.2.2.2.2.2.1), .r [] (.int .i64 p.2.2.2.2.2.2.1), .r [] (.int .i64 p.2.2.2.2.2.2.2)]] []])], nid := 2, n := 42, gh := [some 0, some 1] }
def LP_slices_DeleteFunc_lI_Task_I_Task_m6 (ρ : Type) (k : Nat) : Nat → Ev ρ → Ev ρ := fun id f => cond (Nat.beq id 0) (loopOrc slices_DeleteFunc_lI_Task_I_Task_m6_g0_keep slices_DeleteFunc_lI_Task_I_Task_m6_g0_co (fun n nf => cond (Nat.beq n 42) (slices_DeleteFunc_lI_Task_I_Task_m6_g0_dec nf) none) fun pv K => iter (fun v next => slices_DeleteFunc_lI_Task_I_Task_m6_g0 k pv.1 v next (fun x => K (.exit 0) (slices_DeleteFunc_lI_Task_I_Task_m6_g0_x0 pv.1 x))) k pv.2) ((fun _ _ _ _ => none) id f)
theorem slices_DeleteFunc_lI_Task_I_Task_m6_g0_round {ρ : Type} (k : Nat) (p : Int × Int × Int × List Task × Int × Int × Int × Int) (v : Int × Int × List Task) (K K1 : Ex → St → Option ρ) : ev (E_slices_DeleteFunc_lI_Task_I_Task_m6 k) (LP_slices_DeleteFunc_lI_Task_I_Task_m6 ρ k) 0 b_slices_DeleteFunc_lI_Task_I_Task_m6_0 (slices_DeleteFunc_lI_Task_I_Task_m6_g0_tm (p, v)) (fun e st' => match e with
    | .normal => (normC slices_DeleteFunc_lI_Task_I_Task_m6_g0_keep slices_DeleteFunc_lI_Task_I_Task_m6_g0_co st').bind fun nf => K1 .normal (denorm slices_DeleteFunc_lI_Task_I_Task_m6_g0_keep st'.n nf)
    | e => (normC (slices_DeleteFunc_lI_Task_I_Task_m6_g0_kx e) (slices_DeleteFunc_lI_Task_I_Task_m6_g0_cx e) st').bind fun nf => K e (denorm (slices_DeleteFunc_lI_Task_I_Task_m6_g0_kx e) st'.n nf)) = slices_DeleteFunc_lI_Task_I_Task_m6_g0 k p v (fun v' => K1 .normal (slices_DeleteFunc_lI_Task_I_Task_m6_g0_tm (p, v'))) (fun x => K (.exit 0) (slices_DeleteFunc_lI_Task_I_Task_m6_g0_x0 p x)) := by kernel_rfl
theorem slices_DeleteFunc_lI_Task_I_Task_m6_g0_ok {ρ : Type} (k : Nat) : Sound Try.prog (.loop b_slices_DeleteFunc_lI_Task_I_Task_m6_0) (LP_slices_DeleteFunc_lI_Task_I_Task_m6 ρ k 0 fun st K => ev (E_slices_DeleteFunc_lI_Task_I_Task_m6 k) (LP_slices_DeleteFunc_lI_Task_I_Task_m6 ρ k) 0 b_slices_DeleteFunc_lI_Task_I_Task_m6_0 st K) :=
  loop_ok (ev_sound (E_slices_DeleteFunc_lI_Task_I_Task_m6_ok k) b_slices_DeleteFunc_lI_Task_I_Task_m6_0 0 (lpgood_none (by kernel_rfl))) slices_DeleteFunc_lI_Task_I_Task_m6_g0_kx slices_DeleteFunc_lI_Task_I_Task_m6_g0_cx k (g := fun p v next K => slices_DeleteFunc_lI_Task_I_Task_m6_g0 k p v next (fun x => K (.exit 0) (slices_DeleteFunc_lI_Task_I_Task_m6_g0_x0 p x))) (dec_at slices_DeleteFunc_lI_Task_I_Task_m6_g0_hd) (fun p v K K1 => slices_DeleteFunc_lI_Task_I_Task_m6_g0_round k p v K K1)
def slices_DeleteFunc_lI_Task_I_Task_m6_args (a : List Task × Sched) : List SV := [.own 0, .fn (.func 205) [] [.ptr 1 0 0]]
def slices_DeleteFunc_lI_Task_I_Task_m6_blks (a : List Task × Sched) : List Blk := [.arr (some []) (.st .task) a.1, .box [.fn (.func 146) [.agg [.r [] (.int .i64 a.2.now), .r [] (.int .i64 a.2.slack), .r [] (.int .i64 a.2.age), .r [] (.sl (.st .task) a.2.tasks), .r [] (.int .i64 a.2.run), .r [] (.int .i64 a.2.left), .r [] (.int .i64 a.2.turns), .r [] (.int .i64 a.2.next)]] []]]
def slices_DeleteFunc_lI_Task_I_Task_m6_argD (l : List SV) (b : List Blk) : Option (List Task × Sched) := match l, b with
  | [.own 0, .fn (.func 205) [] [.ptr 1 0 0]], [.arr (some []) (.st .task) w0, .box [.fn (.func 146) [.agg [.r [] (.int .i64 w1), .r [] (.int .i64 w2), .r [] (.int .i64 w3), .r [] (.sl (.st .task) w4), .r [] (.int .i64 w5), .r [] (.int .i64 w6), .r [] (.int .i64 w7), .r [] (.int .i64 w8)]] []]] => some (w0, (⟨w1, w2, w3, w4, w5, w6, w7, w8⟩ : Sched))
  | _, _ => none
def slices_DeleteFunc_lI_Task_I_Task_m6_enc (a : List Task × Sched) (r : List Task) : MOut := ⟨.own 2, [none, some (.box [.fn (.func 146) [.agg [.r [] (.int .i64 a.2.now), .r [] (.int .i64 a.2.slack), .r [] (.int .i64 a.2.age), .r [] (.sl (.st .task) a.2.tasks), .r [] (.int .i64 a.2.run), .r [] (.int .i64 a.2.left), .r [] (.int .i64 a.2.turns), .r [] (.int .i64 a.2.next)]] []])], [.arr (some []) (.st .task) r]⟩
def slices_DeleteFunc_lI_Task_I_Task_m6_dec (a : List Task × Sched) (o : MOut) : Option (List Task) := match o with
  | ⟨.own 2, [none, some (.box [.fn (.func 146) [.agg [.r [] (.int .i64 z1), .r [] (.int .i64 z2), .r [] (.int .i64 z3), .r [] (.sl (.st .task) z4), .r [] (.int .i64 z5), .r [] (.int .i64 z6), .r [] (.int .i64 z7), .r [] (.int .i64 z8)]] []])], [.arr (some []) (.st .task) z9]⟩ => cond (@sameL Int _ z1 a.2.now) (cond (@sameL Int _ z2 a.2.slack) (cond (@sameL Int _ z3 a.2.age) (cond (@sameL (List Task) _ z4 a.2.tasks) (cond (@sameL Int _ z5 a.2.run) (cond (@sameL Int _ z6 a.2.left) (cond (@sameL Int _ z7 a.2.turns) (cond (@sameL Int _ z8 a.2.next) (some z9) none) none) none) none) none) none) none) none
  | _ => none
def slices_DeleteFunc_lI_Task_I_Task_m6_G (k : Nat) : MG := fun _ l b K => (slices_DeleteFunc_lI_Task_I_Task_m6_argD l b).bind fun a => (slices_DeleteFunc_lI_Task_I_Task_m6 k a.1 a.2).bind fun r => K (slices_DeleteFunc_lI_Task_I_Task_m6_enc a r)
theorem slices_DeleteFunc_lI_Task_I_Task_m6_ev (k : Nat) (a : List Task × Sched) : ev (E_slices_DeleteFunc_lI_Task_I_Task_m6 k) (LP_slices_DeleteFunc_lI_Task_I_Task_m6 (List Task) k) 0 c_slices_DeleteFunc_lI_Task_I_Task_m6 (st0M Try.f169 (slices_DeleteFunc_lI_Task_I_Task_m6_args a) (slices_DeleteFunc_lI_Task_I_Task_m6_blks a)) (finM Try.prog Try.f169 (.shl (.st .task)) [.gone, .box [.fn [.agg [.sc, .sc, .sc, .ro (.st .task), .sc, .sc, .sc, .sc]] []]] (slices_DeleteFunc_lI_Task_I_Task_m6_dec a)) = slices_DeleteFunc_lI_Task_I_Task_m6 k a.1 a.2 := by kernel_rfl
theorem slices_DeleteFunc_lI_Task_I_Task_m6_ok (k : Nat) : MutOk Try.prog 169 (slices_DeleteFunc_lI_Task_I_Task_m6_G k) :=
  mutOk_of_ev (E_slices_DeleteFunc_lI_Task_I_Task_m6_ok k) Try.func169 (by kernel_rfl) (by kernel_rfl) slices_DeleteFunc_lI_Task_I_Task_m6_args slices_DeleteFunc_lI_Task_I_Task_m6_blks slices_DeleteFunc_lI_Task_I_Task_m6_argD
    (fun l b a h => by unfold slices_DeleteFunc_lI_Task_I_Task_m6_argD at h; split at h <;> first | (cases h; exact ⟨rfl, rfl⟩) | cases h) (fun a => rfl) (lpgood_of (l := [(0, b_slices_DeleteFunc_lI_Task_I_Task_m6_0)]) (by kernel_rfl) ⟨slices_DeleteFunc_lI_Task_I_Task_m6_g0_ok k, trivial⟩) (fun a r => rfl)
    (fun a o r h => by unfold slices_DeleteFunc_lI_Task_I_Task_m6_dec at h; split at h <;> first | (obtain ⟨e0, e1, e2, e3, e4, e5, e6, e7, hq⟩ := dec_chk8 h; clear h; subst e0; subst e1; subst e2; subst e3; subst e4; subst e5; subst e6; subst e7; have h := hq; clear hq; cases h; rfl) | cases h) (slices_DeleteFunc_lI_Task_I_Task_m6_ev k)
def o_slices_DeleteFunc_lI_Task_I_Task_m6 (k : Nat) : Orc := mutOrc [.keep, .keep] (slices_DeleteFunc_lI_Task_I_Task_m6_G k)
theorem o_slices_DeleteFunc_lI_Task_I_Task_m6_ok (k : Nat) : OrcOk Try.prog 169 (o_slices_DeleteFunc_lI_Task_I_Task_m6 k) := mutOrc_ok (slices_DeleteFunc_lI_Task_I_Task_m6_ok k)
/-! ### 198 (loop.example/g00778/impl.Sched).pick$1 -/
noncomputable def E_I_Sched_pick_c1 (k : Nat) : Env := { P := Try.prog, tt := tt, orc := fun g => noOrc }
theorem E_I_Sched_pick_c1_ok (k : Nat) : EnvOk (E_I_Sched_pick_c1 k) := fun g => (noOrc_ok _ _)
noncomputable def c_I_Sched_pick_c1 : Code := (Try.f198.body).getD .skip
def LP_I_Sched_pick_c1 (ρ : Type) (k : Nat) : Nat → Ev ρ → Ev ρ := fun _ _ _ _ => none
def I_Sched_pick_c1_args (a : Task) : List Arg := [.agg [.int .i64 a.id, .sl (.int .i64) a.costs, .int .i64 a.at_, .int .i64 a.due, .int .i64 a.born]]
def I_Sched_pick_c1_argD (l : List Arg) : Option (Task) := match l with
  | [.agg [.int .i64 b0_0, .sl (.int .i64) b0_1, .int .i64 b0_2, .int .i64 b0_3, .int .i64 b0_4]] => some (⟨b0_0, b0_1, b0_2, b0_3, b0_4⟩ : Task)
  | _ => none
def I_Sched_pick_c1_enc (r : Int) : Out := (.r [] (.int .i64 r), [])
def I_Sched_pick_c1_dec (o : Out) : Option (Int) := match o with
  | (.r [] (.int .i64 z1), []) => some z1
  | _ => none
def I_Sched_pick_c1_G (k : Nat) : PG := fun _ l K => (I_Sched_pick_c1_argD l).bind fun a => (I_Sched_pick_c1 k a).bind fun r => K (I_Sched_pick_c1_enc r)
theorem I_Sched_pick_c1_ev (k : Nat) (a : Task) : ev (E_I_Sched_pick_c1 k) (LP_I_Sched_pick_c1 (Int) k) 0 c_I_Sched_pick_c1 (st0 Try.f198 (I_Sched_pick_c1_args a)) (fin Try.prog Try.f198 (.sc) I_Sched_pick_c1_dec) = I_Sched_pick_c1 k a := by kernel_rfl
theorem I_Sched_pick_c1_ok (k : Nat) : PureOk Try.prog 198 (I_Sched_pick_c1_G k) :=
  pureOk_of_ev (E_I_Sched_pick_c1_ok k) Try.func198 (by kernel_rfl) (by kernel_rfl) I_Sched_pick_c1_args I_Sched_pick_c1_argD
    (fun l a h => by unfold I_Sched_pick_c1_argD at h; split at h <;> first | (cases h; rfl) | cases h) (fun a => rfl) (lpgood_none (by kernel_rfl))
    (fun o r h => by unfold I_Sched_pick_c1_dec at h; split at h <;> first | (cases h; rfl) | cases h) (I_Sched_pick_c1_ev k)
def o_I_Sched_pick_c1 (k : Nat) : Orc := pureOrc [.agg [(.int .i64), (.sl (.int .i64)), (.int .i64), (.int .i64), (.int .i64)]] (I_Sched_pick_c1_G k)
theorem o_I_Sched_pick_c1_ok (k : Nat) : OrcOk Try.prog 198 (o_I_Sched_pick_c1 k) := pureOrc_ok (I_Sched_pick_c1_ok k)
/-! ### 180 cmp.isNaN[int] -/
noncomputable def E_cmp_isNaN_int (k : Nat) : Env := { P := Try.prog, tt := tt, orc := fun g => noOrc }
theorem E_cmp_isNaN_int_ok (k : Nat) : EnvOk (E_cmp_isNaN_int k) := fun g => (noOrc_ok _ _)
noncomputable def c_cmp_isNaN_int : Code := (Try.f180.body).getD .skip
def LP_cmp_isNaN_int (ρ : Type) (k : Nat) : Nat → Ev ρ → Ev ρ := fun _ _ _ _ => none
def cmp_isNaN_int_args (a : Int) : List Arg := [.one (.int .i64 a)]
def cmp_isNaN_int_argD (l : List Arg) : Option (Int) := match l with
  | [.one (.int .i64 b0)] => some b0
  | _ => none
def cmp_isNaN_int_enc (r : Bool) : Out := (.r [] (.bool r), [])
def cmp_isNaN_int_dec (o : Out) : Option (Bool) := match o with
  | (.r [] (.bool z1), []) => some z1
  | _ => none
def cmp_isNaN_int_G (k : Nat) : PG := fun _ l K => (cmp_isNaN_int_argD l).bind fun a => (cmp_isNaN_int k a).bind fun r => K (cmp_isNaN_int_enc r)
theorem cmp_isNaN_int_ev (k : Nat) (a : Int) : ev (E_cmp_isNaN_int k) (LP_cmp_isNaN_int (Bool) k) 0 c_cmp_isNaN_int (st0 Try.f180 (cmp_isNaN_int_args a)) (fin Try.prog Try.f180 (.sc) cmp_isNaN_int_dec) = cmp_isNaN_int k a := by kernel_rfl
theorem cmp_isNaN_int_ok (k : Nat) : PureOk Try.prog 180 (cmp_isNaN_int_G k) :=
  pureOk_of_ev (E_cmp_isNaN_int_ok k) Try.func180 (by kernel_rfl) (by kernel_rfl) cmp_isNaN_int_args cmp_isNaN_int_argD
    (fun l a h => by unfold cmp_isNaN_int_argD at h; split at h <;> first | (cases h; rfl) | cases h) (fun a => rfl) (lpgood_none (by kernel_rfl))
    (fun o r h => by unfold cmp_isNaN_int_dec at h; split at h <;> first | (cases h; rfl) | cases h) (cmp_isNaN_int_ev k)
def o_cmp_isNaN_int (k : Nat) : Orc := pureOrc [.one (.int .i64)] (cmp_isNaN_int_G k)
theorem o_cmp_isNaN_int_ok (k : Nat) : OrcOk Try.prog 180 (o_cmp_isNaN_int k) := pureOrc_ok (cmp_isNaN_int_ok k)
/-! ### 136 cmp.Compare[int] -/
noncomputable def E_cmp_Compare_int (k : Nat) : Env := { P := Try.prog, tt := tt, orc := fun g => cond (Nat.beq g 180) (o_cmp_isNaN_int k) (noOrc) }
theorem E_cmp_Compare_int_ok (k : Nat) : EnvOk (E_cmp_Compare_int k) := fun g => (orc_cond (o_cmp_isNaN_int_ok k) (noOrc_ok _ _))
noncomputable def c_cmp_Compare_int : Code := (Try.f136.body).getD .skip
def LP_cmp_Compare_int (ρ : Type) (k : Nat) : Nat → Ev ρ → Ev ρ := fun _ _ _ _ => none
def cmp_Compare_int_args (a : Int × Int) : List Arg := [.one (.int .i64 a.1), .one (.int .i64 a.2)]
def cmp_Compare_int_argD (l : List Arg) : Option (Int × Int) := match l with
  | [.one (.int .i64 b0), .one (.int .i64 b1)] => some (b0, b1)
  | _ => none
def cmp_Compare_int_enc (r : Int) : Out := (.r [] (.int .i64 r), [])
def cmp_Compare_int_dec (o : Out) : Option (Int) := match o with
  | (.r [] (.int .i64 z1), []) => some z1
  | _ => none
def cmp_Compare_int_G (k : Nat) : PG := fun _ l K => (cmp_Compare_int_argD l).bind fun a => (cmp_Compare_int k a.1 a.2).bind fun r => K (cmp_Compare_int_enc r)
theorem cmp_Compare_int_ev (k : Nat) (a : Int × Int) : ev (E_cmp_Compare_int k) (LP_cmp_Compare_int (Int) k) 0 c_cmp_Compare_int (st0 Try.f136 (cmp_Compare_int_args a)) (fin Try.prog Try.f136 (.sc) cmp_Compare_int_dec) = cmp_Compare_int k a.1 a.2 := by kernel_rfl
theorem cmp_Compare_int_ok (k : Nat) : PureOk Try.prog 136 (cmp_Compare_int_G k) :=
  pureOk_of_ev (E_cmp_Compare_int_ok k) Try.func136 (by kernel_rfl) (by kernel_rfl) cmp_Compare_int_args cmp_Compare_int_argD
    (fun l a h => by unfold cmp_Compare_int_argD at h; split at h <;> first | (cases h; rfl) | cases h) (fun a => rfl) (lpgood_none (by kernel_rfl))
    (fun o r h => by unfold cmp_Compare_int_dec at h; split at h <;> first | (cases h; rfl) | cases h) (cmp_Compare_int_ev k)
def o_cmp_Compare_int (k : Nat) : Orc := pureOrc [.one (.int .i64), .one (.int .i64)] (cmp_Compare_int_G k)
theorem o_cmp_Compare_int_ok (k : Nat) : OrcOk Try.prog 136 (o_cmp_Compare_int k) := pureOrc_ok (cmp_Compare_int_ok k)
/-! ### 208 cmp.Or[int] -/
noncomputable def E_cmp_Or_int (k : Nat) : Env := { P := Try.prog, tt := tt, orc := fun g => noOrc }
theorem E_cmp_Or_int_ok (k : Nat) : EnvOk (E_cmp_Or_int k) := fun g => (noOrc_ok _ _)
noncomputable def c_cmp_Or_int : Code := (Try.f208.body).getD .skip
noncomputable def b_cmp_Or_int_0 : Code := ((loopsIn 0 c_cmp_Or_int).getD 0 (0, .skip)).2
def cmp_Or_int_g0_keep : List Nat := [3, 6, 7, 8]
def cmp_Or_int_g0_co : List (Where × Co) := []
def cmp_Or_int_g0_kx : Ex → List Nat
  | .exit j => cond (Nat.beq j 0) [3] []
  | .ret => [2]
  | .normal => []
def cmp_Or_int_g0_cx : Ex → List (Where × Co)
  | .exit j => cond (Nat.beq j 0) [] []
  | .ret => []
  | .normal => []
def cmp_Or_int_g0_tm (pv : (Int × List Int × Int) × (Int)) : St := { slots := [(3, .r [] (.int .i64 pv.1.1)), (6, .r [] (.sl (.int .i64) pv.1.2.1)), (7, .r [] (.int .i64 pv.1.2.2)), (8, .r [] (.int .i64 pv.2))], heap := [], nid := 0, n := 18, gh := [] }
def cmp_Or_int_g0_dec (nf : NF) : Option ((Int × List Int × Int) × (Int)) := match nf with
  | ([.r [] (.int .i64 w0), .r [] (.sl (.int .i64) w1), .r [] (.int .i64 w2), .r [] (.int .i64 w3)], [], []) => some ((w0, w1, w2), w3)
  | _ => none
theorem cmp_Or_int_g0_hd (nf : NF) (v : (Int × List Int × Int) × (Int)) (h : cmp_Or_int_g0_dec nf = some v) : denorm cmp_Or_int_g0_keep 18 nf = cmp_Or_int_g0_tm v := by
  unfold cmp_Or_int_g0_dec at h
  split at h
  · cases h; rfl
  · cases h
def cmp_Or_int_g0_x0 (p : Int × List Int × Int) (x : Unit) : St := { slots := [(3, .r [] (.int .i64 p.1))], heap := [], nid := 0, n := 18, gh := [] }
def cmp_Or_int_g0_xret (p : Int × List Int × Int) (x : Int) : St := { slots := [(2, .r [] (.int .i64 x))], heap := [], nid := 0, n := 18, gh := [] }
def LP_cmp_Or_int (ρ : Type) (k : Nat) : Nat → Ev ρ → Ev ρ := fun id f => cond (Nat.beq id 0) (loopOrc cmp_Or_int_g0_keep cmp_Or_int_g0_co (fun n nf => cond (Nat.beq n 18) (cmp_Or_int_g0_dec nf) none) fun pv K => iter (fun v next => cmp_Or_int_g0 k pv.1 v next (fun x => K (.exit 0) (cmp_Or_int_g0_x0 pv.1 x)) (fun x => K .ret (cmp_Or_int_g0_xret pv.1 x))) k pv.2) ((fun _ _ _ _ => none) id f)
theorem cmp_Or_int_g0_round {ρ : Type} (k : Nat) (p : Int × List Int × Int) (v : Int) (K K1 : Ex → St → Option ρ) : ev (E_cmp_Or_int k) (LP_cmp_Or_int ρ k) 0 b_cmp_Or_int_0 (cmp_Or_int_g0_tm (p, v)) (fun e st' => match e with
    | .normal => (normC cmp_Or_int_g0_keep cmp_Or_int_g0_co st').bind fun nf => K1 .normal (denorm cmp_Or_int_g0_keep st'.n nf)
    | e => (normC (cmp_Or_int_g0_kx e) (cmp_Or_int_g0_cx e) st').bind fun nf => K e (denorm (cmp_Or_int_g0_kx e) st'.n nf)) = cmp_Or_int_g0 k p v (fun v' => K1 .normal (cmp_Or_int_g0_tm (p, v'))) (fun x => K (.exit 0) (cmp_Or_int_g0_x0 p x)) (fun x => K .ret (cmp_Or_int_g0_xret p x)) := by kernel_rfl
theorem cmp_Or_int_g0_ok {ρ : Type} (k : Nat) : Sound Try.prog (.loop b_cmp_Or_int_0) (LP_cmp_Or_int ρ k 0 fun st K => ev (E_cmp_Or_int k) (LP_cmp_Or_int ρ k) 0 b_cmp_Or_int_0 st K) :=
  loop_ok (ev_sound (E_cmp_Or_int_ok k) b_cmp_Or_int_0 0 (lpgood_none (by kernel_rfl))) cmp_Or_int_g0_kx cmp_Or_int_g0_cx k (g := fun p v next K => cmp_Or_int_g0 k p v next (fun x => K (.exit 0) (cmp_Or_int_g0_x0 p x)) (fun x => K .ret (cmp_Or_int_g0_xret p x))) (dec_at cmp_Or_int_g0_hd) (fun p v K K1 => cmp_Or_int_g0_round k p v K K1)
def cmp_Or_int_args (a : List Int) : List Arg := [.one (.sl (.int .i64) a)]
def cmp_Or_int_argD (l : List Arg) : Option (List Int) := match l with
  | [.one (.sl (.int .i64) b0)] => some b0
  | _ => none
def cmp_Or_int_enc (r : Int) : Out := (.r [] (.int .i64 r), [])
def cmp_Or_int_dec (o : Out) : Option (Int) := match o with
  | (.r [] (.int .i64 z1), []) => some z1
  | _ => none
def cmp_Or_int_G (k : Nat) : PG := fun _ l K => (cmp_Or_int_argD l).bind fun a => (cmp_Or_int k a).bind fun r => K (cmp_Or_int_enc r)
theorem cmp_Or_int_ev (k : Nat) (a : List Int) : ev (E_cmp_Or_int k) (LP_cmp_Or_int (Int) k) 0 c_cmp_Or_int (st0 Try.f208 (cmp_Or_int_args a)) (fin Try.prog Try.f208 (.sc) cmp_Or_int_dec) = cmp_Or_int k a := by kernel_rfl
theorem cmp_Or_int_ok (k : Nat) : PureOk Try.prog 208 (cmp_Or_int_G k) :=
  pureOk_of_ev (E_cmp_Or_int_ok k) Try.func208 (by kernel_rfl) (by kernel_rfl) cmp_Or_int_args cmp_Or_int_argD
    (fun l a h => by unfold cmp_Or_int_argD at h; split at h <;> first | (cases h; rfl) | cases h) (fun a => rfl) (lpgood_of (l := [(0, b_cmp_Or_int_0)]) (by kernel_rfl) ⟨cmp_Or_int_g0_ok k, trivial⟩)
    (fun o r h => by unfold cmp_Or_int_dec at h; split at h <;> first | (cases h; rfl) | cases h) (cmp_Or_int_ev k)
def o_cmp_Or_int (k : Nat) : Orc := pureOrc [.one (.sl (.int .i64))] (cmp_Or_int_G k)
theorem o_cmp_Or_int_ok (k : Nat) : OrcOk Try.prog 208 (o_cmp_Or_int k) := pureOrc_ok (cmp_Or_int_ok k)
/-! ### 207 (loop.example/g00778/impl.Sched).first$2 -/
noncomputable def E_I_Sched_first_c2_m (k : Nat) : Env := { P := Try.prog, tt := tt, orc := fun g => cond (Nat.beq g 136) (o_cmp_Compare_int k) (cond (Nat.beq g 198) (o_I_Sched_pick_c1 k) (cond (Nat.beq g 208) (o_cmp_Or_int k) (noOrc))) }
theorem E_I_Sched_first_c2_m_ok (k : Nat) : EnvOk (E_I_Sched_first_c2_m k) := fun g => (orc_cond (o_cmp_Compare_int_ok k) (orc_cond (o_I_Sched_pick_c1_ok k) (orc_cond (o_cmp_Or_int_ok k) (noOrc_ok _ _))))
noncomputable def c_I_Sched_first_c2_m : Code := (Try.f207.body).getD .skip
def LP_I_Sched_first_c2_m (ρ : Type) (k : Nat) : Nat → Ev ρ → Ev ρ := fun _ _ _ _ => none
def I_Sched_first_c2_m_args (a : Task × Task) : List SV := [.agg [.r [] (.int .i64 a.1.id), .r [] (.sl (.int .i64) a.1.costs), .r [] (.int .i64 a.1.at_), .r [] (.int .i64 a.1.due), .r [] (.int .i64 a.1.born)], .agg [.r [] (.int .i64 a.2.id), .r [] (.sl (.int .i64) a.2.costs), .r [] (.int .i64 a.2.at_), .r [] (.int .i64 a.2.due), .r [] (.int .i64 a.2.born)], .ptr 0 0 0]
def I_Sched_first_c2_m_blks (a : Task × Task) : List Blk := [.box [.fn (.func 198) [] []]]
def I_Sched_first_c2_m_argD (l : List SV) (b : List Blk) : Option (Task × Task) := match l, b with
  | [.agg [.r [] (.int .i64 w0), .r [] (.sl (.int .i64) w1), .r [] (.int .i64 w2), .r [] (.int .i64 w3), .r [] (.int .i64 w4)], .agg [.r [] (.int .i64 w5), .r [] (.sl (.int .i64) w6), .r [] (.int .i64 w7), .r [] (.int .i64 w8), .r [] (.int .i64 w9)], .ptr 0 0 0], [.box [.fn (.func 198) [] []]] => some ((⟨w0, w1, w2, w3, w4⟩ : Task), (⟨w5, w6, w7, w8, w9⟩ : Task))
  | _, _ => none
def I_Sched_first_c2_m_enc (a : Task × Task) (r : Int) : MOut := ⟨.r [] (.int .i64 r), [some (.box [.fn (.func 198) [] []])], []⟩
def I_Sched_first_c2_m_dec (a : Task × Task) (o : MOut) : Option (Int) := match o with
  | ⟨.r [] (.int .i64 z1), [some (.box [.fn (.func 198) [] []])], []⟩ => some z1
  | _ => none
def I_Sched_first_c2_m_G (k : Nat) : MG := fun _ l b K => (I_Sched_first_c2_m_argD l b).bind fun a => (I_Sched_first_c2_m k a.1 a.2).bind fun r => K (I_Sched_first_c2_m_enc a r)
theorem I_Sched_first_c2_m_ev (k : Nat) (a : Task × Task) : ev (E_I_Sched_first_c2_m k) (LP_I_Sched_first_c2_m (Int) k) 0 c_I_Sched_first_c2_m (st0M Try.f207 (I_Sched_first_c2_m_args a) (I_Sched_first_c2_m_blks a)) (finM Try.prog Try.f207 (.sc) [.box [.fn [] []]] (I_Sched_first_c2_m_dec a)) = I_Sched_first_c2_m k a.1 a.2 := by kernel_rfl
theorem I_Sched_first_c2_m_ok (k : Nat) : MutOk Try.prog 207 (I_Sched_first_c2_m_G k) :=
  mutOk_of_ev (E_I_Sched_first_c2_m_ok k) Try.func207 (by kernel_rfl) (by kernel_rfl) I_Sched_first_c2_m_args I_Sched_first_c2_m_blks I_Sched_first_c2_m_argD
    (fun l b a h => by unfold I_Sched_first_c2_m_argD at h; split at h <;> first | (cases h; exact ⟨rfl, rfl⟩) | cases h) (fun a => rfl) (lpgood_none (by kernel_rfl)) (fun a r => rfl)
    (fun a o r h => by unfold I_Sched_first_c2_m_dec at h; split at h <;> first | (skip; cases h; rfl) | cases h) (I_Sched_first_c2_m_ev k)
def o_I_Sched_first_c2_m (k : Nat) : Orc := mutOrc [.agg [(.int .i64), (.sl (.int .i64)), (.int .i64), (.int .i64), (.int .i64)], .agg [(.int .i64), (.sl (.int .i64)), (.int .i64), (.int .i64), (.int .i64)], .keep] (I_Sched_first_c2_m_G k)
theorem o_I_Sched_first_c2_m_ok (k : Nat) : OrcOk Try.prog 207 (o_I_Sched_first_c2_m k) := mutOrc_ok (I_Sched_first_c2_m_ok k)
/-! ### 206 slices.MinFunc[[]loop.example/g00778/impl.Task,loop.example/g00778/impl.Task] -/
noncomputable def E_slices_MinFunc_lI_Task_I_Task_m (k : Nat) : Env := { P := Try.prog, tt := tt, orc := fun g => cond (Nat.beq g 207) (o_I_Sched_first_c2_m k) (noOrc), wr := fun g => mem g [207], wt := true }
theorem E_slices_MinFunc_lI_Task_I_Task_m_ok (k : Nat) : EnvOk (E_slices_MinFunc_lI_Task_I_Task_m k) := fun g => (orc_cond (o_I_Sched_first_c2_m_ok k) (noOrc_ok _ _))
noncomputable def c_slices_MinFunc_lI_Task_I_Task_m : Code := (Try.f206.body).getD .skip
noncomputable def b_slices_MinFunc_lI_Task_I_Task_m_0 : Code := ((loopsIn 0 c_slices_MinFunc_lI_Task_I_Task_m).getD 0 (0, .skip)).2
def slices_MinFunc_lI_Task_I_Task_m_g0_keep : List Nat := [0, 1, 4, 5, 6]
def slices_MinFunc_lI_Task_I_Task_m_g0_co : List (Where × Co) := []
def slices_MinFunc_lI_Task_I_Task_m_g0_kx : Ex → List Nat
  | .exit j => cond (Nat.beq j 0) [4, 5] []
  | .ret => []
  | .normal => []
def slices_MinFunc_lI_Task_I_Task_m_g0_cx : Ex → List (Where × Co)
  | .exit j => cond (Nat.beq j 0) [] []
  | .ret => []
  | .normal => []
def slices_MinFunc_lI_Task_I_Task_m_g0_tm (pv : (List Task × Int × Int × Int × Int) × (Int × Int × List Int × Int × Int × Int)) : St := { slots := [(0, .r [] (.sl (.st .task) pv.1.1)), (1, .fn (.func 207) [] [.ptr 0 0 0]), (4, .ptr 1 0 0), (5, .ptr 2 0 0), (6, .r [] (.int .i64 pv.2.1))], heap := [(0, .box [.fn (.func 198) [] []]), (1, .box [.r [] (.int .i64 pv.1.2.1), .nilS, .r [] (.int .i64 pv.1.2.2.1), .r [] (.int .i64 pv.1.2.2.2.1), .r [] (.int .i64 pv.1.2.2.2.2)]), (2, .box [.r [] (.int .i64 pv.2.2.1), .r [] (.sl (.int .i64) pv.2.2.2.1), .r [] (.int .i64 pv.2.2.2.2.1), .r [] (.int .i64 pv.2.2.2.2.2.1), .r [] (.int .i64 pv.2.2.2.2.2.2)])], nid := 3, n := 33, gh := [some 0] }
def slices_MinFunc_lI_Task_I_Task_m_g0_dec (nf : NF) : Option ((List Task × Int × Int × Int × Int) × (Int × Int × List Int × Int × Int × Int)) := match nf with
  | ([.r [] (.sl (.st .task) w0), .fn (.func 207) [] [.ptr 0 0 0], .ptr 1 0 0, .ptr 2 0 0, .r [] (.int .i64 w1)], [.box [.fn (.func 198) [] []], .box [.r [] (.int .i64 w2), .nilS, .r [] (.int .i64 w3), .r [] (.int .i64 w4), .r [] (.int .i64 w5)], .box [.r [] (.int .i64 w6), .r [] (.sl (.int .i64) w7), .r [] (.int .i64 w8), .r [] (.int .i64 w9), .r [] (.int .i64 w10)]], [some 0]) => some ((w0, w2, w3, w4, w5), (w1, w6, w7, w8, w9, w10))
  | _ => none
theorem slices_MinFunc_lI_Task_I_Task_m_g0_hd (nf : NF) (v : (List Task × Int × Int × Int × Int) × (Int × Int × List Int × Int × Int × Int)) (h : slices_MinFunc_lI_Task_I_Task_m_g0_dec nf = some v) : denorm slices_MinFunc_lI_Task_I_Task_m_g0_keep 33 nf = slices_MinFunc_lI_Task_I_Task_m_g0_tm v := by
  unfold slices_MinFunc_lI_Task_I_Task_m_g0_dec at h
  split at h
  · cases h; rfl
  · cases h
def slices_MinFunc_lI_Task_I_Task_m_g0_x0 (p : List Task × Int × Int × Int × Int) (x : Int × List Int × Int × Int × Int) : St := { slots := [(4, .ptr 0 0 0), (5, .ptr 1 0 0)], heap := [(0, .box [.r [] (.int .i64 p.2.1), .nilS, .r [] (.int .i64 p.2.2.1), .r [] (.int .i64 p.2.2.2.1), .r [] (.int .i64 p.2.2.2.2)]), (1, .box [.r [] (.int .i64 x.1), .r [] (.sl (.int .i64) x.2.1), .r [] (.int .i64 x.2.2.1), .r [] (.int .i64 x.2.2.2.1), .r [] (.int .i64 x.2.2.2.2)]), (2, .box [.fn (.func 198) [] []])], nid := 3, n := 33, gh := [some 2] }
def LP_slices_MinFunc_lI_Task_I_Task_m (ρ : Type) (k : Nat) : Nat → Ev ρ → Ev ρ := fun id f => cond (Nat.beq id 0) (loopOrc slices_MinFunc_lI_Task_I_Task_m_g0_keep slices_MinFunc_lI_Task_I_Task_m_g0_co (fun n nf => cond (Nat.beq n 33) (slices_MinFunc_lI_Task_I_Task_m_g0_dec nf) none) fun pv K => iter (fun v next => slices_MinFunc_lI_Task_I_Task_m_g0 k pv.1 v next (fun x => K (.exit 0) (slices_MinFunc_lI_Task_I_Task_m_g0_x0 pv.1 x))) k pv.2) ((fun _ _ _ _ => none) id f)
theorem slices_MinFunc_lI_Task_I_Task_m_g0_round {ρ : Type} (k : Nat) (p : List Task × Int × Int × Int × Int) (v : Int × Int × List Int × Int × Int × Int) (K K1 : Ex → St → Option ρ) : ev (E_slices_MinFunc_lI_Task_I_Task_m k) (LP_slices_MinFunc_lI_Task_I_Task_m ρ k) 0 b_slices_MinFunc_lI_Task_I_Task_m_0 (slices_MinFunc_lI_Task_I_Task_m_g0_tm (p, v)) (fun e st' => match e with
    | .normal => (normC slices_MinFunc_lI_Task_I_Task_m_g0_keep slices_MinFunc_lI_Task_I_Task_m_g0_co st').bind fun nf => K1 .normal (denorm slices_MinFunc_lI_Task_I_Task_m_g0_keep st'.n nf)
    | e => (normC (slices_MinFunc_lI_Task_I_Task_m_g0_kx e) (slices_MinFunc_lI_Task_I_Task_m_g0_cx e) st').bind fun nf => K e (denorm (slices_MinFunc_lI_Task_I_Task_m_g0_kx e) st'.n nf)) = slices_MinFunc_lI_Task_I_Task_m_g0 k p v (fun v' => K1 .normal (slices_MinFunc_lI_Task_I_Task_m_g0_tm (p, v'))) (fun x => K (.exit 0) (slices_MinFunc_lI_Task_I_Task_m_g0_x0 p x)) := by kernel_rfl
theorem slices_MinFunc_lI_Task_I_Task_m_g0_ok {ρ : Type} (k : Nat) : Sound Try.prog (.loop b_slices_MinFunc_lI_Task_I_Task_m_0) (LP_slices_MinFunc_lI_Task_I_Task_m ρ k 0 fun st K => ev (E_slices_MinFunc_lI_Task_I_Task_m k) (LP_slices_MinFunc_lI_Task_I_Task_m ρ k) 0 b_slices_MinFunc_lI_Task_I_Task_m_0 st K) :=
  loop_ok (ev_sound (E_slices_MinFunc_lI_Task_I_Task_m_ok k) b_slices_MinFunc_lI_Task_I_Task_m_0 0 (lpgood_none (by kernel_rfl))) slices_MinFunc_lI_Task_I_Task_m_g0_kx slices_MinFunc_lI_Task_I_Task_m_g0_cx k (g := fun p v next K => slices_MinFunc_lI_Task_I_Task_m_g0 k p v next (fun x => K (.exit 0) (slices_MinFunc_lI_Task_I_Task_m_g0_x0 p x))) (dec_at slices_MinFunc_lI_Task_I_Task_m_g0_hd) (fun p v K K1 => slices_MinFunc_lI_Task_I_Task_m_g0_round k p v K K1)
def slices_MinFunc_lI_Task_I_Task_m_args (a : List Task) : List SV := [.r [] (.sl (.st .task) a), .fn (.func 207) [] [.ptr 0 0 0]]
def slices_MinFunc_lI_Task_I_Task_m_blks (a : List Task) : List Blk := [.box [.fn (.func 198) [] []]]
def slices_MinFunc_lI_Task_I_Task_m_argD (l : List SV) (b : List Blk) : Option (List Task) := match l, b with
  | [.r [] (.sl (.st .task) w0), .fn (.func 207) [] [.ptr 0 0 0]], [.box [.fn (.func 198) [] []]] => some w0
  | _, _ => none
def slices_MinFunc_lI_Task_I_Task_m_enc (a : List Task) (r : Task) : MOut := ⟨.agg [.r [] (.int .i64 r.id), .r [] (.sl (.int .i64) r.costs), .r [] (.int .i64 r.at_), .r [] (.int .i64 r.due), .r [] (.int .i64 r.born)], [some (.box [.fn (.func 198) [] []])], []⟩
def slices_MinFunc_lI_Task_I_Task_m_dec (a : List Task) (o : MOut) : Option (Task) := match o with
  | ⟨.agg [.r [] (.int .i64 z1), .r [] (.sl (.int .i64) z2), .r [] (.int .i64 z3), .r [] (.int .i64 z4), .r [] (.int .i64 z5)], [some (.box [.fn (.func 198) [] []])], []⟩ => some (⟨z1, z2, z3, z4, z5⟩ : Task)
  | _ => none
def slices_MinFunc_lI_Task_I_Task_m_G (k : Nat) : MG := fun _ l b K => (slices_MinFunc_lI_Task_I_Task_m_argD l b).bind fun a => (slices_MinFunc_lI_Task_I_Task_m k a).bind fun r => K (slices_MinFunc_lI_Task_I_Task_m_enc a r)
theorem slices_MinFunc_lI_Task_I_Task_m_ev (k : Nat) (a : List Task) : ev (E_slices_MinFunc_lI_Task_I_Task_m k) (LP_slices_MinFunc_lI_Task_I_Task_m (Task) k) 0 c_slices_MinFunc_lI_Task_I_Task_m (st0M Try.f206 (slices_MinFunc_lI_Task_I_Task_m_args a) (slices_MinFunc_lI_Task_I_Task_m_blks a)) (finM Try.prog Try.f206 (.agg [.sc, .ro (.int .i64), .sc, .sc, .sc]) [.box [.fn [] []]] (slices_MinFunc_lI_Task_I_Task_m_dec a)) = slices_MinFunc_lI_Task_I_Task_m k a := by kernel_rfl
theorem slices_MinFunc_lI_Task_I_Task_m_ok (k : Nat) : MutOk Try.prog 206 (slices_MinFunc_lI_Task_I_Task_m_G k) :=
  mutOk_of_ev (E_slices_MinFunc_lI_Task_I_Task_m_ok k) Try.func206 (by kernel_rfl) (by kernel_rfl) slices_MinFunc_lI_Task_I_Task_m_args slices_MinFunc_lI_Task_I_Task_m_blks slices_MinFunc_lI_Task_I_Task_m_argD
    (fun l b a h => by unfold slices_MinFunc_lI_Task_I_Task_m_argD at h; split at h <;> first | (cases h; exact ⟨rfl, rfl⟩) | cases h) (fun a => rfl) (lpgood_of (l := [(0, b_slices_MinFunc_lI_Task_I_Task_m_0)]) (by kernel_rfl) ⟨slices_MinFunc_lI_Task_I_Task_m_g0_ok k, trivial⟩) (fun a r => rfl)
    (fun a o r h => by unfold slices_MinFunc_lI_Task_I_Task_m_dec at h; split at h <;> first | (skip; cases h; rfl) | cases h) (slices_MinFunc_lI_Task_I_Task_m_ev k)
def o_slices_MinFunc_lI_Task_I_Task_m (k : Nat) : Orc := mutOrc [.one (.sl (.st .task)), .keep] (slices_MinFunc_lI_Task_I_Task_m_G k)
theorem o_slices_MinFunc_lI_Task_I_Task_m_ok (k : Nat) : OrcOk Try.prog 206 (o_slices_MinFunc_lI_Task_I_Task_m k) := mutOrc_ok (slices_MinFunc_lI_Task_I_Task_m_ok k)
/-! ### 197 (loop.example/g00778/impl.Sched).first -/
noncomputable def E_I_Sched_first_m (k : Nat) : Env := { P := Try.prog, tt := tt, orc := fun g => cond (Nat.beq g 169) (o_slices_DeleteFunc_lI_Task_I_Task_m6 k) (cond (Nat.beq g 204) (o_slices_Clone_lI_Task_I_Task k) (cond (Nat.beq g 206) (o_slices_MinFunc_lI_Task_I_Task_m k) (noOrc))), wr := fun g => mem g [169, 206], wt := true }
theorem E_I_Sched_first_m_ok (k : Nat) : EnvOk (E_I_Sched_first_m k) := fun g => (orc_cond (o_slices_DeleteFunc_lI_Task_I_Task_m6_ok k) (orc_cond (o_slices_Clone_lI_Task_I_Task_ok k) (orc_cond (o_slices_MinFunc_lI_Task_I_Task_m_ok k) (noOrc_ok _ _))))
noncomputable def c_I_Sched_first_m : Code := (Try.f197.body).getD .skip
def LP_I_Sched_first_m (ρ : Type) (k : Nat) : Nat → Ev ρ → Ev ρ := fun _ _ _ _ => none
def I_Sched_first_m_args (a : Sched × Sched) : List SV := [.agg [.r [] (.int .i64 a.1.now), .r [] (.int .i64 a.1.slack), .r [] (.int .i64 a.1.age), .r [] (.sl (.st .task) a.1.tasks), .r [] (.int .i64 a.1.run), .r [] (.int .i64 a.1.left), .r [] (.int .i64 a.1.turns), .r [] (.int .i64 a.1.next)], .fn (.func 146) [.agg [.r [] (.int .i64 a.2.now), .r [] (.int .i64 a.2.slack), .r [] (.int .i64 a.2.age), .r [] (.sl (.st .task) a.2.tasks), .r [] (.int .i64 a.2.run), .r [] (.int .i64 a.2.left), .r [] (.int .i64 a.2.turns), .r [] (.int .i64 a.2.next)]] [], .fn (.func 198) [] []]
def I_Sched_first_m_blks (a : Sched × Sched) : List Blk := []
def I_Sched_first_m_argD (l : List SV) (b : List Blk) : Option (Sched × Sched) := match l, b with
  | [.agg [.r [] (.int .i64 w0), .r [] (.int .i64 w1), .r [] (.int .i64 w2), .r [] (.sl (.st .task) w3), .r [] (.int .i64 w4), .r [] (.int .i64 w5), .r [] (.int .i64 w6), .r [] (.int .i64 w7)], .fn (.func 146) [.agg [.r [] (.int .i64 w8), .r [] (.int .i64 w9), .r [] (.int .i64 w10), .r [] (.sl (.st .task) w11), .r [] (.int .i64 w12), .r [] (.int .i64 w13), .r [] (.int .i64 w14), .r [] (.int .i64 w15)]] [], .fn (.func 198) [] []], [] => some ((⟨w0, w1, w2, w3, w4, w5, w6, w7⟩ : Sched), (⟨w8, w9, w10, w11, w12, w13, w14, w15⟩ : Sched))
  | _, _ => none
def I_Sched_first_m_enc (a : Sched × Sched) (r : Int) : MOut := ⟨.r [] (.int .i64 r), [], []⟩
def I_Sched_first_m_dec (a : Sched × Sched) (o : MOut) : Option (Int) := match o with
  | ⟨.r [] (.int .i64 z1), [], []⟩ => some z1
  | _ => none
def I_Sched_first_m_G (k : Nat) : MG := fun _ l b K => (I_Sched_first_m_argD l b).bind fun a => (I_Sched_first_m k a.1 a.2).bind fun r => K (I_Sched_first_m_enc a r)
theorem I_Sched_first_m_ev (k : Nat) (a : Sched × Sched) : ev (E_I_Sched_first_m k) (LP_I_Sched_first_m (Int) k) 0 c_I_Sched_first_m (st0M Try.f197 (I_Sched_first_m_args a) (I_Sched_first_m_blks a)) (finM Try.prog Try.f197 (.sc) [] (I_Sched_first_m_dec a)) = I_Sched_first_m k a.1 a.2 := by kernel_rfl
theorem I_Sched_first_m_ok (k : Nat) : MutOk Try.prog 197 (I_Sched_first_m_G k) :=
  mutOk_of_ev (E_I_Sched_first_m_ok k) Try.func197 (by kernel_rfl) (by kernel_rfl) I_Sched_first_m_args I_Sched_first_m_blks I_Sched_first_m_argD
    (fun l b a h => by unfold I_Sched_first_m_argD at h; split at h <;> first | (cases h; exact ⟨rfl, rfl⟩) | cases h) (fun a => rfl) (lpgood_none (by kernel_rfl)) (fun a r => rfl)
    (fun a o r h => by unfold I_Sched_first_m_dec at h; split at h <;> first | (skip; cases h; rfl) | cases h) (I_Sched_first_m_ev k)
def o_I_Sched_first_m (k : Nat) : Orc := mutOrc [.agg [(.int .i64), (.int .i64), (.int .i64), (.sl (.st .task)), (.int .i64), (.int .i64), (.int .i64), (.int .i64)], .keep, .keep] (I_Sched_first_m_G k)
theorem o_I_Sched_first_m_ok (k : Nat) : OrcOk Try.prog 197 (o_I_Sched_first_m k) := mutOrc_ok (I_Sched_first_m_ok k)
/-! ### 199 (loop.example/g00778/impl.Sched).pick$2 -/
noncomputable def E_I_Sched_pick_c2_m (k : Nat) : Env := { P := Try.prog, tt := tt, orc := fun g => cond (Nat.beq g 146) (o_I_Sched_isLate k) (noOrc) }
theorem E_I_Sched_pick_c2_m_ok (k : Nat) : EnvOk (E_I_Sched_pick_c2_m k) := fun g => (orc_cond (o_I_Sched_isLate_ok k) (noOrc_ok _ _))
noncomputable def c_I_Sched_pick_c2_m : Code := (Try.f199.body).getD .skip
def LP_I_Sched_pick_c2_m (ρ : Type) (k : Nat) : Nat → Ev ρ → Ev ρ := fun _ _ _ _ => none
def I_Sched_pick_c2_m_args (a : Task × Sched) : List SV := [.agg [.r [] (.int .i64 a.1.id), .r [] (.sl (.int .i64) a.1.costs), .r [] (.int .i64 a.1.at_), .r [] (.int .i64 a.1.due), .r [] (.int .i64 a.1.born)], .ptr 0 0 0]
def I_Sched_pick_c2_m_blks (a : Task × Sched) : List Blk := [.box [.r [] (.int .i64 a.2.now), .r [] (.int .i64 a.2.slack), .r [] (.int .i64 a.2.age), .r [] (.sl (.st .task) a.2.tasks), .r [] (.int .i64 a.2.run), .r [] (.int .i64 a.2.left), .r [] (.int .i64 a.2.turns), .r [] (.int .i64 a.2.next)]]
def I_Sched_pick_c2_m_argD (l : List SV) (b : List Blk) : Option (Task × Sched) := match l, b with
  | [.agg [.r [] (.int .i64 w0), .r [] (.sl (.int .i64) w1), .r [] (.int .i64 w2), .r [] (.int .i64 w3), .r [] (.int .i64 w4)], .ptr 0 0 0], [.box [.r [] (.int .i64 w5), .r [] (.int .i64 w6), .r [] (.int .i64 w7), .r [] (.sl (.st .task) w8), .r [] (.int .i64 w9), .r [] (.int .i64 w10), .r [] (.int .i64 w11), .r [] (.int .i64 w12)]] => some ((⟨w0, w1, w2, w3, w4⟩ : Task), (⟨w5, w6, w7, w8, w9, w10, w11, w12⟩ : Sched))
  | _, _ => none
def I_Sched_pick_c2_m_enc (a : Task × Sched) (r : Bool) : MOut := ⟨.r [] (.bool r), [some (.box [.r [] (.int .i64 a.2.now), .r [] (.int .i64 a.2.slack), .r [] (.int .i64 a.2.age), .r [] (.sl (.st .task) a.2.tasks), .r [] (.int .i64 a.2.run), .r [] (.int .i64 a.2.left), .r [] (.int .i64 a.2.turns), .r [] (.int .i64 a.2.next)])], []⟩
def I_Sched_pick_c2_m_dec (a : Task × Sched) (o : MOut) : Option (Bool) := match o with
  | ⟨.r [] (.bool z1), [some (.box [.r [] (.int .i64 z2), .r [] (.int .i64 z3), .r [] (.int .i64 z4), .r [] (.sl (.st .task) z5), .r [] (.int .i64 z6), .r [] (.int .i64 z7), .r [] (.int .i64 z8), .r [] (.int .i64 z9)])], []⟩ => cond (@sameL Int _ z2 a.2.now) (cond (@sameL Int _ z3 a.2.slack) (cond (@sameL Int _ z4 a.2.age) (cond (@sameL (List Task) _ z5 a.2.tasks) (cond (@sameL Int _ z6 a.2.run) (cond (@sameL Int _ z7 a.2.left) (cond (@sameL Int _ z8 a.2.turns) (cond (@sameL Int _ z9 a.2.next) (some z1) none) none) none) none) none) none) none) none
  | _ => none
def I_Sched_pick_c2_m_G (k : Nat) : MG := fun _ l b K => (I_Sched_pick_c2_m_argD l b).bind fun a => (I_Sched_pick_c2_m k a.1 a.2).bind fun r => K (I_Sched_pick_c2_m_enc a r)
theorem I_Sched_pick_c2_m_ev (k : Nat) (a : Task × Sched) : ev (E_I_Sched_pick_c2_m k) (LP_I_Sched_pick_c2_m (Bool) k) 0 c_I_Sched_pick_c2_m (st0M Try.f199 (I_Sched_pick_c2_m_args a) (I_Sched_pick_c2_m_blks a)) (finM Try.prog Try.f199 (.sc) [.box [.sc, .sc, .sc, .ro (.st .task), .sc, .sc, .sc, .sc]] (I_Sched_pick_c2_m_dec a)) = I_Sched_pick_c2_m k a.1 a.2 := by kernel_rfl
theorem I_Sched_pick_c2_m_ok (k : Nat) : MutOk Try.prog 199 (I_Sched_pick_c2_m_G k) :=
  mutOk_of_ev (E_I_Sched_pick_c2_m_ok k) Try.func199 (by kernel_rfl) (by kernel_rfl) I_Sched_pick_c2_m_args I_Sched_pick_c2_m_blks I_Sched_pick_c2_m_argD
    (fun l b a h => by unfold I_Sched_pick_c2_m_argD at h; split at h <;> first | (cases h; exact ⟨rfl, rfl⟩) | cases h) (fun a => rfl) (lpgood_none (by kernel_rfl)) (fun a r => rfl)
    (fun a o r h => by unfold I_Sched_pick_c2_m_dec at h; split at h <;> first | (obtain ⟨e0, e1, e2, e3, e4, e5, e6, e7, hq⟩ := dec_chk8 h; clear h; subst e0; subst e1; subst e2; subst e3; subst e4; subst e5; subst e6; subst e7; have h := hq; clear hq; cases h; rfl) | cases h) (I_Sched_pick_c2_m_ev k)
def o_I_Sched_pick_c2_m (k : Nat) : Orc := mutOrc [.agg [(.int .i64), (.sl (.int .i64)), (.int .i64), (.int .i64), (.int .i64)], .keep] (I_Sched_pick_c2_m_G k)
theorem o_I_Sched_pick_c2_m_ok (k : Nat) : OrcOk Try.prog 199 (o_I_Sched_pick_c2_m k) := mutOrc_ok (I_Sched_pick_c2_m_ok k)
/-! ### 205 (loop.example/g00778/impl.Sched).first$1 -/
noncomputable def E_I_Sched_first_c1_m3 (k : Nat) : Env := { P := Try.prog, tt := tt, orc := fun g => cond (Nat.beq g 199) (o_I_Sched_pick_c2_m k) (noOrc), wr := fun g => mem g [199], wt := true }
theorem E_I_Sched_first_c1_m3_ok (k : Nat) : EnvOk (E_I_Sched_first_c1_m3 k) := fun g => (orc_cond (o_I_Sched_pick_c2_m_ok k) (noOrc_ok _ _))
noncomputable def c_I_Sched_first_c1_m3 : Code := (Try.f205.body).getD .skip
def LP_I_Sched_first_c1_m3 (ρ : Type) (k : Nat) : Nat → Ev ρ → Ev ρ := fun _ _ _ _ => none
def I_Sched_first_c1_m3_args (a : Task × Sched) : List SV := [.agg [.r [] (.int .i64 a.1.id), .r [] (.sl (.int .i64) a.1.costs), .r [] (.int .i64 a.1.at_), .r [] (.int .i64 a.1.due), .r [] (.int .i64 a.1.born)], .ptr 0 0 0]
def I_Sched_first_c1_m3_blks (a : Task × Sched) : List Blk := [.box [.fn (.func 199) [] [.ptr 1 0 0]], .box [.r [] (.int .i64 a.2.now), .r [] (.int .i64 a.2.slack), .r [] (.int .i64 a.2.age), .r [] (.sl (.st .task) a.2.tasks), .r [] (.int .i64 a.2.run), .r [] (.int .i64 a.2.left), .r [] (.int .i64 a.2.turns), .r [] (.int .i64 a.2.next)]]
def I_Sched_first_c1_m3_argD (l : List SV) (b : List Blk) : Option (Task × Sched) := match l, b with
  | [.agg [.r [] (.int .i64 w0), .r [] (.sl (.int .i64) w1), .r [] (.int .i64 w2), .r [] (.int .i64 w3), .r [] (.int .i64 w4)], .ptr 0 0 0], [.box [.fn (.func 199) [] [.ptr 1 0 0]], .box [.r [] (.int .i64 w5), .r [] (.int .i64 w6), .r [] (.int .i64 w7), .r [] (.sl (.st .task) w8), .r [] (.int .i64 w9), .r [] (.int .i64 w10), .r [] (.int .i64 w11), .r [] (.int .i64 w12)]] => some ((⟨w0, w1, w2, w3, w4⟩ : Task), (⟨w5, w6, w7, w8, w9, w10, w11, w12⟩ : Sched))
  | _, _ => none
def I_Sched_first_c1_m3_enc (a : Task × Sched) (r : Bool) : MOut := ⟨.r [] (.bool r), [some (.box [.fn (.func 199) [] [.ptr 1 0 0]]), some (.box [.r [] (.int .i64 a.2.now), .r [] (.int .i64 a.2.slack), .r [] (.int .i64 a.2.age), .r [] (.sl (.st .task) a.2.tasks), .r [] (.int .i64 a.2.run), .r [] (.int .i64 a.2.left), .r [] (.int .i64 a.2.turns), .r [] (.int .i64 a.2.next)])], []⟩
def I_Sched_first_c1_m3_dec (a : Task × Sched) (o : MOut) : Option (Bool) := match o with
  | ⟨.r [] (.bool z1), [some (.box [.fn (.func 199) [] [.ptr 1 0 0]]), some (.box [.r [] (.int .i64 z2), .r [] (.int .i64 z3), .r [] (.int .i64 z4), .r [] (.sl (.st .task) z5), .r [] (.int .i64 z6), .r [] (.int .i64 z7), .r [] (.int .i64 z8), .r [] (.int .i64 z9)])], []⟩ => cond (@sameL Int _ z2 a.2.now) (cond (@sameL Int _ z3 a.2.slack) (cond (@sameL Int _ z4 a.2.age) (cond (@sameL (List Task) _ z5 a.2.tasks) (cond (@sameL Int _ z6 a.2.run) (cond (@sameL Int _ z7 a.2.left) (cond (@sameL Int _ z8 a.2.turns) (cond (@sameL Int _ z9 a.2.next) (some z1) none) none) none) none) none) none) none) none
  | _ => none
def I_Sched_first_c1_m3_G (k : Nat) : MG := fun _ l b K => (I_Sched_first_c1_m3_argD l b).bind fun a => (I_Sched_first_c1_m3 k a.1 a.2).bind fun r => K (I_Sched_first_c1_m3_enc a r)
theorem I_Sched_first_c1_m3_ev (k : Nat) (a : Task × Sched) : ev (E_I_Sched_first_c1_m3 k) (LP_I_Sched_first_c1_m3 (Bool) k) 0 c_I_Sched_first_c1_m3 (st0M Try.f205 (I_Sched_first_c1_m3_args a) (I_Sched_first_c1_m3_blks a)) (finM Try.prog Try.f205 (.sc) [.box [.fn [] [.ptr]], .box [.sc, .sc, .sc, .ro (.st .task), .sc, .sc, .sc, .sc]] (I_Sched_first_c1_m3_dec a)) = I_Sched_first_c1_m3 k a.1 a.2 := by kernel_rfl
theorem I_Sched_first_c1_m3_ok (k : Nat) : MutOk Try.prog 205 (I_Sched_first_c1_m3_G k) :=
  mutOk_of_ev (E_I_Sched_first_c1_m3_ok k) Try.func205 (by kernel_rfl) (by kernel_rfl) I_Sched_first_c1_m3_args I_Sched_first_c1_m3_blks I_Sched_first_c1_m3_argD
    (fun l b a h => by unfold I_Sched_first_c1_m3_argD at h; split at h <;> first | (cases h; exact ⟨rfl, rfl⟩) | cases h) (fun a => rfl) (lpgood_none (by kernel_rfl)) (fun a r => rfl)
    (fun a o r h => by unfold I_Sched_first_c1_m3_dec at h; split at h <;> first | (obtain ⟨e0, e1, e2, e3, e4, e5, e6, e7, hq⟩ := dec_chk8 h; clear h; subst e0; subst e1; subst e2; subst e3; subst e4; subst e5; subst e6; subst e7; have h := hq; clear hq; cases h; rfl) | cases h) (I_Sched_first_c1_m3_ev k)
def o_I_Sched_first_c1_m3 (k : Nat) : Orc := mutOrc [.agg [(.int .i64), (.sl (.int .i64)), (.int .i64), (.int .i64), (.int .i64)], .keep] (I_Sched_first_c1_m3_G k)
theorem o_I_Sched_first_c1_m3_ok (k : Nat) : OrcOk Try.prog 205 (o_I_Sched_first_c1_m3 k) := mutOrc_ok (I_Sched_first_c1_m3_ok k)
/-! ### 205 (loop.example/g00778/impl.Sched).first$1 -/
noncomputable def E_I_Sched_first_c1_m4 (k : Nat) : Env := { P := Try.prog, tt := tt, orc := fun g => cond (Nat.beq g 199) (o_I_Sched_pick_c2_m k) (noOrc), wr := fun g => mem g [199], wt := true }
theorem E_I_Sched_first_c1_m4_ok (k : Nat) : EnvOk (E_I_Sched_first_c1_m4 k) := fun g => (orc_cond (o_I_Sched_pick_c2_m_ok k) (noOrc_ok _ _))
noncomputable def c_I_Sched_first_c1_m4 : Code := (Try.f205.body).getD .skip
def LP_I_Sched_first_c1_m4 (ρ : Type) (k : Nat) : Nat → Ev ρ → Ev ρ := fun _ _ _ _ => none
def I_Sched_first_c1_m4_args (a : Task × Sched) : List SV := [.agg [.r [] (.int .i64 a.1.id), .r [] (.sl (.int .i64) a.1.costs), .r [] (.int .i64 a.1.at_), .r [] (.int .i64 a.1.due), .r [] (.int .i64 a.1.born)], .ptr 0 0 0]
def I_Sched_first_c1_m4_blks (a : Task × Sched) : List Blk := [.box [.fn (.func 199) [] [.ptr 1 0 0]], .box [.r [] (.int .i64 a.2.now), .r [] (.int .i64 a.2.slack), .r [] (.int .i64 a.2.age), .r [] (.sl (.st .task) a.2.tasks), .r [] (.int .i64 a.2.run), .r [] (.int .i64 a.2.left), .r [] (.int .i64 a.2.turns), .r [] (.int .i64 a.2.next)]]
def I_Sched_first_c1_m4_argD (l : List SV) (b : List Blk) : Option (Task × Sched) := match l, b with
  | [.agg [.r [] (.int .i64 w0), .r [] (.sl (.int .i64) w1), .r [] (.int .i64 w2), .r [] (.int .i64 w3), .r [] (.int .i64 w4)], .ptr 0 0 0], [.box [.fn (.func 199) [] [.ptr 1 0 0]], .box [.r [] (.int .i64 w5), .r [] (.int .i64 w6), .r [] (.int .i64 w7), .r [] (.sl (.st .task) w8), .r [] (.int .i64 w9), .r [] (.int .i64 w10), .r [] (.int .i64 w11), .r [] (.int .i64 w12)]] => some ((⟨w0, w1, w2, w3, w4⟩ : Task), (⟨w5, w6, w7, w8, w9, w10, w11, w12⟩ : Sched))
  | _, _ => none
def I_Sched_first_c1_m4_enc (a : Task × Sched) (r : Bool) : MOut := ⟨.r [] (.bool r), [some (.box [.fn (.func 199) [] [.ptr 1 0 0]]), some (.box [.r [] (.int .i64 a.2.now), .r [] (.int .i64 a.2.slack), .r [] (.int .i64 a.2.age), .r [] (.sl (.st .task) a.2.tasks), .r [] (.int .i64 a.2.run), .r [] (.int .i64 a.2.left), .r [] (.int .i64 a.2.turns), .r [] (.int .i64 a.2.next)])], []⟩
def I_Sched_first_c1_m4_dec (a : Task × Sched) (o : MOut) : Option (Bool) := match o with
  | ⟨.r [] (.bool z1), [some (.box [.fn (.func 199) [] [.ptr 1 0 0]]), some (.box [.r [] (.int .i64 z2), .r [] (.int .i64 z3), .r [] (.int .i64 z4), .r [] (.sl (.st .task) z5), .r [] (.int .i64 z6), .r [] (.int .i64 z7), .r [] (.int .i64 z8), .r [] (.int .i64 z9)])], []⟩ => cond (@sameL Int _ z2 a.2.now) (cond (@sameL Int _ z3 a.2.slack) (cond (@sameL Int _ z4 a.2.age) (cond (@sameL (List Task) _ z5 a.2.tasks) (cond (@sameL Int _ z6 a.2.run) (cond (@sameL Int _ z7 a.2.left) (cond (@sameL Int _ z8 a.2.turns) (cond (@sameL Int _ z9 a.2.next) (some z1) none) none) none) none) none) none) none) none
  | _ => none
def I_Sched_first_c1_m4_G (k : Nat) : MG := fun _ l b K => (I_Sched_first_c1_m4_argD l b).bind fun a => (I_Sched_first_c1_m4 k a.1 a.2).bind fun r => K (I_Sched_first_c1_m4_enc a r)
theorem I_Sched_first_c1_m4_ev (k : Nat) (a : Task × Sched) : ev (E_I_Sched_first_c1_m4 k) (LP_I_Sched_first_c1_m4 (Bool) k) 0 c_I_Sched_first_c1_m4 (st0M Try.f205 (I_Sched_first_c1_m4_args a) (I_Sched_first_c1_m4_blks a)) (finM Try.prog Try.f205 (.sc) [.box [.fn [] [.ptr]], .box [.sc, .sc, .sc, .ro (.st .task), .sc, .sc, .sc, .sc]] (I_Sched_first_c1_m4_dec a)) = I_Sched_first_c1_m4 k a.1 a.2 := by kernel_rfl
theorem I_Sched_first_c1_m4_ok (k : Nat) : MutOk Try.prog 205 (I_Sched_first_c1_m4_G k) :=
  mutOk_of_ev (E_I_Sched_first_c1_m4_ok k) Try.func205 (by kernel_rfl) (by kernel_rfl) I_Sched_first_c1_m4_args I_Sched_first_c1_m4_blks I_Sched_first_c1_m4_argD
    (fun l b a h => by unfold I_Sched_first_c1_m4_argD at h; split at h <;> first | (cases h; exact ⟨rfl, rfl⟩) | cases h) (fun a => rfl) (lpgood_none (by kernel_rfl)) (fun a r => rfl)
    (fun a o r h => by unfold I_Sched_first_c1_m4_dec at h; split at h <;> first | (obtain ⟨e0, e1, e2, e3, e4, e5, e6, e7, hq⟩ := dec_chk8 h; clear h; subst e0; subst e1; subst e2; subst e3; subst e4; subst e5; subst e6; subst e7; have h := hq; clear hq; cases h; rfl) | cases h) (I_Sched_first_c1_m4_ev k)
def o_I_Sched_first_c1_m4 (k : Nat) : Orc := mutOrc [.keep, .keep] (I_Sched_first_c1_m4_G k)
theorem o_I_Sched_first_c1_m4_ok (k : Nat) : OrcOk Try.prog 205 (o_I_Sched_first_c1_m4 k) := mutOrc_ok (I_Sched_first_c1_m4_ok k)
/-! ### 167 slices.IndexFunc[[]loop.example/g00778/impl.Task,loop.example/g00778/impl.Task] -/
noncomputable def E_slices_IndexFunc_lI_Task_I_Task_m9 (k : Nat) : Env := { P := Try.prog, tt := tt, orc := fun g => cond (Nat.beq g 205) (o_I_Sched_first_c1_m3 k) (noOrc), wr := fun g => mem g [205], wt := true }
theorem E_slices_IndexFunc_lI_Task_I_Task_m9_ok (k : Nat) : EnvOk (E_slices_IndexFunc_lI_Task_I_Task_m9 k) := fun g => (orc_cond (o_I_Sched_first_c1_m3_ok k) (noOrc_ok _ _))
noncomputable def c_slices_IndexFunc_lI_Task_I_Task_m9 : Code := (Try.f167.body).getD .skip
noncomputable def b_slices_IndexFunc_lI_Task_I_Task_m9_0 : Code := ((loopsIn 0 c_slices_IndexFunc_lI_Task_I_Task_m9).getD 0 (0, .skip)).2
def slices_IndexFunc_lI_Task_I_Task_m9_g0_keep : List Nat := [0, 1, 7, 8]
def slices_IndexFunc_lI_Task_I_Task_m9_g0_co : List (Where × Co) := []
def slices_IndexFunc_lI_Task_I_Task_m9_g0_kx : Ex → List Nat
  | .exit j => cond (Nat.beq j 0) [] []
  | .ret => [4]
  | .normal => []
def slices_IndexFunc_lI_Task_I_Task_m9_g0_cx : Ex → List (Where × Co)
  | .exit j => cond (Nat.beq j 0) [] []
  | .ret => []
  | .normal => []
def slices_IndexFunc_lI_Task_I_Task_m9_g0_tm (pv : (Int × List Task × Int × Int × Int × List Task × Int × Int × Int × Int) × (Int)) : St := { slots := [(0, .own 0), (1, .fn (.func 205) [] [.ptr 1 0 0]), (7, .r [] (.int .i64 pv.1.1)), (8, .r [] (.int .i64 pv.2))], heap := [(0, .arr (some []) (.st .task) pv.1.2.1), (1, .box [.fn (.func 199) [] [.ptr 2 0 0]]), (2, .box [.r [] (.int .i64 pv.1.2.2.1), .r [] (.int .i64 pv.1.2.2.2.1), .r [] (.int .i64 pv.1.2.2.2.2.1), .r [] (.sl (.st .task) pv.1.2.2.2.2.2.1), .r [] (.int .i64 pv.1.2.2.2.2.2.2.1), .r [] (.int .i64 pv.1.2.2.2.2.2.2.2.1), .r [] (.int .i64 pv.1.2.2.2.2.2.2.2.2.1), .r [] (.int .i64 pv.1.2.2.2.2.2.2.2.2.2)])], nid := 3, n := 19, gh := [some 0, some 1, some 2] }
def slices_IndexFunc_lI_Task_I_Task_m9_g0_dec (nf : NF) : Option ((Int × List Task × Int × Int × Int × List Task × Int × Int × Int × Int) × (Int)) := match nf with
  | ([.own 0, .fn (.func 205) [] [.ptr 1 0 0], .r [] (.int .i64 w0), .r [] (.int .i64 w1)], [.arr (some []) (.st .task) w2, .box [.fn (.func 199) [] [.ptr 2 0 0]], .box [.r [] (.int .i64 w3), .r [] (.int .i64 w4), .r [] (.int .i64 w5), .r [] (.sl (.st .task) w6), .r [] (.int .i64 w7), .r [] (.int .i64 w8), .r [] (.int .i64 w9), .r [] (.int .i64 w10)]], [some 0, some 1, some 2]) => some ((w0, w2, w3, w4, w5, w6, w7, w8, w9, w10), w1)
  | _ => none
theorem slices_IndexFunc_lI_Task_I_Task_m9_g0_hd (nf : NF) (v : (Int × List Task × Int × Int × Int × List Task × Int × Int × Int × Int) × (Int)) (h : slices_IndexFunc_lI_Task_I_Task_m9_g0_dec nf = some v) : denorm slices_IndexFunc_lI_Task_I_Task_m9_g0_keep 19 nf = slices_IndexFunc_lI_Task_I_Task_m9_g0_tm v := by
  unfold slices_IndexFunc_lI_Task_I_Task_m9_g0_dec at h
  split at h
  · cases h; rfl
  · cases h
def slices_IndexFunc_lI_Task_I_Task_m9_g0_x0 (p : Int × List Task × Int × Int × Int × List Task × Int × Int × Int × Int) (x : Unit) : St := { slots := [], heap := [(0, .arr (some []) (.st .task) p.2.1), (1, .box [.fn (.func 199) [] [.ptr 2 0 0]]), (2, .box [.r [] (.int .i64 p.2.2.1), .r [] (.int .i64 p.2.2.2.1), .r [] (.int .i64 p.2.2.2.2.1), .r [] (.sl (.st .task) p.2.2.2.2.2.1), .r [] (.int .i64 p.2.2.2.2.2.2.1), .r [] (.int .i64 p.2.2.2.2.2.2.2.1), .r [] (.int .i64 p.2.2.2.2.2.2.2.2.1), .r [] (.int .i64 p.2.2.2.2.2.2.2.2.2)])], nid := 3, n := 19, gh := [some 0, some 1, some 2] }
def slices_IndexFunc_lI_Task_I_Task_m9_g0_xret (p : Int × List Task × Int × Int × Int × List Task × Int × Int × Int × Int) (x : Int) : St := { slots := [(4, .r [] (.int .i64 x))], heap := [(0, .arr (some []) (.st .task) p.2.1), (1, .box [.fn (.func 199) [] [.ptr 2 0 0]]), (2, .box [.r [] (.int .i64 p.2.2.1), .r [] (.int .i64 p.2.2.2.1), .r [] (.int .i64 p.2.2.2.2.1), .r [] (.sl (.st .task) p.2.2.2.2.2.1), .r [] (.int .i64 p.2.2.2.2.2.2.1), .r [] (.int .i64 p.2.2.2.2.2.2.2.1), .r [] (.int .i64 p.2.2.2.2.2.2.2.2.1), .r [] (.int .i64 p.2.2.2.2.2.2.2.2.2)])], nid := 3, n := 19, gh := [some 0, some 1, some 2] }
def LP_slices_IndexFunc_lI_Task_I_Task_m9 (ρ : Type) (k : Nat) : Nat → Ev ρ → Ev ρ := fun id f => cond (Nat.beq id 0) (loopOrc slices_IndexFunc_lI_Task_I_Task_m9_g0_keep slices_IndexFunc_lI_Task_I_Task_m9_g0_co (fun n nf => cond (Nat.beq n 19) (slices_IndexFunc_lI_Task_I_Task_m9_g0_dec nf) none) fun pv K => iter (fun v next => slices_IndexFunc_lI_Task_I_Task_m9_g0 k pv.1 v next (fun x => K (.exit 0) (slices_IndexFunc_lI_Task_I_Task_m9_g0_x0 pv.1 x)) (fun x => K .ret (slices_IndexFunc_lI_Task_I_Task_m9_g0_xret pv.1 x))) k pv.2) ((fun _ _ _ _ => none) id f)
theorem slices_IndexFunc_lI_Task_I_Task_m9_g0_round {ρ : Type} (k : Nat) (p : Int × List Task × Int × Int × Int × List Task × Int × Int × Int × Int) (v : Int) (K K1 : Ex → St → Option ρ) : ev (E_slices_IndexFunc_lI_Task_I_Task_m9 k) (LP_slices_IndexFunc_lI_Task_I_Task_m9 ρ k) 0 b_slices_IndexFunc_lI_Task_I_Task_m9_0 (slices_IndexFunc_lI_Task_I_Task_m9_g0_tm (p, v)) (fun e st' => match e with
    | .normal => (normC slices_IndexFunc_lI_Task_I_Task_m9_g0_keep slices_IndexFunc_lI_Task_I_Task_m9_g0_co st').bind fun nf => K1 .normal (denorm slices_IndexFunc_lI_Task_I_Task_m9_g0_keep st'.n nf)
    | e => (normC (slices_IndexFunc_lI_Task_I_Task_m9_g0_kx e) (slices_IndexFunc_lI_Task_I_Task_m9_g0_cx e) st').bind fun nf => K e (denorm (slices_IndexFunc_lI_Task_I_Task_m9_g0_kx e) st'.n nf)) = slices_IndexFunc_lI_Task_I_Task_m9_g0 k p v (fun v' => K1 .normal (slices_IndexFunc_lI_Task_I_Task_m9_g0_tm (p, v'))) (fun x => K (.exit 0) (slices_IndexFunc_lI_Task_I_Task_m9_g0_x0 p x)) (fun x => K .ret (slices_IndexFunc_lI_Task_I_Task_m9_g0_xret p x)) := by kernel_rfl
theorem slices_IndexFunc_lI_Task_I_Task_m9_g0_ok {ρ : Type} (k : Nat) : Sound Try.prog (.loop b_slices_IndexFunc_lI_Task_I_Task_m9_0) (LP_slices_IndexFunc_lI_Task_I_Task_m9 ρ k 0 fun st K => ev (E_slices_IndexFunc_lI_Task_I_Task_m9 k) (LP_slices_IndexFunc_lI_Task_I_Task_m9 ρ k) 0 b_slices_IndexFunc_lI_Task_I_Task_m9_0 st K) :=
  loop_ok (ev_sound (E_slices_IndexFunc_lI_Task_I_Task_m9_ok k) b_slices_IndexFunc_lI_Task_I_Task_m9_0 0 (lpgood_none (by kernel_rfl))) slices_IndexFunc_lI_Task_I_Task_m9_g0_kx slices_IndexFunc_lI_Task_I_Task_m9_g0_cx k (g := fun p v next K => slices_IndexFunc_lI_Task_I_Task_m9_g0 k p v next (fun x => K (.exit 0) (slices_IndexFunc_lI_Task_I_Task_m9_g0_x0 p x)) (fun x => K .ret (slices_IndexFunc_lI_Task_I_Task_m9_g0_xret p x))) (dec_at slices_IndexFunc_lI_Task_I_Task_m9_g0_hd) (fun p v K K1 => slices_IndexFunc_lI_Task_I_Task_m9_g0_round k p v K K1)
def slices_IndexFunc_lI_Task_I_Task_m9_args (a : List Task × Sched) : List SV := [.own 0, .fn (.func 205) [] [.ptr 1 0 0]]
def slices_IndexFunc_lI_Task_I_Task_m9_blks (a : List Task × Sched) : List Blk := [.arr (some []) (.st .task) a.1, .box [.fn (.func 199) [] [.ptr 2 0 0]], .box [.r [] (.int .i64 a.2.now), .r [] (.int .i64 a.2.slack), .r [] (.int .i64 a.2.age), .r [] (.sl (.st .task) a.2.tasks), .r [] (.int .i64 a.2.run), .r [] (.int .i64 a.2.left), .r [] (.int .i64 a.2.turns), .r [] (.int .i64 a.2.next)]]
def slices_IndexFunc_lI_Task_I_Task_m9_argD (l : List SV) (b : List Blk) : Option (List Task × Sched) := match l, b with
  | [.own 0, .fn (.func 205) [] [.ptr 1 0 0]], [.arr (some []) (.st .task) w0, .box [.fn (.func 199) [] [.ptr 2 0 0]], .box [.r [] (.int .i64 w1), .r [] (.int .i64 w2), .r [] (.int .i64 w3), .r [] (.sl (.st .task) w4), .r [] (.int .i64 w5), .r [] (.int .i64 w6), .r [] (.int .i64 w7), .r [] (.int .i64 w8)]] => some (w0, (⟨w1, w2, w3, w4, w5, w6, w7, w8⟩ : Sched))
  | _, _ => none
def slices_IndexFunc_lI_Task_I_Task_m9_enc (a : List Task × Sched) (r : Int) : MOut := ⟨.r [] (.int .i64 r), [some (.arr (some []) (.st .task) a.1), some (.box [.fn (.func 199) [] [.ptr 2 0 0]]), some (.box [.r [] (.int .i64 a.2.now), .r [] (.int .i64 a.2.slack), .r [] (.int .i64 a.2.age), .r [] (.sl (.st .task) a.2.tasks), .r [] (.int .i64 a.2.run), .r [] (.int .i64 a.2.left), .r [] (.int .i64 a.2.turns), .r [] (.int .i64 a.2.next)])], []⟩
def slices_IndexFunc_lI_Task_I_Task_m9_dec (a : List Task × Sched) (o : MOut) : Option (Int) := match o with
  | ⟨.r [] (.int .i64 z1), [some (.arr (some []) (.st .task) z2), some (.box [.fn (.func 199) [] [.ptr 2 0 0]]), some (.box [.r [] (.int .i64 z3), .r [] (.int .i64 z4), .r [] (.int .i64 z5), .r [] (.sl (.st .task) z6), .r [] (.int .i64 z7), .r [] (.int .i64 z8), .r [] (.int .i64 z9), .r [] (.int .i64 z10)])], []⟩ => cond (@sameL (List Task) _ z2 a.1) (cond (@sameL Int _ z3 a.2.now) (cond (@sameL Int _ z4 a.2.slack) (cond (@sameL Int _ z5 a.2.age) (cond (@sameL (List Task) _ z6 a.2.tasks) (cond (@sameL Int _ z7 a.2.run) (cond (@sameL Int _ z8 a.2.left) (cond (@sameL Int _ z9 a.2.turns) (cond (@sameL Int _ z10 a.2.next) (some z1) none) none) none) none) none) none) none) none) none
  | _ => none
def slices_IndexFunc_lI_Task_I_Task_m9_G (k : Nat) : MG := fun _ l b K => (slices_IndexFunc_lI_Task_I_Task_m9_argD l b).bind fun a => (slices_IndexFunc_lI_Task_I_Task_m9 k a.1 a.2).bind fun r => K (slices_IndexFunc_lI_Task_I_Task_m9_enc a r)
theorem slices_IndexFunc_lI_Task_I_Task_m9_ev (k : Nat) (a : List Task × Sched) : ev (E_slices_IndexFunc_lI_Task_I_Task_m9 k) (LP_slices_IndexFunc_lI_Task_I_Task_m9 (Int) k) 0 c_slices_IndexFunc_lI_Task_I_Task_m9 (st0M Try.f167 (slices_IndexFunc_lI_Task_I_Task_m9_args a) (slices_IndexFunc_lI_Task_I_Task_m9_blks a)) (finM Try.prog Try.f167 (.sc) [.arr, .box [.fn [] [.ptr]], .box [.sc, .sc, .sc, .ro (.st .task), .sc, .sc, .sc, .sc]] (slices_IndexFunc_lI_Task_I_Task_m9_dec a)) = slices_IndexFunc_lI_Task_I_Task_m9 k a.1 a.2 := by kernel_rfl
theorem slices_IndexFunc_lI_Task_I_Task_m9_ok (k : Nat) : MutOk Try.prog 167 (slices_IndexFunc_lI_Task_I_Task_m9_G k) :=
  mutOk_of_ev (E_slices_IndexFunc_lI_Task_I_Task_m9_ok k) Try.func167 (by kernel_rfl) (by kernel_rfl) slices_IndexFunc_lI_Task_I_Task_m9_args slices_IndexFunc_lI_Task_I_Task_m9_blks slices_IndexFunc_lI_Task_I_Task_m9_argD
    (fun l b a h => by unfold slices_IndexFunc_lI_Task_I_Task_m9_argD at h; split at h <;> first | (cases h; exact ⟨rfl, rfl⟩) | cases h) (fun a => rfl) (lpgood_of (l := [(0, b_slices_IndexFunc_lI_Task_I_Task_m9_0)]) (by kernel_rfl) ⟨slices_IndexFunc_lI_Task_I_Task_m9_g0_ok k, trivial⟩) (fun a r => rfl)
    (fun a o r h => by unfold slices_IndexFunc_lI_Task_I_Task_m9_dec at h; split at h <;> first | (obtain ⟨e0, e1, e2, e3, e4, e5, e6, e7, e8, hq⟩ := dec_chk9 h; clear h; subst e0; subst e1; subst e2; subst e3; subst e4; subst e5; subst e6; subst e7; subst e8; have h := hq; clear hq; cases h; rfl) | cases h) (slices_IndexFunc_lI_Task_I_Task_m9_ev k)
def o_slices_IndexFunc_lI_Task_I_Task_m9 (k : Nat) : Orc := mutOrc [.keep, .keep] (slices_IndexFunc_lI_Task_I_Task_m9_G k)
theorem o_slices_IndexFunc_lI_Task_I_Task_m9_ok (k : Nat) : OrcOk Try.prog 167 (o_slices_IndexFunc_lI_Task_I_Task_m9 k) := mutOrc_ok (slices_IndexFunc_lI_Task_I_Task_m9_ok k)
/-! ### 169 slices.DeleteFunc[[]loop.example/g00778/impl.Task,loop.example/g00778/impl.Task] -/
noncomputable def E_slices_DeleteFunc_lI_Task_I_Task_m8 (k : Nat) : Env := { P := Try.prog, tt := tt, orc := fun g => cond (Nat.beq g 167) (o_slices_IndexFunc_lI_Task_I_Task_m9 k) (cond (Nat.beq g 205) (o_I_Sched_first_c1_m4 k) (noOrc)), wr := fun g => mem g [167, 205], wt := true }
theorem E_slices_DeleteFunc_lI_Task_I_Task_m8_ok (k : Nat) : EnvOk (E_slices_DeleteFunc_lI_Task_I_Task_m8 k) := fun g => (orc_cond (o_slices_IndexFunc_lI_Task_I_Task_m9_ok k) (orc_cond (o_I_Sched_first_c1_m4_ok k) (noOrc_ok _ _)))
noncomputable def c_slices_DeleteFunc_lI_Task_I_Task_m8 : Code := (Try.f169.body).getD .skip
noncomputable def b_slices_DeleteFunc_lI_Task_I_Task_m8_0 : Code := ((loopsIn 0 c_slices_DeleteFunc_lI_Task_I_Task_m8).getD 0 (0, .skip)).2
def slices_DeleteFunc_lI_Task_I_Task_m8_g0_keep : List Nat := [0, 1, 5, 6]
def slices_DeleteFunc_lI_Task_I_Task_m8_g0_co : List (Where × Co) := []
def slices_DeleteFunc_lI_Task_I_Task_m8_g0_kx : Ex → List Nat
  | .exit j => cond (Nat.beq j 0) [0, 5] []
  | .ret => []
  | .normal => []
def slices_DeleteFunc_lI_Task_I_Task_m8_g0_cx : Ex → List (Where × Co)
  | .exit j => cond (Nat.beq j 0) [] []
  | .ret => []
  | .normal => []
def slices_DeleteFunc_lI_Task_I_Task_m8_g0_tm (pv : (Int × Int × Int × List Task × Int × Int × Int × Int) × (Int × Int × List Task)) : St := { slots := [(0, .own 0), (1, .fn (.func 205) [] [.ptr 1 0 0]), (5, .r [] (.int .i64 pv.2.1)), (6, .r [] (.int .i64 pv.2.2.1))], heap := [(0, .arr (some []) (.st .task) pv.2.2.2), (1, .box [.fn (.func 199) [] [.ptr 2 0 0]]), (2, .box [.r [] (.int .i64 pv.1.1), .r [] (.int .i64 pv.1.2.1), .r [] (.int .i64 pv.1.2.2.1), .r [] (.sl (.st .task) pv.1.2.2.2.1), .r [] (.int .i64 pv.1.2.2.2.2.1), .r [] (.int .i64 pv.1.2.2.2.2.2.1), .r [] (.int .i64 pv.1.2.2.2.2.2.2.1), .r [] (.int .i64 pv.1.2.2.2.2.2.2.2)])], nid := 3, n := 42, gh := [some 0, some 1, some 2] }
def slices_DeleteFunc_lI_Task_I_Task_m8_g0_dec (nf : NF) : Option ((Int × Int × Int × List Task × Int × Int × Int × Int) × (Int × Int × List Task)) := match nf with
  | ([.own 0, .fn (.func 205) [] [.ptr 1 0 0], .r [] (.int .i64 w0), .r [] (.int .i64 w1)], [.arr (some []) (.st .task) w2, .box [.fn (.func 199) [] [.ptr 2 0 0]], .box [.r [] (.int .i64 w3), .r [] (.int .i64 w4), .r [] (.int .i64 w5), .r [] (.sl (.st .task) w6), .r [] (.int .i64 w7), .r [] (.int .i64 w8), .r [] (.int .i64 w9), .r [] (.int .i64 w10)]], [some 0, some 1, some 2]) => some ((w3, w4, w5, w6, w7, w8, w9, w10), (w0, w1, w2))
  | _ => none
theorem slices_DeleteFunc_lI_Task_I_Task_m8_g0_hd (nf : NF) (v : (Int × Int × Int × List Task × Int × Int × Int × Int) × (Int × Int × List Task)) (h : slices_DeleteFunc_lI_Task_I_Task_m8_g0_dec nf = some v) : denorm slices_DeleteFunc_lI_Task_I_Task_m8_g0_keep 42 nf = slices_DeleteFunc_lI_Task_I_Task_m8_g0_tm v := by
  unfold slices_DeleteFunc_lI_Task_I_Task_m8_g0_dec at h
  split at h
  · cases h; rfl
  · cases h
def slices_DeleteFunc_lI_Task_I_Task_m8_g0_x0 (p : Int × Int × Int × List Task × Int × Int × Int × Int) (x : Int × List Task) : St := { slots := [(0, .own 0), (5, .r [] (.int .i64 x.1))], heap := [(0, .arr (some []) (.st .task) x.2), (1, .box [.fn (.func 199) [] [.ptr 2 0 0]]), (2, .box [.r [] (.int .i64 p.1), .r [] (.int .i64 p.2.1), .r [] (.int .i64 p.2.2.1), .r [] (.sl (.st .task) p.2.2.2.1), .r [] (.int .i64 p.2.2.2.2.1), .r [] (.int .i64 p.2.2.2.2.2.1), .r [] (.int .i64 p.2.2.2.2.2.2.1), .r [] (.int .i64 p.2.2.2.2.2.2.2)])], nid := 3, n := 42, gh := [some 0, some 1, some 2] }
def LP_slices_DeleteFunc_lI_Task_I_Task_m8 (ρ : Type) (k : Nat) : Nat → Ev ρ → Ev ρ := fun id f => cond (Nat.beq id 0) (loopOrc slices_DeleteFunc_lI_Task_I_Task_m8_g0_keep slices_DeleteFunc_lI_Task_I_Task_m8_g0_co (fun n nf => cond (Nat.beq n 42) (slices_DeleteFunc_lI_Task_I_Task_m8_g0_dec nf) none) fun pv K => iter (fun v next => slices_DeleteFunc_lI_Task_I_Task_m8_g0 k pv.1 v next (fun x => K (.exit 0) (slices_DeleteFunc_lI_Task_I_Task_m8_g0_x0 pv.1 x))) k pv.2) ((fun _ _ _ _ => none) id f)
theorem slices_DeleteFunc_lI_Task_I_Task_m8_g0_round {ρ : Type} (k : Nat) (p : Int × Int × Int × List Task × Int × Int × Int × Int) (v : Int × Int × List Task) (K K1 : Ex → St → Option ρ) : ev (E_slices_DeleteFunc_lI_Task_I_Task_m8 k) (LP_slices_DeleteFunc_lI_Task_I_Task_m8 ρ k) 0 b_slices_DeleteFunc_lI_Task_I_Task_m8_0 (slices_DeleteFunc_lI_Task_I_Task_m8_g0_tm (p, v)) (fun e st' => match e with
    | .normal => (normC slices_DeleteFunc_lI_Task_I_Task_m8_g0_keep slices_DeleteFunc_lI_Task_I_Task_m8_g0_co st').bind fun nf => K1 .normal (denorm slices_DeleteFunc_lI_Task_I_Task_m8_g0_keep st'.n nf)
    | e => (normC (slices_DeleteFunc_lI_Task_I_Task_m8_g0_kx e) (slices_DeleteFunc_lI_Task_I_Task_m8_g0_cx e) st').bind fun nf => K e (denorm (slices_DeleteFunc_lI_Task_I_Task_m8_g0_kx e) st'.n nf)) = slices_DeleteFunc_lI_Task_I_Task_m8_g0 k p v (fun v' => K1 .normal (slices_DeleteFunc_lI_Task_I_Task_m8_g0_tm (p, v'))) (fun x => K (.exit 0) (slices_DeleteFunc_lI_Task_I_Task_m8_g0_x0 p x)) := by kernel_rfl
theorem slices_DeleteFunc_lI_Task_I_Task_m8_g0_ok {ρ : Type} (k : Nat) : Sound Try.prog (.loop b_slices_DeleteFunc_lI_Task_I_Task_m8_0) (LP_slices_DeleteFunc_lI_Task_I_Task_m8 ρ k 0 fun st K => ev (E_slices_DeleteFunc_lI_Task_I_Task_m8 k) (LP_slices_DeleteFunc_lI_Task_I_Task_m8 ρ k) 0 b_slices_DeleteFunc_lI_Task_I_Task_m8_0 st K) :=
  loop_ok (ev_sound (E_slices_DeleteFunc_lI_Task_I_Task_m8_ok k) b_slices_DeleteFunc_lI_Task_I_Task_m8_0 0 (lpgood_none (by kernel_rfl))) slices_DeleteFunc_lI_Task_I_Task_m8_g0_kx slices_DeleteFunc_lI_Task_I_Task_m8_g0_cx k (g := fun p v next K => slices_DeleteFunc_lI_Task_I_Task_m8_g0 k p v next (fun x => K (.exit 0) (slices_DeleteFunc_lI_Task_I_Task_m8_g0_x0 p x))) (dec_at slices_DeleteFunc_lI_Task_I_Task_m8_g0_hd) (fun p v K K1 => slices_DeleteFunc_lI_Task_I_Task_m8_g0_round k p v K K1)
def slices_DeleteFunc_lI_Task_I_Task_m8_args (a : List Task × Sched) : List SV := [.own 0, .fn (.func 205) [] [.ptr 1 0 0]]
def slices_DeleteFunc_lI_Task_I_Task_m8_blks (a : List Task × Sched) : List Blk := [.arr (some []) (.st .task) a.1, .box [.fn (.func 199) [] [.ptr 2 0 0]], .box [.r [] (.int .i64 a.2.now), .r [] (.int .i64 a.2.slack), .r [] (.int .i64 a.2.age), .r [] (.sl (.st .task) a.2.tasks), .r [] (.int .i64 a.2.run), .r [] (.int .i64 a.2.left), .r [] (.int .i64 a.2.turns), .r [] (.int .i64 a.2.next)]]
def slices_DeleteFunc_lI_Task_I_Task_m8_argD (l : List SV) (b : List Blk) : Option (List Task × Sched) := match l, b with
  | [.own 0, .fn (.func 205) [] [.ptr 1 0 0]], [.arr (some []) (.st .task) w0, .box [.fn (.func 199) [] [.ptr 2 0 0]], .box [.r [] (.int .i64 w1), .r [] (.int .i64 w2), .r [] (.int .i64 w3), .r [] (.sl (.st .task) w4), .r [] (.int .i64 w5), .r [] (.int .i64 w6), .r [] (.int .i64 w7), .r [] (.int .i64 w8)]] => some (w0, (⟨w1, w2, w3, w4, w5, w6, w7, w8⟩ : Sched))
  | _, _ => none
def slices_DeleteFunc_lI_Task_I_Task_m8_enc (a : List Task × Sched) (r : List Task) : MOut := ⟨.own 3, [none, some (.box [.fn (.func 199) [] [.ptr 2 0 0]]), some (.box [.r [] (.int .i64 a.2.now), .r [] (.int .i64 a.2.slack), .r [] (.int .i64 a.2.age), .r [] (.sl (.st .task) a.2.tasks), .r [] (.int .i64 a.2.run), .r [] (.int .i64 a.2.left), .r [] (.int .i64 a.2.turns), .r [] (.int .i64 a.2.next)])], [.arr (some []) (.st .task) r]⟩
def slices_DeleteFunc_lI_Task_I_Task_m8_dec (a : List Task × Sched) (o : MOut) : Option (List Task) := match o with
  | ⟨.own 3, [none, some (.box [.fn (.func 199) [] [.ptr 2 0 0]]), some (.box [.r [] (.int .i64 z1), .r [] (.int .i64 z2), .r [] (.int .i64 z3), .r [] (.sl (.st .task) z4), .r [] (.int .i64 z5), .r [] (.int .i64 z6), .r [] (.int .i64 z7), .r [] (.int .i64 z8)])], [.arr (some []) (.st .task) z9]⟩ => cond (@sameL Int _ z1 a.2.now) (cond (@sameL Int _ z2 a.2.slack) (cond (@sameL Int _ z3 a.2.age) (cond (@sameL (List Task) _ z4 a.2.tasks) (cond (@sameL Int _ z5 a.2.run) (cond (@sameL Int _ z6 a.2.left) (cond (@sameL Int _ z7 a.2.turns) (cond (@sameL Int _ z8 a.2.next) (some z9) none) none) none) none) none) none) none) none
  | _ => none
def slices_DeleteFunc_lI_Task_I_Task_m8_G (k : Nat) : MG := fun _ l b K => (slices_DeleteFunc_lI_Task_I_Task_m8_argD l b).bind fun a => (slices_DeleteFunc_lI_Task_I_Task_m8 k a.1 a.2).bind fun r => K (slices_DeleteFunc_lI_Task_I_Task_m8_enc a r)
theorem slices_DeleteFunc_lI_Task_I_Task_m8_ev (k : Nat) (a : List Task × Sched) : ev (E_slices_DeleteFunc_lI_Task_I_Task_m8 k) (LP_slices_DeleteFunc_lI_Task_I_Task_m8 (List Task) k) 0 c_slices_DeleteFunc_lI_Task_I_Task_m8 (st0M Try.f169 (slices_DeleteFunc_lI_Task_I_Task_m8_args a) (slices_DeleteFunc_lI_Task_I_Task_m8_blks a)) (finM Try.prog Try.f169 (.shl (.st .task)) [.gone, .box [.fn [] [.ptr]], .box [.sc, .sc, .sc, .ro (.st .task), .sc, .sc, .sc, .sc]] (slices_DeleteFunc_lI_Task_I_Task_m8_dec a)) = slices_DeleteFunc_lI_Task_I_Task_m8 k a.1 a.2 := by kernel_rfl
theorem slices_DeleteFunc_lI_Task_I_Task_m8_ok (k : Nat) : MutOk Try.prog 169 (slices_DeleteFunc_lI_Task_I_Task_m8_G k) :=
  mutOk_of_ev (E_slices_DeleteFunc_lI_Task_I_Task_m8_ok k) Try.func169 (by kernel_rfl) (by kernel_rfl) slices_DeleteFunc_lI_Task_I_Task_m8_args slices_DeleteFunc_lI_Task_I_Task_m8_blks slices_DeleteFunc_lI_Task_I_Task_m8_argD
    (fun l b a h => by unfold slices_DeleteFunc_lI_Task_I_Task_m8_argD at h; split at h <;> first | (cases h; exact ⟨rfl, rfl⟩) | cases h) (fun a => rfl) (lpgood_of (l := [(0, b_slices_DeleteFunc_lI_Task_I_Task_m8_0)]) (by kernel_rfl) ⟨slices_DeleteFunc_lI_Task_I_Task_m8_g0_ok k, trivial⟩) (fun a r => rfl)
    (fun a o r h => by unfold slices_DeleteFunc_lI_Task_I_Task_m8_dec at h; split at h <;> first | (obtain ⟨e0, e1, e2, e3, e4, e5, e6, e7, hq⟩ := dec_chk8 h; clear h; subst e0; subst e1; subst e2; subst e3; subst e4; subst e5; subst e6; subst e7; have h := hq; clear hq; cases h; rfl) | cases h) (slices_DeleteFunc_lI_Task_I_Task_m8_ev k)
def o_slices_DeleteFunc_lI_Task_I_Task_m8 (k : Nat) : Orc := mutOrc [.keep, .keep] (slices_DeleteFunc_lI_Task_I_Task_m8_G k)
theorem o_slices_DeleteFunc_lI_Task_I_Task_m8_ok (k : Nat) : OrcOk Try.prog 169 (o_slices_DeleteFunc_lI_Task_I_Task_m8 k) := mutOrc_ok (slices_DeleteFunc_lI_Task_I_Task_m8_ok k)
/-! ### 200 (loop.example/g00778/impl.Sched).pick$3 -/
noncomputable def E_I_Sched_pick_c3 (k : Nat) : Env := { P := Try.prog, tt := tt, orc := fun g => noOrc }
theorem E_I_Sched_pick_c3_ok (k : Nat) : EnvOk (E_I_Sched_pick_c3 k) := fun g => (noOrc_ok _ _)
noncomputable def c_I_Sched_pick_c3 : Code := (Try.f200.body).getD .skip
def LP_I_Sched_pick_c3 (ρ : Type) (k : Nat) : Nat → Ev ρ → Ev ρ := fun _ _ _ _ => none
def I_Sched_pick_c3_args (a : Task) : List Arg := [.agg [.int .i64 a.id, .sl (.int .i64) a.costs, .int .i64 a.at_, .int .i64 a.due, .int .i64 a.born]]
def I_Sched_pick_c3_argD (l : List Arg) : Option (Task) := match l with
  | [.agg [.int .i64 b0_0, .sl (.int .i64) b0_1, .int .i64 b0_2, .int .i64 b0_3, .int .i64 b0_4]] => some (⟨b0_0, b0_1, b0_2, b0_3, b0_4⟩ : Task)
  | _ => none
def I_Sched_pick_c3_enc (r : Int) : Out := (.r [] (.int .i64 r), [])
def I_Sched_pick_c3_dec (o : Out) : Option (Int) := match o with
  | (.r [] (.int .i64 z1), []) => some z1
  | _ => none
def I_Sched_pick_c3_G (k : Nat) : PG := fun _ l K => (I_Sched_pick_c3_argD l).bind fun a => (I_Sched_pick_c3 k a).bind fun r => K (I_Sched_pick_c3_enc r)
theorem I_Sched_pick_c3_ev (k : Nat) (a : Task) : ev (E_I_Sched_pick_c3 k) (LP_I_Sched_pick_c3 (Int) k) 0 c_I_Sched_pick_c3 (st0 Try.f200 (I_Sched_pick_c3_args a)) (fin Try.prog Try.f200 (.sc) I_Sched_pick_c3_dec) = I_Sched_pick_c3 k a := by kernel_rfl
theorem I_Sched_pick_c3_ok (k : Nat) : PureOk Try.prog 200 (I_Sched_pick_c3_G k) :=
  pureOk_of_ev (E_I_Sched_pick_c3_ok k) Try.func200 (by kernel_rfl) (by kernel_rfl) I_Sched_pick_c3_args I_Sched_pick_c3_argD
    (fun l a h => by unfold I_Sched_pick_c3_argD at h; split at h <;> first | (cases h; rfl) | cases h) (fun a => rfl) (lpgood_none (by kernel_rfl))
    (fun o r h => by unfold I_Sched_pick_c3_dec at h; split at h <;> first | (cases h; rfl) | cases h) (I_Sched_pick_c3_ev k)
def o_I_Sched_pick_c3 (k : Nat) : Orc := pureOrc [.agg [(.int .i64), (.sl (.int .i64)), (.int .i64), (.int .i64), (.int .i64)]] (I_Sched_pick_c3_G k)
theorem o_I_Sched_pick_c3_ok (k : Nat) : OrcOk Try.prog 200 (o_I_Sched_pick_c3 k) := pureOrc_ok (I_Sched_pick_c3_ok k)
/-! ### 207 (loop.example/g00778/impl.Sched).first$2 -/
noncomputable def E_I_Sched_first_c2_m2 (k : Nat) : Env := { P := Try.prog, tt := tt, orc := fun g => cond (Nat.beq g 136) (o_cmp_Compare_int k) (cond (Nat.beq g 200) (o_I_Sched_pick_c3 k) (cond (Nat.beq g 208) (o_cmp_Or_int k) (noOrc))) }
theorem E_I_Sched_first_c2_m2_ok (k : Nat) : EnvOk (E_I_Sched_first_c2_m2 k) := fun g => (orc_cond (o_cmp_Compare_int_ok k) (orc_cond (o_I_Sched_pick_c3_ok k) (orc_cond (o_cmp_Or_int_ok k) (noOrc_ok _ _))))
noncomputable def c_I_Sched_first_c2_m2 : Code := (Try.f207.body).getD .skip
def LP_I_Sched_first_c2_m2 (ρ : Type) (k : Nat) : Nat → Ev ρ → Ev ρ := fun _ _ _ _ => none
def I_Sched_first_c2_m2_args (a : Task × Task) : List SV := [.agg [.r [] (.int .i64 a.1.id), .r [] (.sl (.int .i64) a.1.costs), .r [] (.int .i64 a.1.at_), .r [] (.int .i64 a.1.due), .r [] (.int .i64 a.1.born)], .agg [.r [] (.int .i64 a.2.id), .r [] (.sl (.int .i64) a.2.costs), .r [] (.int .i64 a.2.at_), .r [] (.int .i64 a.2.due), .r [] (.int .i64 a.2.born)], .ptr 0 0 0]
def I_Sched_first_c2_m2_blks (a : Task × Task) : List Blk := [.box [.fn (.func 200) [] []]]
def I_Sched_first_c2_m2_argD (l : List SV) (b : List Blk) : Option (Task × Task) := match l, b with
  | [.agg [.r [] (.int .i64 w0), .r [] (.sl (.int .i64) w1), .r [] (.int .i64 w2), .r [] (.int .i64 w3), .r [] (.int .i64 w4)], .agg [.r [] (.int .i64 w5), .r [] (.sl (.int .i64) w6), .r [] (.int .i64 w7), .r [] (.int .i64 w8), .r [] (.int .i64 w9)], .ptr 0 0 0], [.box [.fn (.func 200) [] []]] => some ((⟨w0, w1, w2, w3, w4⟩ : Task), (⟨w5, w6, w7, w8, w9⟩ : Task))
  | _, _ => none
def I_Sched_first_c2_m2_enc (a : Task × Task) (r : Int) : MOut := ⟨.r [] (.int .i64 r), [some (.box [.fn (.func 200) [] []])], []⟩
def I_Sched_first_c2_m2_dec (a : Task × Task) (o : MOut) : Option (Int) := match o with
  | ⟨.r [] (.int .i64 z1), [some (.box [.fn (.func 200) [] []])], []⟩ => some z1
  | _ => none
def I_Sched_first_c2_m2_G (k : Nat) : MG := fun _ l b K => (I_Sched_first_c2_m2_argD l b).bind fun a => (I_Sched_first_c2_m2 k a.1 a.2).bind fun r => K (I_Sched_first_c2_m2_enc a r)
theorem I_Sched_first_c2_m2_ev (k : Nat) (a : Task × Task) : ev (E_I_Sched_first_c2_m2 k) (LP_I_Sched_first_c2_m2 (Int) k) 0 c_I_Sched_first_c2_m2 (st0M Try.f207 (I_Sched_first_c2_m2_args a) (I_Sched_first_c2_m2_blks a)) (finM Try.prog Try.f207 (.sc) [.box [.fn [] []]] (I_Sched_first_c2_m2_dec a)) = I_Sched_first_c2_m2 k a.1 a.2 := by kernel_rfl
theorem I_Sched_first_c2_m2_ok (k : Nat) : MutOk Try.prog 207 (I_Sched_first_c2_m2_G k) :=
  mutOk_of_ev (E_I_Sched_first_c2_m2_ok k) Try.func207 (by kernel_rfl) (by kernel_rfl) I_Sched_first_c2_m2_args I_Sched_first_c2_m2_blks I_Sched_first_c2_m2_argD
    (fun l b a h => by unfold I_Sched_first_c2_m2_argD at h; split at h <;> first | (cases h; exact ⟨rfl, rfl⟩) | cases h) (fun a => rfl) (lpgood_none (by kernel_rfl)) (fun a r => rfl)
    (fun a o r h => by unfold I_Sched_first_c2_m2_dec at h; split at h <;> first | (skip; cases h; rfl) | cases h) (I_Sched_first_c2_m2_ev k)
def o_I_Sched_first_c2_m2 (k : Nat) : Orc := mutOrc [.agg [(.int .i64), (.sl (.int .i64)), (.int .i64), (.int .i64), (.int .i64)], .agg [(.int .i64), (.sl (.int .i64)), (.int .i64), (.int .i64), (.int .i64)], .keep] (I_Sched_first_c2_m2_G k)
theorem o_I_Sched_first_c2_m2_ok (k : Nat) : OrcOk Try.prog 207 (o_I_Sched_first_c2_m2 k) := mutOrc_ok (I_Sched_first_c2_m2_ok k)
/-! ### 206 slices.MinFunc[[]loop.example/g00778/impl.Task,loop.example/g00778/impl.Task] -/
noncomputable def E_slices_MinFunc_lI_Task_I_Task_m2 (k : Nat) : Env := { P := Try.prog, tt := tt, orc := fun g => cond (Nat.beq g 207) (o_I_Sched_first_c2_m2 k) (noOrc), wr := fun g => mem g [207], wt := true }
theorem E_slices_MinFunc_lI_Task_I_Task_m2_ok (k : Nat) : EnvOk (E_slices_MinFunc_lI_Task_I_Task_m2 k) := fun g => (orc_cond (o_I_Sched_first_c2_m2_ok k) (noOrc_ok _ _))
noncomputable def c_slices_MinFunc_lI_Task_I_Task_m2 : Code := (Try.f206.body).getD .skip
noncomputable def b_slices_MinFunc_lI_Task_I_Task_m2_0 : Code := ((loopsIn 0 c_slices_MinFunc_lI_Task_I_Task_m2).getD 0 (0, .skip)).2
def slices_MinFunc_lI_Task_I_Task_m2_g0_keep : List Nat := [0, 1, 4, 5, 6]
def slices_MinFunc_lI_Task_I_Task_m2_g0_co : List (Where × Co) := []
def slices_MinFunc_lI_Task_I_Task_m2_g0_kx : Ex → List Nat
  | .exit j => cond (Nat.beq j 0) [4, 5] []
  | .ret => []
  | .normal => []
def slices_MinFunc_lI_Task_I_Task_m2_g0_cx : Ex → List (Where × Co)
  | .exit j => cond (Nat.beq j 0) [] []
  | .ret => []
  | .normal => []
def slices_MinFunc_lI_Task_I_Task_m2_g0_tm (pv : (List Task × Int × Int × Int × Int) × (Int × Int × List Int × Int × Int × Int)) : St := { slots := [(0, .r [] (.sl (.st .task) pv.1.1)), (1, .fn (.func 207) [] [.ptr 0 0 0]), (4, .ptr 1 0 0), (5, .ptr 2 0 0), (6, .r [] (.int .i64 pv.2.1))], heap := [(0, .box [.fn (.func 200) [] []]), (1, .box [.r [] (.int .i64 pv.1.2.1), .nilS, .r [] (.int .i64 pv.1.2.2.1), .r [] (.int .i64 pv.1.2.2.2.1), .r [] (.int .i64 pv.1.2.2.2.2)]), (2, .box [.r [] (.int .i64 pv.2.2.1), .r [] (.sl (.int .i64) pv.2.2.2.1), .r [] (.int .i64 pv.2.2.2.2.1), .r [] (.int .i64 pv.2.2.2.2.2.1), .r [] (.int .i64 pv.2.2.2.2.2.2)])], nid := 3, n := 33, gh := [some 0] }
def slices_MinFunc_lI_Task_I_Task_m2_g0_dec (nf : NF) : Option ((List Task × Int × Int × Int × Int) × (Int × Int × List Int × Int × Int × Int)) := match nf with
  | ([.r [] (.sl (.st .task) w0), .fn (.func 207) [] [.ptr 0 0 0], .ptr 1 0 0, .ptr 2 0 0, .r [] (.int .i64 w1)], [.box [.fn (.func 200) [] []], .box [.r [] (.int .i64 w2), .nilS, .r [] (.int .i64 w3), .r [] (.int .i64 w4), .r [] (.int .i64 w5)], .box [.r [] (.int .i64 w6), .r [] (.sl (.int .i64) w7), .r [] (.int .i64 w8), .r [] (.int .i64 w9), .r [] (.int .i64 w10)]], [some 0]) => some ((w0, w2, w3, w4, w5), (w1, w6, w7, w8, w9, w10))
  | _ => none
theorem slices_MinFunc_lI_Task_I_Task_m2_g0_hd (nf : NF) (v : (List Task × Int × Int × Int × Int) × (Int × Int × List Int × Int × Int × Int)) (h : slices_MinFunc_lI_Task_I_Task_m2_g0_dec nf = some v) : denorm slices_MinFunc_lI_Task_I_Task_m2_g0_keep 33 nf = slices_MinFunc_lI_Task_I_Task_m2_g0_tm v := by
  unfold slices_MinFunc_lI_Task_I_Task_m2_g0_dec at h
  split at h
  · cases h; rfl
  · cases h
def slices_MinFunc_lI_Task_I_Task_m2_g0_x0 (p : List Task × Int × Int × Int × Int) (x : Int × List Int × Int × Int × Int) : St := { slots := [(4, .ptr 0 0 0), (5, .ptr 1 0 0)], heap := [(0, .box [.r [] (.int .i64 p.2.1), .nilS, .r [] (.int .i64 p.2.2.1), .r [] (.int .i64 p.2.2.2.1), .r [] (.int .i64 p.2.2.2.2)]), (1, .box [.r [] (.int .i64 x.1), .r [] (.sl (.int .i64) x.2.1), .r [] (.int .i64 x.2.2.1), .r [] (.int .i64 x.2.2.2.1), .r [] (.int .i64 x.2.2.2.2)]), (2, .box [.fn (.func 200) [] []])], nid := 3, n := 33, gh := [some 2] }
def LP_slices_MinFunc_lI_Task_I_Task_m2 (ρ : Type) (k : Nat) : Nat → Ev ρ → Ev ρ := fun id f => cond (Nat.beq id 0) (loopOrc slices_MinFunc_lI_Task_I_Task_m2_g0_keep slices_MinFunc_lI_Task_I_Task_m2_g0_co (fun n nf => cond (Nat.beq n 33) (slices_MinFunc_lI_Task_I_Task_m2_g0_dec nf) none) fun pv K => iter (fun v next => slices_MinFunc_lI_Task_I_Task_m2_g0 k pv.1 v next (fun x => K (.exit 0) (slices_MinFunc_lI_Task_I_Task_m2_g0_x0 pv.1 x))) k pv.2) ((fun _ _ _ _ => none) id f)
theorem slices_MinFunc_lI_Task_I_Task_m2_g0_round {ρ : Type} (k : Nat) (p : List Task × Int × Int × Int × Int) (v : Int × Int × List Int × Int × Int × Int) (K K1 : Ex → St → Option ρ) : ev (E_slices_MinFunc_lI_Task_I_Task_m2 k) (LP_slices_MinFunc_lI_Task_I_Task_m2 ρ k) 0 b_slices_MinFunc_lI_Task_I_Task_m2_0 (slices_MinFunc_lI_Task_I_Task_m2_g0_tm (p, v)) (fun e st' => match e with
    | .normal => (normC slices_MinFunc_lI_Task_I_Task_m2_g0_keep slices_MinFunc_lI_Task_I_Task_m2_g0_co st').bind fun nf => K1 .normal (denorm slices_MinFunc_lI_Task_I_Task_m2_g0_keep st'.n nf)
    | e => (normC (slices_MinFunc_lI_Task_I_Task_m2_g0_kx e) (slices_MinFunc_lI_Task_I_Task_m2_g0_cx e) st').bind fun nf => K e (denorm (slices_MinFunc_lI_Task_I_Task_m2_g0_kx e) st'.n nf)) = slices_MinFunc_lI_Task_I_Task_m2_g0 k p v (fun v' => K1 .normal (slices_MinFunc_lI_Task_I_Task_m2_g0_tm (p, v'))) (fun x => K (.exit 0) (slices_MinFunc_lI_Task_I_Task_m2_g0_x0 p x)) := by kernel_rfl
theorem slices_MinFunc_lI_Task_I_Task_m2_g0_ok {ρ : Type} (k : Nat) : Sound Try.prog (.loop b_slices_MinFunc_lI_Task_I_Task_m2_0) (LP_slices_MinFunc_lI_Task_I_Task_m2 ρ k 0 fun st K => ev (E_slices_MinFunc_lI_Task_I_Task_m2 k) (LP_slices_MinFunc_lI_Task_I_Task_m2 ρ k) 0 b_slices_MinFunc_lI_Task_I_Task_m2_0 st K) :=
  loop_ok (ev_sound (E_slices_MinFunc_lI_Task_I_Task_m2_ok k) b_slices_MinFunc_lI_Task_I_Task_m2_0 0 (lpgood_none (by kernel_rfl))) slices_MinFunc_lI_Task_I_Task_m2_g0_kx slices_MinFunc_lI_Task_I_Task_m2_g0_cx k (g := fun p v next K => slices_MinFunc_lI_Task_I_Task_m2_g0 k p v next (fun x => K (.exit 0) (slices_MinFunc_lI_Task_I_Task_m2_g0_x0 p x))) (dec_at slices_MinFunc_lI_Task_I_Task_m2_g0_hd) (fun p v K K1 => slices_MinFunc_lI_Task_I_Task_m2_g0_round k p v K K1)
def slices_MinFunc_lI_Task_I_Task_m2_args (a : List Task) : List SV := [.r [] (.sl (.st .task) a), .fn (.func 207) [] [.ptr 0 0 0]]
def slices_MinFunc_lI_Task_I_Task_m2_blks (a : List Task) : List Blk := [.box [.fn (.func 200) [] []]]
def slices_MinFunc_lI_Task_I_Task_m2_argD (l : List SV) (b : List Blk) : Option (List Task) := match l, b with
  | [.r [] (.sl (.st .task) w0), .fn (.func 207) [] [.ptr 0 0 0]], [.box [.fn (.func 200) [] []]] => some w0
  | _, _ => none
def slices_MinFunc_lI_Task_I_Task_m2_enc (a : List Task) (r : Task) : MOut := ⟨.agg [.r [] (.int .i64 r.id), .r [] (.sl (.int .i64) r.costs), .r [] (.int .i64 r.at_), .r [] (.int .i64 r.due), .r [] (.int .i64 r.born)], [some (.box [.fn (.func 200) [] []])], []⟩
def slices_MinFunc_lI_Task_I_Task_m2_dec (a : List Task) (o : MOut) : Option (Task) := match o with
  | ⟨.agg [.r [] (.int .i64 z1), .r [] (.sl (.int .i64) z2), .r [] (.int .i64 z3), .r [] (.int .i64 z4), .r [] (.int .i64 z5)], [some (.box [.fn (.func 200) [] []])], []⟩ => some (⟨z1, z2, z3, z4, z5⟩ : Task)
  | _ => none
def slices_MinFunc_lI_Task_I_Task_m2_G (k : Nat) : MG := fun _ l b K => (slices_MinFunc_lI_Task_I_Task_m2_argD l b).bind fun a => (slices_MinFunc_lI_Task_I_Task_m2 k a).bind fun r => K (slices_MinFunc_lI_Task_I_Task_m2_enc a r)
theorem slices_MinFunc_lI_Task_I_Task_m2_ev (k : Nat) (a : List Task) : ev (E_slices_MinFunc_lI_Task_I_Task_m2 k) (LP_slices_MinFunc_lI_Task_I_Task_m2 (Task) k) 0 c_slices_MinFunc_lI_Task_I_Task_m2 (st0M Try.f206 (slices_MinFunc_lI_Task_I_Task_m2_args a) (slices_MinFunc_lI_Task_I_Task_m2_blks a)) (finM Try.prog Try.f206 (.agg [.sc, .ro (.int .i64), .sc, .sc, .sc]) [.box [.fn [] []]] (slices_MinFunc_lI_Task_I_Task_m2_dec a)) = slices_MinFunc_lI_Task_I_Task_m2 k a := by kernel_rfl
theorem slices_MinFunc_lI_Task_I_Task_m2_ok (k : Nat) : MutOk Try.prog 206 (slices_MinFunc_lI_Task_I_Task_m2_G k) :=
  mutOk_of_ev (E_slices_MinFunc_lI_Task_I_Task_m2_ok k) Try.func206 (by kernel_rfl) (by kernel_rfl) slices_MinFunc_lI_Task_I_Task_m2_args slices_MinFunc_lI_Task_I_Task_m2_blks slices_MinFunc_lI_Task_I_Task_m2_argD
    (fun l b a h => by unfold slices_MinFunc_lI_Task_I_Task_m2_argD at h; split at h <;> first | (cases h; exact ⟨rfl, rfl⟩) | cases h) (fun a => rfl) (lpgood_of (l := [(0, b_slices_MinFunc_lI_Task_I_Task_m2_0)]) (by kernel_rfl) ⟨slices_MinFunc_lI_Task_I_Task_m2_g0_ok k, trivial⟩) (fun a r => rfl)
    (fun a o r h => by unfold slices_MinFunc_lI_Task_I_Task_m2_dec at h; split at h <;> first | (skip; cases h; rfl) | cases h) (slices_MinFunc_lI_Task_I_Task_m2_ev k)
def o_slices_MinFunc_lI_Task_I_Task_m2 (k : Nat) : Orc := mutOrc [.one (.sl (.st .task)), .keep] (slices_MinFunc_lI_Task_I_Task_m2_G k)
theorem o_slices_MinFunc_lI_Task_I_Task_m2_ok (k : Nat) : OrcOk Try.prog 206 (o_slices_MinFunc_lI_Task_I_Task_m2 k) := mutOrc_ok (slices_MinFunc_lI_Task_I_Task_m2_ok k)
/-! ### 197 (loop.example/g00778/impl.Sched).first -/
noncomputable def E_I_Sched_first_m2 (k : Nat) : Env := { P := Try.prog, tt := tt, orc := fun g => cond (Nat.beq g 169) (o_slices_DeleteFunc_lI_Task_I_Task_m8 k) (cond (Nat.beq g 204) (o_slices_Clone_lI_Task_I_Task k) (cond (Nat.beq g 206) (o_slices_MinFunc_lI_Task_I_Task_m2 k) (noOrc))), wr := fun g => mem g [169, 206], wt := true }
theorem E_I_Sched_first_m2_ok (k : Nat) : EnvOk (E_I_Sched_first_m2 k) := fun g => (orc_cond (o_slices_DeleteFunc_lI_Task_I_Task_m8_ok k) (orc_cond (o_slices_Clone_lI_Task_I_Task_ok k) (orc_cond (o_slices_MinFunc_lI_Task_I_Task_m2_ok k) (noOrc_ok _ _))))
noncomputable def c_I_Sched_first_m2 : Code := (Try.f197.body).getD .skip
def LP_I_Sched_first_m2 (ρ : Type) (k : Nat) : Nat → Ev ρ → Ev ρ := fun _ _ _ _ => none
def I_Sched_first_m2_args (a : Sched × Sched) : List SV := [.agg [.r [] (.int .i64 a.1.now), .r [] (.int .i64 a.1.slack), .r [] (.int .i64 a.1.age), .r [] (.sl (.st .task) a.1.tasks), .r [] (.int .i64 a.1.run), .r [] (.int .i64 a.1.left), .r [] (.int .i64 a.1.turns), .r [] (.int .i64 a.1.next)], .fn (.func 199) [] [.ptr 0 0 0], .fn (.func 200) [] []]
def I_Sched_first_m2_blks (a : Sched × Sched) : List Blk := [.box [.r [] (.int .i64 a.2.now), .r [] (.int .i64 a.2.slack), .r [] (.int .i64 a.2.age), .r [] (.sl (.st .task) a.2.tasks), .r [] (.int .i64 a.2.run), .r [] (.int .i64 a.2.left), .r [] (.int .i64 a.2.turns), .r [] (.int .i64 a.2.next)]]
def I_Sched_first_m2_argD (l : List SV) (b : List Blk) : Option (Sched × Sched) := match l, b with
  | [.agg [.r [] (.int .i64 w0), .r [] (.int .i64 w1), .r [] (.int .i64 w2), .r [] (.sl (.st .task) w3), .r [] (.int .i64 w4), .r [] (.int .i64 w5), .r [] (.int .i64 w6), .r [] (.int .i64 w7)], .fn (.func 199) [] [.ptr 0 0 0], .fn (.func 200) [] []], [.box [.r [] (.int .i64 w8), .r [] (.int .i64 w9), .r [] (.int .i64 w10), .r [] (.sl (.st .task) w11), .r [] (.int .i64 w12), .r [] (.int .i64 w13), .r [] (.int .i64 w14), .r [] (.int .i64 w15)]] => some ((⟨w0, w1, w2, w3, w4, w5, w6, w7⟩ : Sched), (⟨w8, w9, w10, w11, w12, w13, w14, w15⟩ : Sched))
  | _, _ => none
def I_Sched_first_m2_enc (a : Sched × Sched) (r : Int) : MOut := ⟨.r [] (.int .i64 r), [some (.box [.r [] (.int .i64 a.2.now), .r [] (.int .i64 a.2.slack), .r [] (.int .i64 a.2.age), .r [] (.sl (.st .task) a.2.tasks), .r [] (.int .i64 a.2.run), .r [] (.int .i64 a.2.left), .r [] (.int .i64 a.2.turns), .r [] (.int .i64 a.2.next)])], []⟩
def I_Sched_first_m2_dec (a : Sched × Sched) (o : MOut) : Option (Int) := match o with
  | ⟨.r [] (.int .i64 z1), [some (.box [.r [] (.int .i64 z2), .r [] (.int .i64 z3), .r [] (.int .i64 z4), .r [] (.sl (.st .task) z5), .r [] (.int .i64 z6), .r [] (.int .i64 z7), .r [] (.int .i64 z8), .r [] (.int .i64 z9)])], []⟩ => cond (@sameL Int _ z2 a.2.now) (cond (@sameL Int _ z3 a.2.slack) (cond (@sameL Int _ z4 a.2.age) (cond (@sameL (List Task) _ z5 a.2.tasks) (cond (@sameL Int _ z6 a.2.run) (cond (@sameL Int _ z7 a.2.left) (cond (@sameL Int _ z8 a.2.turns) (cond (@sameL Int _ z9 a.2.next) (some z1) none) none) none) none) none) none) none) none
  | _ => none
def I_Sched_first_m2_G (k : Nat) : MG := fun _ l b K => (I_Sched_first_m2_argD l b).bind fun a => (I_Sched_first_m2 k a.1 a.2).bind fun r => K (I_Sched_first_m2_enc a r)
theorem I_Sched_first_m2_ev (k : Nat) (a : Sched × Sched) : ev (E_I_Sched_first_m2 k) (LP_I_Sched_first_m2 (Int) k) 0 c_I_Sched_first_m2 (st0M Try.f197 (I_Sched_first_m2_args a) (I_Sched_first_m2_blks a)) (finM Try.prog Try.f197 (.sc) [.box [.sc, .sc, .sc, .ro (.st .task), .sc, .sc, .sc, .sc]] (I_Sched_first_m2_dec a)) = I_Sched_first_m2 k a.1 a.2 := by kernel_rfl
theorem I_Sched_first_m2_ok (k : Nat) : MutOk Try.prog 197 (I_Sched_first_m2_G k) :=
  mutOk_of_ev (E_I_Sched_first_m2_ok k) Try.func197 (by kernel_rfl) (by kernel_rfl) I_Sched_first_m2_args I_Sched_first_m2_blks I_Sched_first_m2_argD
    (fun l b a h => by unfold I_Sched_first_m2_argD at h; split at h <;> first | (cases h; exact ⟨rfl, rfl⟩) | cases h) (fun a => rfl) (lpgood_none (by kernel_rfl)) (fun a r => rfl)
    (fun a o r h => by unfold I_Sched_first_m2_dec at h; split at h <;> first | (obtain ⟨e0, e1, e2, e3, e4, e5, e6, e7, hq⟩ := dec_chk8 h; clear h; subst e0; subst e1; subst e2; subst e3; subst e4; subst e5; subst e6; subst e7; have h := hq; clear hq; cases h; rfl) | cases h) (I_Sched_first_m2_ev k)
def o_I_Sched_first_m2 (k : Nat) : Orc := mutOrc [.agg [(.int .i64), (.int .i64), (.int .i64), (.sl (.st .task)), (.int .i64), (.int .i64), (.int .i64), (.int .i64)], .keep, .keep] (I_Sched_first_m2_G k)
theorem o_I_Sched_first_m2_ok (k : Nat) : OrcOk Try.prog 197 (o_I_Sched_first_m2 k) := mutOrc_ok (I_Sched_first_m2_ok k)
/-! ### 190 (loop.example/g00778/impl.Sched).pick -/
noncomputable def E_I_Sched_pick (k : Nat) : Env := { P := Try.prog, tt := tt, orc := fun g => cond (Nat.beq g 197) (altB (mutT [.agg [(.int .i64), (.int .i64), (.int .i64), (.sl (.st .task)), (.int .i64), (.int .i64), (.int .i64), (.int .i64)], .keep, .keep] I_Sched_first_m2_argD) (o_I_Sched_first_m2 k) (o_I_Sched_first_m k)) (noOrc), wr := fun g => mem g [197], wt := true }
theorem E_I_Sched_pick_ok (k : Nat) : EnvOk (E_I_Sched_pick k) := fun g => (orc_cond (altB_ok (o_I_Sched_first_m2_ok k) (o_I_Sched_first_m_ok k)) (noOrc_ok _ _))
noncomputable def c_I_Sched_pick : Code := (Try.f190.body).getD .skip
def LP_I_Sched_pick (ρ : Type) (k : Nat) : Nat → Ev ρ → Ev ρ := fun _ _ _ _ => none
def I_Sched_pick_args (a : Sched) : List Arg := [.agg [.int .i64 a.now, .int .i64 a.slack, .int .i64 a.age, .sl (.st .task) a.tasks, .int .i64 a.run, .int .i64 a.left, .int .i64 a.turns, .int .i64 a.next]]
def I_Sched_pick_argD (l : List Arg) : Option (Sched) := match l with
  | [.agg [.int .i64 b0_0, .int .i64 b0_1, .int .i64 b0_2, .sl (.st .task) b0_3, .int .i64 b0_4, .int .i64 b0_5, .int .i64 b0_6, .int .i64 b0_7]] => some (⟨b0_0, b0_1, b0_2, b0_3, b0_4, b0_5, b0_6, b0_7⟩ : Sched)
  | _ => none
def I_Sched_pick_enc (r : Int) : Out := (.r [] (.int .i64 r), [])
def I_Sched_pick_dec (o : Out) : Option (Int) := match o with
  | (.r [] (.int .i64 z1), []) => some z1
  | _ => none
def I_Sched_pick_G (k : Nat) : PG := fun _ l K => (I_Sched_pick_argD l).bind fun a => (I_Sched_pick k a).bind fun r => K (I_Sched_pick_enc r)
theorem I_Sched_pick_ev (k : Nat) (a : Sched) : ev (E_I_Sched_pick k) (LP_I_Sched_pick (Int) k) 0 c_I_Sched_pick (st0 Try.f190 (I_Sched_pick_args a)) (fin Try.prog Try.f190 (.sc) I_Sched_pick_dec) = I_Sched_pick k a := by kernel_rfl
theorem I_Sched_pick_ok (k : Nat) : PureOk Try.prog 190 (I_Sched_pick_G k) :=
  pureOk_of_ev (E_I_Sched_pick_ok k) Try.func190 (by kernel_rfl) (by kernel_rfl) I_Sched_pick_args I_Sched_pick_argD
    (fun l a h => by unfold I_Sched_pick_argD at h; split at h <;> first | (cases h; rfl) | cases h) (fun a => rfl) (lpgood_none (by kernel_rfl))
    (fun o r h => by unfold I_Sched_pick_dec at h; split at h <;> first | (cases h; rfl) | cases h) (I_Sched_pick_ev k)
def o_I_Sched_pick (k : Nat) : Orc := pureOrc [.agg [(.int .i64), (.int .i64), (.int .i64), (.sl (.st .task)), (.int .i64), (.int .i64), (.int .i64), (.int .i64)]] (I_Sched_pick_G k)
theorem o_I_Sched_pick_ok (k : Nat) : OrcOk Try.prog 190 (o_I_Sched_pick k) := pureOrc_ok (I_Sched_pick_ok k)
/-! ### 171 (*loop.example/g00778/impl.Sched).start -/
noncomputable def E_pI_Sched_start_m (k : Nat) : Env := { P := Try.prog, tt := tt, orc := fun g => cond (Nat.beq g 117) (o_I_Sched_find k) (cond (Nat.beq g 190) (o_I_Sched_pick k) (noOrc)) }
theorem E_pI_Sched_start_m_ok (k : Nat) : EnvOk (E_pI_Sched_start_m k) := fun g => (orc_cond (o_I_Sched_find_ok k) (orc_cond (o_I_Sched_pick_ok k) (noOrc_ok _ _)))
noncomputable def c_pI_Sched_start_m : Code := (Try.f171.body).getD .skip
def LP_pI_Sched_start_m (ρ : Type) (k : Nat) : Nat → Ev ρ → Ev ρ := fun _ _ _ _ => none
def pI_Sched_start_m_args (a : Sched) : List SV := [.ptr 0 0 0]
def pI_Sched_start_m_blks (a : Sched) : List Blk := [.box [.r [] (.int .i64 a.now), .r [] (.int .i64 a.slack), .r [] (.int .i64 a.age), .own 1, .r [] (.int .i64 a.run), .r [] (.int .i64 a.left), .r [] (.int .i64 a.turns), .r [] (.int .i64 a.next)], .arr none (.st .task) a.tasks]
def pI_Sched_start_m_argD (l : List SV) (b : List Blk) : Option (Sched) := match l, b with
  | [.ptr 0 0 0], [.box [.r [] (.int .i64 w0), .r [] (.int .i64 w1), .r [] (.int .i64 w2), .own 1, .r [] (.int .i64 w3), .r [] (.int .i64 w4), .r [] (.int .i64 w5), .r [] (.int .i64 w6)], .arr none (.st .task) w7] => some (⟨w0, w1, w2, w7, w3, w4, w5, w6⟩ : Sched)
  | _, _ => none
def pI_Sched_start_m_enc (a : Sched) (r : Bool × Int × Int × Int) : MOut := ⟨.r [] (.bool r.1), [some (.box [.r [] (.int .i64 a.now), .r [] (.int .i64 a.slack), .r [] (.int .i64 a.age), .own 2, .r [] (.int .i64 r.2.1), .r [] (.int .i64 r.2.2.1), .r [] (.int .i64 r.2.2.2), .r [] (.int .i64 a.next)]), none], [.arr none (.st .task) a.tasks]⟩
def pI_Sched_start_m_dec (a : Sched) (o : MOut) : Option (Bool × Int × Int × Int) := match o with
  | ⟨.r [] (.bool z1), [some (.box [.r [] (.int .i64 z2), .r [] (.int .i64 z3), .r [] (.int .i64 z4), .own 2, .r [] (.int .i64 z5), .r [] (.int .i64 z6), .r [] (.int .i64 z7), .r [] (.int .i64 z8)]), none], [.arr none (.st .task) z9]⟩ => cond (@sameL Int _ z2 a.now) (cond (@sameL Int _ z3 a.slack) (cond (@sameL Int _ z4 a.age) (cond (@sameL (List Task) _ z9 a.tasks) (cond (@sameL Int _ z8 a.next) (some (z1, z5, z6, z7)) none) none) none) none) none
  | _ => none
def pI_Sched_start_m_G (k : Nat) : MG := fun _ l b K => (pI_Sched_start_m_argD l b).bind fun a => (pI_Sched_start_m k a).bind fun r => K (pI_Sched_start_m_enc a r)
theorem pI_Sched_start_m_ev (k : Nat) (a : Sched) : ev (E_pI_Sched_start_m k) (LP_pI_Sched_start_m (Bool × Int × Int × Int) k) 0 c_pI_Sched_start_m (st0M Try.f171 (pI_Sched_start_m_args a) (pI_Sched_start_m_blks a)) (finM Try.prog Try.f171 (.sc) [.box [.sc, .sc, .sc, .own (.st .task), .sc, .sc, .sc, .sc], .gone] (pI_Sched_start_m_dec a)) = pI_Sched_start_m k a := by kernel_rfl
theorem pI_Sched_start_m_ok (k : Nat) : MutOk Try.prog 171 (pI_Sched_start_m_G k) :=
  mutOk_of_ev (E_pI_Sched_start_m_ok k) Try.func171 (by kernel_rfl) (by kernel_rfl) pI_Sched_start_m_args pI_Sched_start_m_blks pI_Sched_start_m_argD
    (fun l b a h => by unfold pI_Sched_start_m_argD at h; split at h <;> first | (cases h; exact ⟨rfl, rfl⟩) | cases h) (fun a => rfl) (lpgood_none (by kernel_rfl)) (fun a r => rfl)
    (fun a o r h => by unfold pI_Sched_start_m_dec at h; split at h <;> first | (obtain ⟨e0, e1, e2, e3, e4, hq⟩ := dec_chk5 h; clear h; subst e0; subst e1; subst e2; subst e3; subst e4; have h := hq; clear hq; cases h; rfl) | cases h) (pI_Sched_start_m_ev k)
def o_pI_Sched_start_m (k : Nat) : Orc := mutOrc [.keep] (pI_Sched_start_m_G k)
theorem o_pI_Sched_start_m_ok (k : Nat) : OrcOk Try.prog 171 (o_pI_Sched_start_m k) := mutOrc_ok (pI_Sched_start_m_ok k)
/-! ### 120 (*loop.example/g00778/impl.Sched).tick -/
noncomputable def E_pI_Sched_tick_m (k : Nat) : Env := { P := Try.prog, tt := tt, orc := fun g => cond (Nat.beq g 117) (o_I_Sched_find k) (cond (Nat.beq g 118) (mutOrc [.keep, .one (.int .i64)] (numG .task .taskK 1 (pI_Sched_drop_m3_G k))) (cond (Nat.beq g 171) (o_pI_Sched_start_m k) (noOrc))), wr := fun g => mem g [118, 171], wt := true }
theorem E_pI_Sched_tick_m_ok (k : Nat) : EnvOk (E_pI_Sched_tick_m k) := fun g => (orc_cond (o_I_Sched_find_ok k) (orc_cond (mutOrc_ok (numOk (s := .task) (s' := .taskK) rfl rfl rfl 1 (fun _ _ _ _ => by simp only [pI_Sched_drop_m3_G, Option.bind_assoc, Option.bind_some]) (fun T => @pI_Sched_drop_m3_ok T k))) (orc_cond (o_pI_Sched_start_m_ok k) (noOrc_ok _ _))))
noncomputable def c_pI_Sched_tick_m : Code := (Try.f120.body).getD .skip
def LP_pI_Sched_tick_m (ρ : Type) (k : Nat) : Nat → Ev ρ → Ev ρ := fun _ _ _ _ => none
def pI_Sched_tick_m_args (a : Sched × Bool) : List SV := [.ptr 0 0 0, .r [] (.bool a.2)]
def pI_Sched_tick_m_blks (a : Sched × Bool) : List Blk := [.box [.r [] (.int .i64 a.1.now), .r [] (.int .i64 a.1.slack), .r [] (.int .i64 a.1.age), .own 1, .r [] (.int .i64 a.1.run), .r [] (.int .i64 a.1.left), .r [] (.int .i64 a.1.turns), .r [] (.int .i64 a.1.next)], .arr none (.st .task) a.1.tasks]
def pI_Sched_tick_m_argD (l : List SV) (b : List Blk) : Option (Sched × Bool) := match l, b with
  | [.ptr 0 0 0, .r [] (.bool w0)], [.box [.r [] (.int .i64 w1), .r [] (.int .i64 w2), .r [] (.int .i64 w3), .own 1, .r [] (.int .i64 w4), .r [] (.int .i64 w5), .r [] (.int .i64 w6), .r [] (.int .i64 w7)], .arr none (.st .task) w8] => some ((⟨w1, w2, w3, w8, w4, w5, w6, w7⟩ : Sched), w0)
  | _, _ => none
def pI_Sched_tick_m_enc (a : Sched × Bool) (r : (Int × Bool) × Int × List Task × Int × Int × Int) : MOut := ⟨.tup [.r [] (.int .i64 r.1.1), .r [] (.bool r.1.2)], [some (.box [.r [] (.int .i64 r.2.1), .r [] (.int .i64 a.1.slack), .r [] (.int .i64 a.1.age), .own 2, .r [] (.int .i64 r.2.2.2.1), .r [] (.int .i64 r.2.2.2.2.1), .r [] (.int .i64 r.2.2.2.2.2), .r [] (.int .i64 a.1.next)]), none], [.arr none (.st .task) r.2.2.1]⟩
def pI_Sched_tick_m_dec (a : Sched × Bool) (o : MOut) : Option ((Int × Bool) × Int × List Task × Int × Int × Int) := match o with
  | ⟨.tup [.r [] (.int .i64 z1), .r [] (.bool z2)], [some (.box [.r [] (.int .i64 z3), .r [] (.int .i64 z4), .r [] (.int .i64 z5), .own 2, .r [] (.int .i64 z6), .r [] (.int .i64 z7), .r [] (.int .i64 z8), .r [] (.int .i64 z9)]), none], [.arr none (.st .task) z10]⟩ => cond (@sameL Int _ z4 a.1.slack) (cond (@sameL Int _ z5 a.1.age) (cond (@sameL Int _ z9 a.1.next) (some ((z1, z2), z3, z10, z6, z7, z8)) none) none) none
  | _ => none
def pI_Sched_tick_m_G (k : Nat) : MG := fun _ l b K => (pI_Sched_tick_m_argD l b).bind fun a => (pI_Sched_tick_m k a.1 a.2).bind fun r => K (pI_Sched_tick_m_enc a r)
theorem pI_Sched_tick_m_ev (k : Nat) (a : Sched × Bool) : ev (E_pI_Sched_tick_m k) (LP_pI_Sched_tick_m ((Int × Bool) × Int × List Task × Int × Int × Int) k) 0 c_pI_Sched_tick_m (st0M Try.f120 (pI_Sched_tick_m_args a) (pI_Sched_tick_m_blks a)) (finM Try.prog Try.f120 (.tup [.sc, .sc]) [.box [.sc, .sc, .sc, .own (.st .task), .sc, .sc, .sc, .sc], .gone] (pI_Sched_tick_m_dec a)) = pI_Sched_tick_m k a.1 a.2 := by kernel_rfl
theorem pI_Sched_tick_m_ok (k : Nat) : MutOk Try.prog 120 (pI_Sched_tick_m_G k) :=
  mutOk_of_ev (E_pI_Sched_tick_m_ok k) Try.func120 (by kernel_rfl) (by kernel_rfl) pI_Sched_tick_m_args pI_Sched_tick_m_blks pI_Sched_tick_m_argD
    (fun l b a h => by unfold pI_Sched_tick_m_argD at h; split at h <;> first | (cases h; exact ⟨rfl, rfl⟩) | cases h) (fun a => rfl) (lpgood_none (by kernel_rfl)) (fun a r => rfl)
    (fun a o r h => by unfold pI_Sched_tick_m_dec at h; split at h <;> first | (obtain ⟨e0, e1, e2, hq⟩ := dec_chk3 h; clear h; subst e0; subst e1; subst e2; have h := hq; clear hq; cases h; rfl) | cases h) (pI_Sched_tick_m_ev k)
def o_pI_Sched_tick_m (k : Nat) : Orc := mutOrc [.keep, .one .bool] (pI_Sched_tick_m_G k)
theorem o_pI_Sched_tick_m_ok (k : Nat) : OrcOk Try.prog 120 (o_pI_Sched_tick_m k) := mutOrc_ok (pI_Sched_tick_m_ok k)
/-! ### 50 loop.example/g00778/impl.TickSched -/
noncomputable def E_I_TickSched (k : Nat) : Env := { P := Try.prog, tt := tt, orc := fun g => cond (Nat.beq g 109) (o_I_Sched_copied k) (cond (Nat.beq g 110) (o_I_SchedOk k) (cond (Nat.beq g 120) (o_pI_Sched_tick_m k) (noOrc))), wr := fun g => mem g [120], wt := true }
theorem E_I_TickSched_ok (k : Nat) : EnvOk (E_I_TickSched k) := fun g => (orc_cond (o_I_Sched_copied_ok k) (orc_cond (o_I_SchedOk_ok k) (orc_cond (o_pI_Sched_tick_m_ok k) (noOrc_ok _ _))))
noncomputable def c_I_TickSched : Code := (Try.f50.body).getD .skip
def LP_I_TickSched (ρ : Type) (k : Nat) : Nat → Ev ρ → Ev ρ := fun _ _ _ _ => none
def I_TickSched_args (a : Sched × Bool) : List Arg := [.agg [.int .i64 a.1.now, .int .i64 a.1.slack, .int .i64 a.1.age, .sl (.st .task) a.1.tasks, .int .i64 a.1.run, .int .i64 a.1.left, .int .i64 a.1.turns, .int .i64 a.1.next], .one (.bool a.2)]
def I_TickSched_argD (l : List Arg) : Option (Sched × Bool) := match l with
  | [.agg [.int .i64 b0_0, .int .i64 b0_1, .int .i64 b0_2, .sl (.st .task) b0_3, .int .i64 b0_4, .int .i64 b0_5, .int .i64 b0_6, .int .i64 b0_7], .one (.bool b1)] => some ((⟨b0_0, b0_1, b0_2, b0_3, b0_4, b0_5, b0_6, b0_7⟩ : Sched), b1)
  | _ => none
def I_TickSched_enc (r : Sched × Int × Bool) : Out := (.tup [.agg [.r [] (.int .i64 r.1.now), .r [] (.int .i64 r.1.slack), .r [] (.int .i64 r.1.age), .own 0, .r [] (.int .i64 r.1.run), .r [] (.int .i64 r.1.left), .r [] (.int .i64 r.1.turns), .r [] (.int .i64 r.1.next)], .r [] (.int .i64 r.2.1), .r [] (.bool r.2.2)], [.arr none (.st .task) r.1.tasks])
def I_TickSched_dec (o : Out) : Option (Sched × Int × Bool) := match o with
  | (.tup [.agg [.r [] (.int .i64 z1), .r [] (.int .i64 z2), .r [] (.int .i64 z3), .own 0, .r [] (.int .i64 z5), .r [] (.int .i64 z6), .r [] (.int .i64 z7), .r [] (.int .i64 z8)], .r [] (.int .i64 z9), .r [] (.bool z10)], [.arr none (.st .task) z4]) => some ((⟨z1, z2, z3, z4, z5, z6, z7, z8⟩ : Sched), z9, z10)
  | _ => none
def I_TickSched_G (k : Nat) : PG := fun _ l K => (I_TickSched_argD l).bind fun a => (I_TickSched k a.1 a.2).bind fun r => K (I_TickSched_enc r)
theorem I_TickSched_ev (k : Nat) (a : Sched × Bool) : ev (E_I_TickSched k) (LP_I_TickSched (Sched × Int × Bool) k) 0 c_I_TickSched (st0 Try.f50 (I_TickSched_args a)) (fin Try.prog Try.f50 (.tup [.agg [.sc, .sc, .sc, .own (.st .task), .sc, .sc, .sc, .sc], .sc, .sc]) I_TickSched_dec) = I_TickSched k a.1 a.2 := by kernel_rfl
theorem I_TickSched_ok (k : Nat) : PureOk Try.prog 50 (I_TickSched_G k) :=
  pureOk_of_ev (E_I_TickSched_ok k) Try.func50 (by kernel_rfl) (by kernel_rfl) I_TickSched_args I_TickSched_argD
    (fun l a h => by unfold I_TickSched_argD at h; split at h <;> first | (cases h; rfl) | cases h) (fun a => rfl) (lpgood_none (by kernel_rfl))
    (fun o r h => by unfold I_TickSched_dec at h; split at h <;> first | (cases h; rfl) | cases h) (I_TickSched_ev k)
def o_I_TickSched (k : Nat) : Orc := pureOrc [.agg [(.int .i64), (.int .i64), (.int .i64), (.sl (.st .task)), (.int .i64), (.int .i64), (.int .i64), (.int .i64)], .one .bool] (I_TickSched_G k)
theorem o_I_TickSched_ok (k : Nat) : OrcOk Try.prog 50 (o_I_TickSched k) := pureOrc_ok (I_TickSched_ok k)
/-! ### 123 (*loop.example/g00778/impl.Sched).play -/
noncomputable def E_pI_Sched_play_m (k : Nat) : Env := { P := Try.prog, tt := tt, orc := fun g => cond (Nat.beq g 41) (o_I_Admit k) (cond (Nat.beq g 48) (o_I_CancelTask k) (cond (Nat.beq g 50) (o_I_TickSched k) (noOrc))) }
theorem E_pI_Sched_play_m_ok (k : Nat) : EnvOk (E_pI_Sched_play_m k) := fun g => (orc_cond (o_I_Admit_ok k) (orc_cond (o_I_CancelTask_ok k) (orc_cond (o_I_TickSched_ok k) (noOrc_ok _ _))))
noncomputable def c_pI_Sched_play_m : Code := (Try.f123.body).getD .skip
def LP_pI_Sched_play_m (ρ : Type) (k : Nat) : Nat → Ev ρ → Ev ρ := fun _ _ _ _ => none
def pI_Sched_play_m_args (a : Sched × List Int) : List SV := [.ptr 0 0 0, .r [] (.sl (.int .i64) a.2)]
def pI_Sched_play_m_blks (a : Sched × List Int) : List Blk := [.box [.r [] (.int .i64 a.1.now), .r [] (.int .i64 a.1.slack), .r [] (.int .i64 a.1.age), .own 1, .r [] (.int .i64 a.1.run), .r [] (.int .i64 a.1.left), .r [] (.int .i64 a.1.turns), .r [] (.int .i64 a.1.next)], .arr none (.st .task) a.1.tasks]
def pI_Sched_play_m_argD (l : List SV) (b : List Blk) : Option (Sched × List Int) := match l, b with
  | [.ptr 0 0 0, .r [] (.sl (.int .i64) w0)], [.box [.r [] (.int .i64 w1), .r [] (.int .i64 w2), .r [] (.int .i64 w3), .own 1, .r [] (.int .i64 w4), .r [] (.int .i64 w5), .r [] (.int .i64 w6), .r [] (.int .i64 w7)], .arr none (.st .task) w8] => some ((⟨w1, w2, w3, w8, w4, w5, w6, w7⟩ : Sched), w0)
  | _, _ => none
def pI_Sched_play_m_enc (a : Sched × List Int) (r : Int × Int × Int × Int × List Task × Int × Int × Int × Int) : MOut := ⟨.r [] (.int .i64 r.1), [some (.box [.r [] (.int .i64 r.2.1), .r [] (.int .i64 r.2.2.1), .r [] (.int .i64 r.2.2.2.1), .own 2, .r [] (.int .i64 r.2.2.2.2.2.1), .r [] (.int .i64 r.2.2.2.2.2.2.1), .r [] (.int .i64 r.2.2.2.2.2.2.2.1), .r [] (.int .i64 r.2.2.2.2.2.2.2.2)]), none], [.arr none (.st .task) r.2.2.2.2.1]⟩
def pI_Sched_play_m_dec (a : Sched × List Int) (o : MOut) : Option (Int × Int × Int × Int × List Task × Int × Int × Int × Int) := match o with
  | ⟨.r [] (.int .i64 z1), [some (.box [.r [] (.int .i64 z2), .r [] (.int .i64 z3), .r [] (.int .i64 z4), .own 2, .r [] (.int .i64 z5), .r [] (.int .i64 z6), .r [] (.int .i64 z7), .r [] (.int .i64 z8)]), none], [.arr none (.st .task) z9]⟩ => some (z1, z2, z3, z4, z9, z5, z6, z7, z8)
  | _ => none
def pI_Sched_play_m_G (k : Nat) : MG := fun _ l b K => (pI_Sched_play_m_argD l b).bind fun a => (pI_Sched_play_m k a.1 a.2).bind fun r => K (pI_Sched_play_m_enc a r)
theorem pI_Sched_play_m_ev (k : Nat) (a : Sched × List Int) : ev (E_pI_Sched_play_m k) (LP_pI_Sched_play_m (Int × Int × Int × Int × List Task × Int × Int × Int × Int) k) 0 c_pI_Sched_play_m (st0M Try.f123 (pI_Sched_play_m_args a) (pI_Sched_play_m_blks a)) (finM Try.prog Try.f123 (.sc) [.box [.sc, .sc, .sc, .own (.st .task), .sc, .sc, .sc, .sc], .gone] (pI_Sched_play_m_dec a)) = pI_Sched_play_m k a.1 a.2 := by kernel_rfl
theorem pI_Sched_play_m_ok (k : Nat) : MutOk Try.prog 123 (pI_Sched_play_m_G k) :=
  mutOk_of_ev (E_pI_Sched_play_m_ok k) Try.func123 (by kernel_rfl) (by kernel_rfl) pI_Sched_play_m_args pI_Sched_play_m_blks pI_Sched_play_m_argD
    (fun l b a h => by unfold pI_Sched_play_m_argD at h; split at h <;> first | (cases h; exact ⟨rfl, rfl⟩) | cases h) (fun a => rfl) (lpgood_none (by kernel_rfl)) (fun a r => rfl)
    (fun a o r h => by unfold pI_Sched_play_m_dec at h; split at h <;> first | (skip; cases h; rfl) | cases h) (pI_Sched_play_m_ev k)
def o_pI_Sched_play_m (k : Nat) : Orc := mutOrc [.keep, .one (.sl (.int .i64))] (pI_Sched_play_m_G k)
theorem o_pI_Sched_play_m_ok (k : Nat) : OrcOk Try.prog 123 (o_pI_Sched_play_m k) := mutOrc_ok (pI_Sched_play_m_ok k)
/-! ### 54 loop.example/g00778/impl.PlaySched -/
noncomputable def E_I_PlaySched (k : Nat) : Env := { P := Try.prog, tt := tt, orc := fun g => cond (Nat.beq g 80) (o_I_NewSched k) (cond (Nat.beq g 123) (o_pI_Sched_play_m k) (noOrc)), wr := fun g => mem g [123], wt := true }
theorem E_I_PlaySched_ok (k : Nat) : EnvOk (E_I_PlaySched k) := fun g => (orc_cond (o_I_NewSched_ok k) (orc_cond (o_pI_Sched_play_m_ok k) (noOrc_ok _ _)))
noncomputable def c_I_PlaySched : Code := (Try.f54.body).getD .skip
noncomputable def b_I_PlaySched_0 : Code := ((loopsIn 0 c_I_PlaySched).getD 0 (0, .skip)).2
def I_PlaySched_g0_keep : List Nat := [6, 8, 10, 28, 29, 30]
def I_PlaySched_g0_co : List (Where × Co) := []
def I_PlaySched_g0_kx : Ex → List Nat
  | .exit j => cond (Nat.beq j 0) [6, 8, 10] []
  | .ret => []
  | .normal => []
def I_PlaySched_g0_cx : Ex → List (Where × Co)
  | .exit j => cond (Nat.beq j 0) [] []
  | .ret => []
  | .normal => []
def I_PlaySched_g0_tm (pv : (List (List Int) × Int × Int × Int × Int × Int × Int × Int × Int) × (Int × Int × Int × Int × Int × Int × Int × Int × List Int × List Task)) : St := { slots := [(6, .ptr 0 0 0), (8, .ptr 1 0 0), (10, .own 2), (28, .r [] (.sl (.sl (.int .i64)) pv.1.1)), (29, .r [] (.int .i64 pv.1.2.1)), (30, .r [] (.int .i64 pv.2.1))], heap := [(0, .box [.r [] (.int .i64 pv.1.2.2.1), .r [] (.int .i64 pv.1.2.2.2.1), .r [] (.int .i64 pv.1.2.2.2.2.1), .nilS, .r [] (.int .i64 pv.1.2.2.2.2.2.1), .r [] (.int .i64 pv.1.2.2.2.2.2.2.1), .r [] (.int .i64 pv.1.2.2.2.2.2.2.2.1), .r [] (.int .i64 pv.1.2.2.2.2.2.2.2.2)]), (1, .box [.r [] (.int .i64 pv.2.2.1), .r [] (.int .i64 pv.2.2.2.1), .r [] (.int .i64 pv.2.2.2.2.1), .own 3, .r [] (.int .i64 pv.2.2.2.2.2.1), .r [] (.int .i64 pv.2.2.2.2.2.2.1), .r [] (.int .i64 pv.2.2.2.2.2.2.2.1), .r [] (.int .i64 pv.2.2.2.2.2.2.2.2.1)]), (2, .arr none (.int .i64) pv.2.2.2.2.2.2.2.2.2.1), (3, .arr none (.st .task) pv.2.2.2.2.2.2.2.2.2.2)], nid := 4, n := 42, gh := [] }
def I_PlaySched_g0_dec (nf : NF) : Option ((List (List Int) × Int × Int × Int × Int × Int × Int × Int × Int) × (Int × Int × Int × Int × Int × Int × Int × Int × List Int × List Task)) := match nf with
  | ([.ptr 0 0 0, .ptr 1 0 0, .own 2, .r [] (.sl (.sl (.int .i64)) w0), .r [] (.int .i64 w1), .r [] (.int .i64 w2)], [.box [.r [] (.int .i64 w3), .r [] (.int .i64 w4), .r [] (.int .i64 w5), .nilS, .r [] (.int .i64 w6), .r [] (.int .i64 w7), .r [] (.int .i64 w8), .r [] (.int .i64 w9)], .box [.r [] (.int .i64 w10), .r [] (.int .i64 w11), .r [] (.int .i64 w12), .own 3, .r [] (.int .i64 w13), .r [] (.int .i64 w14), .r [] (.int .i64 w15), .r [] (.int .i64 w16)], .arr none (.int .i64) w17, .arr none (.st .task) w18], []) => some ((w0, w1, w3, w4, w5, w6, w7, w8, w9), (w2, w10, w11, w12, w13, w14, w15, w16, w17, w18))
  | _ => none
theorem I_PlaySched_g0_hd (nf : NF) (v : (List (List Int) × Int × Int × Int × Int × Int × Int × Int × Int) × (Int × Int × Int × Int × Int × Int × Int × Int × List Int × List Task)) (h : I_PlaySched_g0_dec nf = some v) : denorm I_PlaySched_g0_keep 42 nf = I_PlaySched_g0_tm v := by
  unfold I_PlaySched_g0_dec at h
  split at h
  · cases h; rfl
  · cases h
def I_PlaySched_g0_x0 (p : List (List Int) × Int × Int × Int × Int × Int × Int × Int × Int) (x : Int × Int × Int × Int × Int × Int × Int × List Int × List Task) : St := { slots := [(6, .ptr 0 0 0), (8, .ptr 1 0 0), (10, .own 2)], heap := [(0, .box [.r [] (.int .i64 p.2.2.1), .r [] (.int .i64 p.2.2.2.1), .r [] (.int .i64 p.2.2.2.2.1), .nilS, .r [] (.int .i64 p.2.2.2.2.2.1), .r [] (.int .i64 p.2.2.2.2.2.2.1), .r [] (.int .i64 p.2.2.2.2.2.2.2.1), .r [] (.int .i64 p.2.2.2.2.2.2.2.2)]), (1, .box [.r [] (.int .i64 x.1), .r [] (.int .i64 x.2.1), .r [] (.int .i64 x.2.2.1), .own 3, .r [] (.int .i64 x.2.2.2.1), .r [] (.int .i64 x.2.2.2.2.1), .r [] (.int .i64 x.2.2.2.2.2.1), .r [] (.int .i64 x.2.2.2.2.2.2.1)]), (2, .arr none (.int .i64) x.2.2.2.2.2.2.2.1), (3, .arr none (.st .task) x.2.2.2.2.2.2.2.2)], nid := 4, n := 42, gh := [] }
def LP_I_PlaySched (ρ : Type) (k : Nat) : Nat → Ev ρ → Ev ρ := fun id f => cond (Nat.beq id 0) (loopOrc I_PlaySched_g0_keep I_PlaySched_g0_co (fun n nf => cond (Nat.beq n 42) (I_PlaySched_g0_dec nf) none) fun pv K => iter (fun v next => I_PlaySched_g0 k pv.1 v next (fun x => K (.exit 0) (I_PlaySched_g0_x0 pv.1 x))) k pv.2) ((fun _ _ _ _ => none) id f)
theorem I_PlaySched_g0_round {ρ : Type} (k : Nat) (p : List (List Int) × Int × Int × Int × Int × Int × Int × Int × Int) (v : Int × Int × Int × Int × Int × Int × Int × Int × List Int × List Task) (K K1 : Ex → St → Option ρ) : ev (E_I_PlaySched k) (LP_I_PlaySched ρ k) 0 b_I_PlaySched_0 (I_PlaySched_g0_tm (p, v)) (fun e st' => match e with
    | .normal => (normC I_PlaySched_g0_keep I_PlaySched_g0_co st').bind fun nf => K1 .normal (denorm I_PlaySched_g0_keep st'.n nf)
    | e => (normC (I_PlaySched_g0_kx e) (I_PlaySched_g0_cx e) st').bind fun nf => K e (denorm (I_PlaySched_g0_kx e) st'.n nf)) = I_PlaySched_g0 k p v (fun v' => K1 .normal (I_PlaySched_g0_tm (p, v'))) (fun x => K (.exit 0) (I_PlaySched_g0_x0 p x)) := by kernel_rfl
theorem I_PlaySched_g0_ok {ρ : Type} (k : Nat) : Sound Try.prog (.loop b_I_PlaySched_0) (LP_I_PlaySched ρ k 0 fun st K => ev (E_I_PlaySched k) (LP_I_PlaySched ρ k) 0 b_I_PlaySched_0 st K) :=
  loop_ok (ev_sound (E_I_PlaySched_ok k) b_I_PlaySched_0 0 (lpgood_none (by kernel_rfl))) I_PlaySched_g0_kx I_PlaySched_g0_cx k (g := fun p v next K => I_PlaySched_g0 k p v next (fun x => K (.exit 0) (I_PlaySched_g0_x0 p x))) (dec_at I_PlaySched_g0_hd) (fun p v K K1 => I_PlaySched_g0_round k p v K K1)
def I_PlaySched_args (a : Int × Int × List (List Int)) : List Arg := [.one (.int .i64 a.1), .one (.int .i64 a.2.1), .one (.sl (.sl (.int .i64)) a.2.2)]
def I_PlaySched_argD (l : List Arg) : Option (Int × Int × List (List Int)) := match l with
  | [.one (.int .i64 b0), .one (.int .i64 b1), .one (.sl (.sl (.int .i64)) b2)] => some (b0, b1, b2)
  | _ => none
def I_PlaySched_enc (r : Sched × List Int) : Out := (.tup [.agg [.r [] (.int .i64 r.1.now), .r [] (.int .i64 r.1.slack), .r [] (.int .i64 r.1.age), .own 0, .r [] (.int .i64 r.1.run), .r [] (.int .i64 r.1.left), .r [] (.int .i64 r.1.turns), .r [] (.int .i64 r.1.next)], .own 1], [.arr none (.st .task) r.1.tasks, .arr none (.int .i64) r.2])
def I_PlaySched_dec (o : Out) : Option (Sched × List Int) := match o with
  | (.tup [.agg [.r [] (.int .i64 z1), .r [] (.int .i64 z2), .r [] (.int .i64 z3), .own 0, .r [] (.int .i64 z5), .r [] (.int .i64 z6), .r [] (.int .i64 z7), .r [] (.int .i64 z8)], .own 1], [.arr none (.st .task) z4, .arr none (.int .i64) z9]) => some ((⟨z1, z2, z3, z4, z5, z6, z7, z8⟩ : Sched), z9)
  | _ => none
def I_PlaySched_G (k : Nat) : PG := fun _ l K => (I_PlaySched_argD l).bind fun a => (I_PlaySched k a.1 a.2.1 a.2.2).bind fun r => K (I_PlaySched_enc r)
theorem I_PlaySched_ev (k : Nat) (a : Int × Int × List (List Int)) : ev (E_I_PlaySched k) (LP_I_PlaySched (Sched × List Int) k) 0 c_I_PlaySched (st0 Try.f54 (I_PlaySched_args a)) (fin Try.prog Try.f54 (.tup [.agg [.sc, .sc, .sc, .own (.st .task), .sc, .sc, .sc, .sc], .own (.int .i64)]) I_PlaySched_dec) = I_PlaySched k a.1 a.2.1 a.2.2 := by kernel_rfl
theorem I_PlaySched_ok (k : Nat) : PureOk Try.prog 54 (I_PlaySched_G k) :=
  pureOk_of_ev (E_I_PlaySched_ok k) Try.func54 (by kernel_rfl) (by kernel_rfl) I_PlaySched_args I_PlaySched_argD
    (fun l a h => by unfold I_PlaySched_argD at h; split at h <;> first | (cases h; rfl) | cases h) (fun a => rfl) (lpgood_of (l := [(0, b_I_PlaySched_0)]) (by kernel_rfl) ⟨I_PlaySched_g0_ok k, trivial⟩)
    (fun o r h => by unfold I_PlaySched_dec at h; split at h <;> first | (cases h; rfl) | cases h) (I_PlaySched_ev k)
def o_I_PlaySched (k : Nat) : Orc := pureOrc [.one (.int .i64), .one (.int .i64), .one (.sl (.sl (.int .i64)))] (I_PlaySched_G k)
theorem o_I_PlaySched_ok (k : Nat) : OrcOk Try.prog 54 (o_I_PlaySched k) := pureOrc_ok (I_PlaySched_ok k)
/-! ### 43 loop.example/g00778/laws.eqIntS -/
noncomputable def E_L_eqIntS (k : Nat) : Env := { P := Try.prog, tt := tt, orc := fun g => noOrc }
theorem E_L_eqIntS_ok (k : Nat) : EnvOk (E_L_eqIntS k) := fun g => (noOrc_ok _ _)
noncomputable def c_L_eqIntS : Code := (Try.f43.body).getD .skip
noncomputable def b_L_eqIntS_0 : Code := ((loopsIn 0 c_L_eqIntS).getD 0 (0, .skip)).2
def L_eqIntS_g0_keep : List Nat := [0, 1, 5]
def L_eqIntS_g0_co : List (Where × Co) := []
def L_eqIntS_g0_kx : Ex → List Nat
  | .exit j => cond (Nat.beq j 0) [] []
  | .ret => [4]
  | .normal => []
def L_eqIntS_g0_cx : Ex → List (Where × Co)
  | .exit j => cond (Nat.beq j 0) [] []
  | .ret => []
  | .normal => []
def L_eqIntS_g0_tm (pv : (List Int × List Int) × (Int)) : St := { slots := [(0, .r [] (.sl (.int .i64) pv.1.1)), (1, .r [] (.sl (.int .i64) pv.1.2)), (5, .r [] (.int .i64 pv.2))], heap := [], nid := 0, n := 26, gh := [] }
def L_eqIntS_g0_dec (nf : NF) : Option ((List Int × List Int) × (Int)) := match nf with
  | ([.r [] (.sl (.int .i64) w0), .r [] (.sl (.int .i64) w1), .r [] (.int .i64 w2)], [], []) => some ((w0, w1), w2)
  | _ => none
theorem L_eqIntS_g0_hd (nf : NF) (v : (List Int × List Int) × (Int)) (h : L_eqIntS_g0_dec nf = some v) : denorm L_eqIntS_g0_keep 26 nf = L_eqIntS_g0_tm v := by
  unfold L_eqIntS_g0_dec at h
  split at h
  · cases h; rfl
  · cases h
def L_eqIntS_g0_x0 (p : List Int × List Int) (x : Unit) : St := { slots := [], heap := [], nid := 0, n := 26, gh := [] }
def L_eqIntS_g0_xret (p : List Int × List Int) (x : Bool) : St := { slots := [(4, .r [] (.bool x))], heap := [], nid := 0, n := 26, gh := [] }
def LP_L_eqIntS (ρ : Type) (k : Nat) : Nat → Ev ρ → Ev ρ := fun id f => cond (Nat.beq id 0) (loopOrc L_eqIntS_g0_keep L_eqIntS_g0_co (fun n nf => cond (Nat.beq n 26) (L_eqIntS_g0_dec nf) none) fun pv K => iter (fun v next => L_eqIntS_g0 k pv.1 v next (fun x => K (.exit 0) (L_eqIntS_g0_x0 pv.1 x)) (fun x => K .ret (L_eqIntS_g0_xret pv.1 x))) k pv.2) ((fun _ _ _ _ => none) id f)
theorem L_eqIntS_g0_round {ρ : Type} (k : Nat) (p : List Int × List Int) (v : Int) (K K1 : Ex → St → Option ρ) : ev (E_L_eqIntS k) (LP_L_eqIntS ρ k) 0 b_L_eqIntS_0 (L_eqIntS_g0_tm (p, v)) (fun e st' => match e with
    | .normal => (normC L_eqIntS_g0_keep L_eqIntS_g0_co st').bind fun nf => K1 .normal (denorm L_eqIntS_g0_keep st'.n nf)
    | e => (normC (L_eqIntS_g0_kx e) (L_eqIntS_g0_cx e) st').bind fun nf => K e (denorm (L_eqIntS_g0_kx e) st'.n nf)) = L_eqIntS_g0 k p v (fun v' => K1 .normal (L_eqIntS_g0_tm (p, v'))) (fun x => K (.exit 0) (L_eqIntS_g0_x0 p x)) (fun x => K .ret (L_eqIntS_g0_xret p x)) := by kernel_rfl
theorem L_eqIntS_g0_ok {ρ : Type} (k : Nat) : Sound Try.prog (.loop b_L_eqIntS_0) (LP_L_eqIntS ρ k 0 fun st K => ev (E_L_eqIntS k) (LP_L_eqIntS ρ k) 0 b_L_eqIntS_0 st K) :=
  loop_ok (ev_sound (E_L_eqIntS_ok k) b_L_eqIntS_0 0 (lpgood_none (by kernel_rfl))) L_eqIntS_g0_kx L_eqIntS_g0_cx k (g := fun p v next K => L_eqIntS_g0 k p v next (fun x => K (.exit 0) (L_eqIntS_g0_x0 p x)) (fun x => K .ret (L_eqIntS_g0_xret p x))) (dec_at L_eqIntS_g0_hd) (fun p v K K1 => L_eqIntS_g0_round k p v K K1)
def L_eqIntS_args (a : List Int × List Int) : List Arg := [.one (.sl (.int .i64) a.1), .one (.sl (.int .i64) a.2)]
def L_eqIntS_argD (l : List Arg) : Option (List Int × List Int) := match l with
  | [.one (.sl (.int .i64) b0), .one (.sl (.int .i64) b1)] => some (b0, b1)
  | _ => none
def L_eqIntS_enc (r : Bool) : Out := (.r [] (.bool r), [])
def L_eqIntS_dec (o : Out) : Option (Bool) := match o with
  | (.r [] (.bool z1), []) => some z1
  | _ => none
def L_eqIntS_G (k : Nat) : PG := fun _ l K => (L_eqIntS_argD l).bind fun a => (L_eqIntS k a.1 a.2).bind fun r => K (L_eqIntS_enc r)
theorem L_eqIntS_ev (k : Nat) (a : List Int × List Int) : ev (E_L_eqIntS k) (LP_L_eqIntS (Bool) k) 0 c_L_eqIntS (st0 Try.f43 (L_eqIntS_args a)) (fin Try.prog Try.f43 (.sc) L_eqIntS_dec) = L_eqIntS k a.1 a.2 := by kernel_rfl
theorem L_eqIntS_ok (k : Nat) : PureOk Try.prog 43 (L_eqIntS_G k) :=
  pureOk_of_ev (E_L_eqIntS_ok k) Try.func43 (by kernel_rfl) (by kernel_rfl) L_eqIntS_args L_eqIntS_argD
    (fun l a h => by unfold L_eqIntS_argD at h; split at h <;> first | (cases h; rfl) | cases h) (fun a => rfl) (lpgood_of (l := [(0, b_L_eqIntS_0)]) (by kernel_rfl) ⟨L_eqIntS_g0_ok k, trivial⟩)
    (fun o r h => by unfold L_eqIntS_dec at h; split at h <;> first | (cases h; rfl) | cases h) (L_eqIntS_ev k)
def o_L_eqIntS (k : Nat) : Orc := pureOrc [.one (.sl (.int .i64)), .one (.sl (.int .i64))] (L_eqIntS_G k)
theorem o_L_eqIntS_ok (k : Nat) : OrcOk Try.prog 43 (o_L_eqIntS k) := pureOrc_ok (L_eqIntS_ok k)
/-! ### 166 loop.example/g00778/laws.eqTask -/
noncomputable def E_L_eqTask (k : Nat) : Env := { P := Try.prog, tt := tt, orc := fun g => cond (Nat.beq g 43) (o_L_eqIntS k) (noOrc) }
theorem E_L_eqTask_ok (k : Nat) : EnvOk (E_L_eqTask k) := fun g => (orc_cond (o_L_eqIntS_ok k) (noOrc_ok _ _))
noncomputable def c_L_eqTask : Code := (Try.f166.body).getD .skip
def LP_L_eqTask (ρ : Type) (k : Nat) : Nat → Ev ρ → Ev ρ := fun _ _ _ _ => none
def L_eqTask_args (a : Task × Task) : List Arg := [.agg [.int .i64 a.1.id, .sl (.int .i64) a.1.costs, .int .i64 a.1.at_, .int .i64 a.1.due, .int .i64 a.1.born], .agg [.int .i64 a.2.id, .sl (.int .i64) a.2.costs, .int .i64 a.2.at_, .int .i64 a.2.due, .int .i64 a.2.born]]
def L_eqTask_argD (l : List Arg) : Option (Task × Task) := match l with
  | [.agg [.int .i64 b0_0, .sl (.int .i64) b0_1, .int .i64 b0_2, .int .i64 b0_3, .int .i64 b0_4], .agg [.int .i64 b1_0, .sl (.int .i64) b1_1, .int .i64 b1_2, .int .i64 b1_3, .int .i64 b1_4]] => some ((⟨b0_0, b0_1, b0_2, b0_3, b0_4⟩ : Task), (⟨b1_0, b1_1, b1_2, b1_3, b1_4⟩ : Task))
  | _ => none
def L_eqTask_enc (r : Bool) : Out := (.r [] (.bool r), [])
def L_eqTask_dec (o : Out) : Option (Bool) := match o with
  | (.r [] (.bool z1), []) => some z1
  | _ => none
def L_eqTask_G (k : Nat) : PG := fun _ l K => (L_eqTask_argD l).bind fun a => (L_eqTask k a.1 a.2).bind fun r => K (L_eqTask_enc r)
theorem L_eqTask_ev (k : Nat) (a : Task × Task) : ev (E_L_eqTask k) (LP_L_eqTask (Bool) k) 0 c_L_eqTask (st0 Try.f166 (L_eqTask_args a)) (fin Try.prog Try.f166 (.sc) L_eqTask_dec) = L_eqTask k a.1 a.2 := by kernel_rfl
theorem L_eqTask_ok (k : Nat) : PureOk Try.prog 166 (L_eqTask_G k) :=
  pureOk_of_ev (E_L_eqTask_ok k) Try.func166 (by kernel_rfl) (by kernel_rfl) L_eqTask_args L_eqTask_argD
    (fun l a h => by unfold L_eqTask_argD at h; split at h <;> first | (cases h; rfl) | cases h) (fun a => rfl) (lpgood_none (by kernel_rfl))
    (fun o r h => by unfold L_eqTask_dec at h; split at h <;> first | (cases h; rfl) | cases h) (L_eqTask_ev k)
def o_L_eqTask (k : Nat) : Orc := pureOrc [.agg [(.int .i64), (.sl (.int .i64)), (.int .i64), (.int .i64), (.int .i64)], .agg [(.int .i64), (.sl (.int .i64)), (.int .i64), (.int .i64), (.int .i64)]] (L_eqTask_G k)
theorem o_L_eqTask_ok (k : Nat) : OrcOk Try.prog 166 (o_L_eqTask k) := pureOrc_ok (L_eqTask_ok k)
/-! ### 112 loop.example/g00778/laws.eqTaskS -/
noncomputable def E_L_eqTaskS (k : Nat) : Env := { P := Try.prog, tt := tt, orc := fun g => cond (Nat.beq g 166) (o_L_eqTask k) (noOrc) }
theorem E_L_eqTaskS_ok (k : Nat) : EnvOk (E_L_eqTaskS k) := fun g => (orc_cond (o_L_eqTask_ok k) (noOrc_ok _ _))
noncomputable def c_L_eqTaskS : Code := (Try.f112.body).getD .skip
noncomputable def b_L_eqTaskS_0 : Code := ((loopsIn 0 c_L_eqTaskS).getD 0 (0, .skip)).2
def L_eqTaskS_g0_keep : List Nat := [0, 1, 5]
def L_eqTaskS_g0_co : List (Where × Co) := []
def L_eqTaskS_g0_kx : Ex → List Nat
  | .exit j => cond (Nat.beq j 0) [] []
  | .ret => [4]
  | .normal => []
def L_eqTaskS_g0_cx : Ex → List (Where × Co)
  | .exit j => cond (Nat.beq j 0) [] []
  | .ret => []
  | .normal => []
def L_eqTaskS_g0_tm (pv : (List Task × List Task) × (Int)) : St := { slots := [(0, .r [] (.sl (.st .task) pv.1.1)), (1, .r [] (.sl (.st .task) pv.1.2)), (5, .r [] (.int .i64 pv.2))], heap := [], nid := 0, n := 27, gh := [] }
def L_eqTaskS_g0_dec (nf : NF) : Option ((List Task × List Task) × (Int)) := match nf with
  | ([.r [] (.sl (.st .task) w0), .r [] (.sl (.st .task) w1), .r [] (.int .i64 w2)], [], []) => some ((w0, w1), w2)
  | _ => none
theorem L_eqTaskS_g0_hd (nf : NF) (v : (List Task × List Task) × (Int)) (h : L_eqTaskS_g0_dec nf = some v) : denorm L_eqTaskS_g0_keep 27 nf = L_eqTaskS_g0_tm v := by
  unfold L_eqTaskS_g0_dec at h
  split at h
  · cases h; rfl
  · cases h
def L_eqTaskS_g0_x0 (p : List Task × List Task) (x : Unit) : St := { slots := [], heap := [], nid := 0, n := 27, gh := [] }
def L_eqTaskS_g0_xret (p : List Task × List Task) (x : Bool) : St := { slots := [(4, .r [] (.bool x))], heap := [], nid := 0, n := 27, gh := [] }
def LP_L_eqTaskS (ρ : Type) (k : Nat) : Nat → Ev ρ → Ev ρ := fun id f => cond (Nat.beq id 0) (loopOrc L_eqTaskS_g0_keep L_eqTaskS_g0_co (fun n nf => cond (Nat.beq n 27) (L_eqTaskS_g0_dec nf) none) fun pv K => iter (fun v next => L_eqTaskS_g0 k pv.1 v next (fun x => K (.exit 0) (L_eqTaskS_g0_x0 pv.1 x)) (fun x => K .ret (L_eqTaskS_g0_xret pv.1 x))) k pv.2) ((fun _ _ _ _ => none) id f)
theorem L_eqTaskS_g0_round {ρ : Type} (k : Nat) (p : List Task × List Task) (v : Int) (K K1 : Ex → St → Option ρ) : ev (E_L_eqTaskS k) (LP_L_eqTaskS ρ k) 0 b_L_eqTaskS_0 (L_eqTaskS_g0_tm (p, v)) (fun e st' => match e with
    | .normal => (normC L_eqTaskS_g0_keep L_eqTaskS_g0_co st').bind fun nf => K1 .normal (denorm L_eqTaskS_g0_keep st'.n nf)
    | e => (normC (L_eqTaskS_g0_kx e) (L_eqTaskS_g0_cx e) st').bind fun nf => K e (denorm (L_eqTaskS_g0_kx e) st'.n nf)) = L_eqTaskS_g0 k p v (fun v' => K1 .normal (L_eqTaskS_g0_tm (p, v'))) (fun x => K (.exit 0) (L_eqTaskS_g0_x0 p x)) (fun x => K .ret (L_eqTaskS_g0_xret p x)) := by kernel_rfl
theorem L_eqTaskS_g0_ok {ρ : Type} (k : Nat) : Sound Try.prog (.loop b_L_eqTaskS_0) (LP_L_eqTaskS ρ k 0 fun st K => ev (E_L_eqTaskS k) (LP_L_eqTaskS ρ k) 0 b_L_eqTaskS_0 st K) :=
  loop_ok (ev_sound (E_L_eqTaskS_ok k) b_L_eqTaskS_0 0 (lpgood_none (by kernel_rfl))) L_eqTaskS_g0_kx L_eqTaskS_g0_cx k (g := fun p v next K => L_eqTaskS_g0 k p v next (fun x => K (.exit 0) (L_eqTaskS_g0_x0 p x)) (fun x => K .ret (L_eqTaskS_g0_xret p x))) (dec_at L_eqTaskS_g0_hd) (fun p v K K1 => L_eqTaskS_g0_round k p v K K1)
def L_eqTaskS_args (a : List Task × List Task) : List Arg := [.one (.sl (.st .task) a.1), .one (.sl (.st .task) a.2)]
def L_eqTaskS_argD (l : List Arg) : Option (List Task × List Task) := match l with
  | [.one (.sl (.st .task) b0), .one (.sl (.st .task) b1)] => some (b0, b1)
  | _ => none
def L_eqTaskS_enc (r : Bool) : Out := (.r [] (.bool r), [])
def L_eqTaskS_dec (o : Out) : Option (Bool) := match o with
  | (.r [] (.bool z1), []) => some z1
  | _ => none
def L_eqTaskS_G (k : Nat) : PG := fun _ l K => (L_eqTaskS_argD l).bind fun a => (L_eqTaskS k a.1 a.2).bind fun r => K (L_eqTaskS_enc r)
theorem L_eqTaskS_ev (k : Nat) (a : List Task × List Task) : ev (E_L_eqTaskS k) (LP_L_eqTaskS (Bool) k) 0 c_L_eqTaskS (st0 Try.f112 (L_eqTaskS_args a)) (fin Try.prog Try.f112 (.sc) L_eqTaskS_dec) = L_eqTaskS k a.1 a.2 := by kernel_rfl
theorem L_eqTaskS_ok (k : Nat) : PureOk Try.prog 112 (L_eqTaskS_G k) :=
  pureOk_of_ev (E_L_eqTaskS_ok k) Try.func112 (by kernel_rfl) (by kernel_rfl) L_eqTaskS_args L_eqTaskS_argD
    (fun l a h => by unfold L_eqTaskS_argD at h; split at h <;> first | (cases h; rfl) | cases h) (fun a => rfl) (lpgood_of (l := [(0, b_L_eqTaskS_0)]) (by kernel_rfl) ⟨L_eqTaskS_g0_ok k, trivial⟩)
    (fun o r h => by unfold L_eqTaskS_dec at h; split at h <;> first | (cases h; rfl) | cases h) (L_eqTaskS_ev k)
def o_L_eqTaskS (k : Nat) : Orc := pureOrc [.one (.sl (.st .task)), .one (.sl (.st .task))] (L_eqTaskS_G k)
theorem o_L_eqTaskS_ok (k : Nat) : OrcOk Try.prog 112 (o_L_eqTaskS k) := pureOrc_ok (L_eqTaskS_ok k)
/-! ### 42 loop.example/g00778/laws.eqSched -/
noncomputable def E_L_eqSched (k : Nat) : Env := { P := Try.prog, tt := tt, orc := fun g => cond (Nat.beq g 112) (o_L_eqTaskS k) (noOrc) }
theorem E_L_eqSched_ok (k : Nat) : EnvOk (E_L_eqSched k) := fun g => (orc_cond (o_L_eqTaskS_ok k) (noOrc_ok _ _))
noncomputable def c_L_eqSched : Code := (Try.f42.body).getD .skip
def LP_L_eqSched (ρ : Type) (k : Nat) : Nat → Ev ρ → Ev ρ := fun _ _ _ _ => none
def L_eqSched_args (a : Sched × Sched) : List Arg := [.agg [.int .i64 a.1.now, .int .i64 a.1.slack, .int .i64 a.1.age, .sl (.st .task) a.1.tasks, .int .i64 a.1.run, .int .i64 a.1.left, .int .i64 a.1.turns, .int .i64 a.1.next], .agg [.int .i64 a.2.now, .int .i64 a.2.slack, .int .i64 a.2.age, .sl (.st .task) a.2.tasks, .int .i64 a.2.run, .int .i64 a.2.left, .int .i64 a.2.turns, .int .i64 a.2.next]]
def L_eqSched_argD (l : List Arg) : Option (Sched × Sched) := match l with
  | [.agg [.int .i64 b0_0, .int .i64 b0_1, .int .i64 b0_2, .sl (.st .task) b0_3, .int .i64 b0_4, .int .i64 b0_5, .int .i64 b0_6, .int .i64 b0_7], .agg [.int .i64 b1_0, .int .i64 b1_1, .int .i64 b1_2, .sl (.st .task) b1_3, .int .i64 b1_4, .int .i64 b1_5, .int .i64 b1_6, .int .i64 b1_7]] => some ((⟨b0_0, b0_1, b0_2, b0_3, b0_4, b0_5, b0_6, b0_7⟩ : Sched), (⟨b1_0, b1_1, b1_2, b1_3, b1_4, b1_5, b1_6, b1_7⟩ : Sched))
  | _ => none
def L_eqSched_enc (r : Bool) : Out := (.r [] (.bool r), [])
def L_eqSched_dec (o : Out) : Option (Bool) := match o with
  | (.r [] (.bool z1), []) => some z1
  | _ => none
def L_eqSched_G (k : Nat) : PG := fun _ l K => (L_eqSched_argD l).bind fun a => (L_eqSched k a.1 a.2).bind fun r => K (L_eqSched_enc r)
theorem L_eqSched_ev (k : Nat) (a : Sched × Sched) : ev (E_L_eqSched k) (LP_L_eqSched (Bool) k) 0 c_L_eqSched (st0 Try.f42 (L_eqSched_args a)) (fin Try.prog Try.f42 (.sc) L_eqSched_dec) = L_eqSched k a.1 a.2 := by kernel_rfl
theorem L_eqSched_ok (k : Nat) : PureOk Try.prog 42 (L_eqSched_G k) :=
  pureOk_of_ev (E_L_eqSched_ok k) Try.func42 (by kernel_rfl) (by kernel_rfl) L_eqSched_args L_eqSched_argD
    (fun l a h => by unfold L_eqSched_argD at h; split at h <;> first | (cases h; rfl) | cases h) (fun a => rfl) (lpgood_none (by kernel_rfl))
    (fun o r h => by unfold L_eqSched_dec at h; split at h <;> first | (cases h; rfl) | cases h) (L_eqSched_ev k)
def o_L_eqSched (k : Nat) : Orc := pureOrc [.agg [(.int .i64), (.int .i64), (.int .i64), (.sl (.st .task)), (.int .i64), (.int .i64), (.int .i64), (.int .i64)], .agg [(.int .i64), (.int .i64), (.int .i64), (.sl (.st .task)), (.int .i64), (.int .i64), (.int .i64), (.int .i64)]] (L_eqSched_G k)
theorem o_L_eqSched_ok (k : Nat) : OrcOk Try.prog 42 (o_L_eqSched k) := pureOrc_ok (L_eqSched_ok k)
/-! ### 55 loop.example/g00778/laws.eqIntSS -/
noncomputable def E_L_eqIntSS (k : Nat) : Env := { P := Try.prog, tt := tt, orc := fun g => cond (Nat.beq g 43) (o_L_eqIntS k) (noOrc) }
theorem E_L_eqIntSS_ok (k : Nat) : EnvOk (E_L_eqIntSS k) := fun g => (orc_cond (o_L_eqIntS_ok k) (noOrc_ok _ _))
noncomputable def c_L_eqIntSS : Code := (Try.f55.body).getD .skip
noncomputable def b_L_eqIntSS_0 : Code := ((loopsIn 0 c_L_eqIntSS).getD 0 (0, .skip)).2
def L_eqIntSS_g0_keep : List Nat := [0, 1, 5]
def L_eqIntSS_g0_co : List (Where × Co) := []
def L_eqIntSS_g0_kx : Ex → List Nat
  | .exit j => cond (Nat.beq j 0) [] []
  | .ret => [4]
  | .normal => []
def L_eqIntSS_g0_cx : Ex → List (Where × Co)
  | .exit j => cond (Nat.beq j 0) [] []
  | .ret => []
  | .normal => []
def L_eqIntSS_g0_tm (pv : (List (List Int) × List (List Int)) × (Int)) : St := { slots := [(0, .r [] (.sl (.sl (.int .i64)) pv.1.1)), (1, .r [] (.sl (.sl (.int .i64)) pv.1.2)), (5, .r [] (.int .i64 pv.2))], heap := [], nid := 0, n := 27, gh := [] }
def L_eqIntSS_g0_dec (nf : NF) : Option ((List (List Int) × List (List Int)) × (Int)) := match nf with
  | ([.r [] (.sl (.sl (.int .i64)) w0), .r [] (.sl (.sl (.int .i64)) w1), .r [] (.int .i64 w2)], [], []) => some ((w0, w1), w2)
  | _ => none
theorem L_eqIntSS_g0_hd (nf : NF) (v : (List (List Int) × List (List Int)) × (Int)) (h : L_eqIntSS_g0_dec nf = some v) : denorm L_eqIntSS_g0_keep 27 nf = L_eqIntSS_g0_tm v := by
  unfold L_eqIntSS_g0_dec at h
  split at h
  · cases h; rfl
  · cases h
def L_eqIntSS_g0_x0 (p : List (List Int) × List (List Int)) (x : Unit) : St := { slots := [], heap := [], nid := 0, n := 27, gh := [] }
def L_eqIntSS_g0_xret (p : List (List Int) × List (List Int)) (x : Bool) : St := { slots := [(4, .r [] (.bool x))], heap := [], nid := 0, n := 27, gh := [] }
def LP_L_eqIntSS (ρ : Type) (k : Nat) : Nat → Ev ρ → Ev ρ := fun id f => cond (Nat.beq id 0) (loopOrc L_eqIntSS_g0_keep L_eqIntSS_g0_co (fun n nf => cond (Nat.beq n 27) (L_eqIntSS_g0_dec nf) none) fun pv K => iter (fun v next => L_eqIntSS_g0 k pv.1 v next (fun x => K (.exit 0) (L_eqIntSS_g0_x0 pv.1 x)) (fun x => K .ret (L_eqIntSS_g0_xret pv.1 x))) k pv.2) ((fun _ _ _ _ => none) id f)
theorem L_eqIntSS_g0_round {ρ : Type} (k : Nat) (p : List (List Int) × List (List Int)) (v : Int) (K K1 : Ex → St → Option ρ) : ev (E_L_eqIntSS k) (LP_L_eqIntSS ρ k) 0 b_L_eqIntSS_0 (L_eqIntSS_g0_tm (p, v)) (fun e st' => match e with
    | .normal => (normC L_eqIntSS_g0_keep L_eqIntSS_g0_co st').bind fun nf => K1 .normal (denorm L_eqIntSS_g0_keep st'.n nf)
    | e => (normC (L_eqIntSS_g0_kx e) (L_eqIntSS_g0_cx e) st').bind fun nf => K e (denorm (L_eqIntSS_g0_kx e) st'.n nf)) = L_eqIntSS_g0 k p v (fun v' => K1 .normal (L_eqIntSS_g0_tm (p, v'))) (fun x => K (.exit 0) (L_eqIntSS_g0_x0 p x)) (fun x => K .ret (L_eqIntSS_g0_xret p x)) := by kernel_rfl
theorem L_eqIntSS_g0_ok {ρ : Type} (k : Nat) : Sound Try.prog (.loop b_L_eqIntSS_0) (LP_L_eqIntSS ρ k 0 fun st K => ev (E_L_eqIntSS k) (LP_L_eqIntSS ρ k) 0 b_L_eqIntSS_0 st K) :=
  loop_ok (ev_sound (E_L_eqIntSS_ok k) b_L_eqIntSS_0 0 (lpgood_none (by kernel_rfl))) L_eqIntSS_g0_kx L_eqIntSS_g0_cx k (g := fun p v next K => L_eqIntSS_g0 k p v next (fun x => K (.exit 0) (L_eqIntSS_g0_x0 p x)) (fun x => K .ret (L_eqIntSS_g0_xret p x))) (dec_at L_eqIntSS_g0_hd) (fun p v K K1 => L_eqIntSS_g0_round k p v K K1)
def L_eqIntSS_args (a : List (List Int) × List (List Int)) : List Arg := [.one (.sl (.sl (.int .i64)) a.1), .one (.sl (.sl (.int .i64)) a.2)]
def L_eqIntSS_argD (l : List Arg) : Option (List (List Int) × List (List Int)) := match l with
  | [.one (.sl (.sl (.int .i64)) b0), .one (.sl (.sl (.int .i64)) b1)] => some (b0, b1)
  | _ => none
def L_eqIntSS_enc (r : Bool) : Out := (.r [] (.bool r), [])
def L_eqIntSS_dec (o : Out) : Option (Bool) := match o with
  | (.r [] (.bool z1), []) => some z1
  | _ => none
def L_eqIntSS_G (k : Nat) : PG := fun _ l K => (L_eqIntSS_argD l).bind fun a => (L_eqIntSS k a.1 a.2).bind fun r => K (L_eqIntSS_enc r)
theorem L_eqIntSS_ev (k : Nat) (a : List (List Int) × List (List Int)) : ev (E_L_eqIntSS k) (LP_L_eqIntSS (Bool) k) 0 c_L_eqIntSS (st0 Try.f55 (L_eqIntSS_args a)) (fin Try.prog Try.f55 (.sc) L_eqIntSS_dec) = L_eqIntSS k a.1 a.2 := by kernel_rfl
theorem L_eqIntSS_ok (k : Nat) : PureOk Try.prog 55 (L_eqIntSS_G k) :=
  pureOk_of_ev (E_L_eqIntSS_ok k) Try.func55 (by kernel_rfl) (by kernel_rfl) L_eqIntSS_args L_eqIntSS_argD
    (fun l a h => by unfold L_eqIntSS_argD at h; split at h <;> first | (cases h; rfl) | cases h) (fun a => rfl) (lpgood_of (l := [(0, b_L_eqIntSS_0)]) (by kernel_rfl) ⟨L_eqIntSS_g0_ok k, trivial⟩)
    (fun o r h => by unfold L_eqIntSS_dec at h; split at h <;> first | (cases h; rfl) | cases h) (L_eqIntSS_ev k)
def o_L_eqIntSS (k : Nat) : Orc := pureOrc [.one (.sl (.sl (.int .i64))), .one (.sl (.sl (.int .i64)))] (L_eqIntSS_G k)
theorem o_L_eqIntSS_ok (k : Nat) : OrcOk Try.prog 55 (o_L_eqIntSS k) := pureOrc_ok (L_eqIntSS_ok k)
/-! ### 45 loop.example/g00778/laws.markIntS -/
noncomputable def E_L_markIntS_m3 (k : Nat) : Env := { P := Try.prog, tt := tt, orc := fun g => noOrc }
theorem E_L_markIntS_m3_ok (k : Nat) : EnvOk (E_L_markIntS_m3 k) := fun g => (noOrc_ok _ _)
noncomputable def c_L_markIntS_m3 : Code := (Try.f45.body).getD .skip
noncomputable def b_L_markIntS_m3_0 : Code := ((loopsIn 0 c_L_markIntS_m3).getD 0 (0, .skip)).2
def L_markIntS_m3_g0_keep : List Nat := [0, 1, 5]
def L_markIntS_m3_g0_co : List (Where × Co) := []
def L_markIntS_m3_g0_kx : Ex → List Nat
  | .exit j => cond (Nat.beq j 0) [1] []
  | .ret => []
  | .normal => []
def L_markIntS_m3_g0_cx : Ex → List (Where × Co)
  | .exit j => cond (Nat.beq j 0) [] []
  | .ret => []
  | .normal => []
def L_markIntS_m3_g0_tm (pv : (Unit) × (Int × Int × List Int)) : St := { slots := [(0, .own 0), (1, .r [] (.int .i64 pv.2.1)), (5, .r [] (.int .i64 pv.2.2.1))], heap := [(0, .arr none (.int .i64) pv.2.2.2)], nid := 1, n := 19, gh := [some 0] }
def L_markIntS_m3_g0_dec (nf : NF) : Option ((Unit) × (Int × Int × List Int)) := match nf with
  | ([.own 0, .r [] (.int .i64 w0), .r [] (.int .i64 w1)], [.arr none (.int .i64) w2], [some 0]) => some ((), (w0, w1, w2))
  | _ => none
theorem L_markIntS_m3_g0_hd (nf : NF) (v : (Unit) × (Int × Int × List Int)) (h : L_markIntS_m3_g0_dec nf = some v) : denorm L_markIntS_m3_g0_keep 19 nf = L_markIntS_m3_g0_tm v := by
  unfold L_markIntS_m3_g0_dec at h
  split at h
  · cases h; rfl
  · cases h
def L_markIntS_m3_g0_x0 (p : Unit) (x : Int × List Int) : St := { slots := [(1, .r [] (.int .i64 x.1))], heap := [(0, .arr none (.int .i64) x.2)], nid := 1, n := 19, gh := [some 0] }
def LP_L_markIntS_m3 (ρ : Type) (k : Nat) : Nat → Ev ρ → Ev ρ := fun id f => cond (Nat.beq id 0) (loopOrc L_markIntS_m3_g0_keep L_markIntS_m3_g0_co (fun n nf => cond (Nat.beq n 19) (L_markIntS_m3_g0_dec nf) none) fun pv K => iter (fun v next => L_markIntS_m3_g0 k pv.1 v next (fun x => K (.exit 0) (L_markIntS_m3_g0_x0 pv.1 x))) k pv.2) ((fun _ _ _ _ => none) id f)
theorem L_markIntS_m3_g0_round {ρ : Type} (k : Nat) (p : Unit) (v : Int × Int × List Int) (K K1 : Ex → St → Option ρ) : ev (E_L_markIntS_m3 k) (LP_L_markIntS_m3 ρ k) 0 b_L_markIntS_m3_0 (L_markIntS_m3_g0_tm (p, v)) (fun e st' => match e with
    | .normal => (normC L_markIntS_m3_g0_keep L_markIntS_m3_g0_co st').bind fun nf => K1 .normal (denorm L_markIntS_m3_g0_keep st'.n nf)
    | e => (normC (L_markIntS_m3_g0_kx e) (L_markIntS_m3_g0_cx e) st').bind fun nf => K e (denorm (L_markIntS_m3_g0_kx e) st'.n nf)) = L_markIntS_m3_g0 k p v (fun v' => K1 .normal (L_markIntS_m3_g0_tm (p, v'))) (fun x => K (.exit 0) (L_markIntS_m3_g0_x0 p x)) := by kernel_rfl
theorem L_markIntS_m3_g0_ok {ρ : Type} (k : Nat) : Sound Try.prog (.loop b_L_markIntS_m3_0) (LP_L_markIntS_m3 ρ k 0 fun st K => ev (E_L_markIntS_m3 k) (LP_L_markIntS_m3 ρ k) 0 b_L_markIntS_m3_0 st K) :=
  loop_ok (ev_sound (E_L_markIntS_m3_ok k) b_L_markIntS_m3_0 0 (lpgood_none (by kernel_rfl))) L_markIntS_m3_g0_kx L_markIntS_m3_g0_cx k (g := fun p v next K => L_markIntS_m3_g0 k p v next (fun x => K (.exit 0) (L_markIntS_m3_g0_x0 p x))) (dec_at L_markIntS_m3_g0_hd) (fun p v K K1 => L_markIntS_m3_g0_round k p v K K1)
def L_markIntS_m3_args (a : List Int × Int) : List SV := [.own 0, .r [] (.int .i64 a.2)]
def L_markIntS_m3_blks (a : List Int × Int) : List Blk := [.arr none (.int .i64) a.1]
def L_markIntS_m3_argD (l : List SV) (b : List Blk) : Option (List Int × Int) := match l, b with
  | [.own 0, .r [] (.int .i64 w0)], [.arr none (.int .i64) w1] => some (w1, w0)
  | _, _ => none
def L_markIntS_m3_enc (a : List Int × Int) (r : Int × List Int) : MOut := ⟨.r [] (.int .i64 r.1), [some (.arr none (.int .i64) r.2)], []⟩
def L_markIntS_m3_dec (a : List Int × Int) (o : MOut) : Option (Int × List Int) := match o with
  | ⟨.r [] (.int .i64 z1), [some (.arr none (.int .i64) z2)], []⟩ => some (z1, z2)
  | _ => none
def L_markIntS_m3_G (k : Nat) : MG := fun _ l b K => (L_markIntS_m3_argD l b).bind fun a => (L_markIntS_m3 k a.1 a.2).bind fun r => K (L_markIntS_m3_enc a r)
theorem L_markIntS_m3_ev (k : Nat) (a : List Int × Int) : ev (E_L_markIntS_m3 k) (LP_L_markIntS_m3 (Int × List Int) k) 0 c_L_markIntS_m3 (st0M Try.f45 (L_markIntS_m3_args a) (L_markIntS_m3_blks a)) (finM Try.prog Try.f45 (.sc) [.arr] (L_markIntS_m3_dec a)) = L_markIntS_m3 k a.1 a.2 := by kernel_rfl
theorem L_markIntS_m3_ok (k : Nat) : MutOk Try.prog 45 (L_markIntS_m3_G k) :=
  mutOk_of_ev (E_L_markIntS_m3_ok k) Try.func45 (by kernel_rfl) (by kernel_rfl) L_markIntS_m3_args L_markIntS_m3_blks L_markIntS_m3_argD
    (fun l b a h => by unfold L_markIntS_m3_argD at h; split at h <;> first | (cases h; exact ⟨rfl, rfl⟩) | cases h) (fun a => rfl) (lpgood_of (l := [(0, b_L_markIntS_m3_0)]) (by kernel_rfl) ⟨L_markIntS_m3_g0_ok k, trivial⟩) (fun a r => rfl)
    (fun a o r h => by unfold L_markIntS_m3_dec at h; split at h <;> first | (skip; cases h; rfl) | cases h) (L_markIntS_m3_ev k)
def o_L_markIntS_m3 (k : Nat) : Orc := mutOrc [.keep, .keep] (L_markIntS_m3_G k)
theorem o_L_markIntS_m3_ok (k : Nat) : OrcOk Try.prog 45 (o_L_markIntS_m3 k) := mutOrc_ok (L_markIntS_m3_ok k)
/-! ### 56 loop.example/g00778/laws.markIntSS -/
noncomputable def E_L_markIntSS_m2 (k : Nat) : Env := { P := Try.prog, tt := tt, orc := fun g => cond (Nat.beq g 45) (innOrc (o_L_markIntS_m3 k)) (noOrc), wr := fun g => mem g [45], wt := true, inn := true }
theorem E_L_markIntSS_m2_ok (k : Nat) : EnvOk (E_L_markIntSS_m2 k) := fun g => (orc_cond (innOrc_ok (o_L_markIntS_m3_ok k)) (noOrc_ok _ _))
noncomputable def c_L_markIntSS_m2 : Code := (Try.f56.body).getD .skip
noncomputable def b_L_markIntSS_m2_0 : Code := ((loopsIn 0 c_L_markIntSS_m2).getD 0 (0, .skip)).2
def L_markIntSS_m2_g0_keep : List Nat := [0, 1, 5]
def L_markIntSS_m2_g0_co : List (Where × Co) := []
def L_markIntSS_m2_g0_kx : Ex → List Nat
  | .exit j => cond (Nat.beq j 0) [1] []
  | .ret => []
  | .normal => []
def L_markIntSS_m2_g0_cx : Ex → List (Where × Co)
  | .exit j => cond (Nat.beq j 0) [] []
  | .ret => []
  | .normal => []
def L_markIntSS_m2_g0_tm (pv : (Unit) × (Int × Int × List (List Int))) : St := { slots := [(0, .own 0), (1, .r [] (.int .i64 pv.2.1)), (5, .r [] (.int .i64 pv.2.2.1))], heap := [(0, .arr none (.sl (.int .i64)) pv.2.2.2)], nid := 1, n := 19, gh := [some 0] }
def L_markIntSS_m2_g0_dec (nf : NF) : Option ((Unit) × (Int × Int × List (List Int))) := match nf with
  | ([.own 0, .r [] (.int .i64 w0), .r [] (.int .i64 w1)], [.arr none (.sl (.int .i64)) w2], [some 0]) => some ((), (w0, w1, w2))
  | _ => none
theorem L_markIntSS_m2_g0_hd (nf : NF) (v : (Unit) × (Int × Int × List (List Int))) (h : L_markIntSS_m2_g0_dec nf = some v) : denorm L_markIntSS_m2_g0_keep 19 nf = L_markIntSS_m2_g0_tm v := by
  unfold L_markIntSS_m2_g0_dec at h
  split at h
  · cases h; rfl
  · cases h
def L_markIntSS_m2_g0_x0 (p : Unit) (x : Int × List (List Int)) : St := { slots := [(1, .r [] (.int .i64 x.1))], heap := [(0, .arr none (.sl (.int .i64)) x.2)], nid := 1, n := 19, gh := [some 0] }
def LP_L_markIntSS_m2 (ρ : Type) (k : Nat) : Nat → Ev ρ → Ev ρ := fun id f => cond (Nat.beq id 0) (loopOrc L_markIntSS_m2_g0_keep L_markIntSS_m2_g0_co (fun n nf => cond (Nat.beq n 19) (L_markIntSS_m2_g0_dec nf) none) fun pv K => iter (fun v next => L_markIntSS_m2_g0 k pv.1 v next (fun x => K (.exit 0) (L_markIntSS_m2_g0_x0 pv.1 x))) k pv.2) ((fun _ _ _ _ => none) id f)
theorem L_markIntSS_m2_g0_round {ρ : Type} (k : Nat) (p : Unit) (v : Int × Int × List (List Int)) (K K1 : Ex → St → Option ρ) : ev (E_L_markIntSS_m2 k) (LP_L_markIntSS_m2 ρ k) 0 b_L_markIntSS_m2_0 (L_markIntSS_m2_g0_tm (p, v)) (fun e st' => match e with
    | .normal => (normC L_markIntSS_m2_g0_keep L_markIntSS_m2_g0_co st').bind fun nf => K1 .normal (denorm L_markIntSS_m2_g0_keep st'.n nf)
    | e => (normC (L_markIntSS_m2_g0_kx e) (L_markIntSS_m2_g0_cx e) st').bind fun nf => K e (denorm (L_markIntSS_m2_g0_kx e) st'.n nf)) = L_markIntSS_m2_g0 k p v (fun v' => K1 .normal (L_markIntSS_m2_g0_tm (p, v'))) (fun x => K (.exit 0) (L_markIntSS_m2_g0_x0 p x)) := by kernel_rfl
theorem L_markIntSS_m2_g0_ok {ρ : Type} (k : Nat) : Sound Try.prog (.loop b_L_markIntSS_m2_0) (LP_L_markIntSS_m2 ρ k 0 fun st K => ev (E_L_markIntSS_m2 k) (LP_L_markIntSS_m2 ρ k) 0 b_L_markIntSS_m2_0 st K) :=
  loop_ok (ev_sound (E_L_markIntSS_m2_ok k) b_L_markIntSS_m2_0 0 (lpgood_none (by kernel_rfl))) L_markIntSS_m2_g0_kx L_markIntSS_m2_g0_cx k (g := fun p v next K => L_markIntSS_m2_g0 k p v next (fun x => K (.exit 0) (L_markIntSS_m2_g0_x0 p x))) (dec_at L_markIntSS_m2_g0_hd) (fun p v K K1 => L_markIntSS_m2_g0_round k p v K K1)
def L_markIntSS_m2_args (a : List (List Int) × Int) : List SV := [.own 0, .r [] (.int .i64 a.2)]
def L_markIntSS_m2_blks (a : List (List Int) × Int) : List Blk := [.arr none (.sl (.int .i64)) a.1]
def L_markIntSS_m2_argD (l : List SV) (b : List Blk) : Option (List (List Int) × Int) := match l, b with
  | [.own 0, .r [] (.int .i64 w0)], [.arr none (.sl (.int .i64)) w1] => some (w1, w0)
  | _, _ => none
def L_markIntSS_m2_enc (a : List (List Int) × Int) (r : Int × List (List Int)) : MOut := ⟨.r [] (.int .i64 r.1), [some (.arr none (.sl (.int .i64)) r.2)], []⟩
def L_markIntSS_m2_dec (a : List (List Int) × Int) (o : MOut) : Option (Int × List (List Int)) := match o with
  | ⟨.r [] (.int .i64 z1), [some (.arr none (.sl (.int .i64)) z2)], []⟩ => some (z1, z2)
  | _ => none
def L_markIntSS_m2_G (k : Nat) : MG := fun _ l b K => (L_markIntSS_m2_argD l b).bind fun a => (L_markIntSS_m2 k a.1 a.2).bind fun r => K (L_markIntSS_m2_enc a r)
theorem L_markIntSS_m2_ev (k : Nat) (a : List (List Int) × Int) : ev (E_L_markIntSS_m2 k) (LP_L_markIntSS_m2 (Int × List (List Int)) k) 0 c_L_markIntSS_m2 (st0M Try.f56 (L_markIntSS_m2_args a) (L_markIntSS_m2_blks a)) (finM Try.prog Try.f56 (.sc) [.arr] (L_markIntSS_m2_dec a)) = L_markIntSS_m2 k a.1 a.2 := by kernel_rfl
theorem L_markIntSS_m2_ok (k : Nat) : MutOk Try.prog 56 (L_markIntSS_m2_G k) :=
  mutOk_of_ev (E_L_markIntSS_m2_ok k) Try.func56 (by kernel_rfl) (by kernel_rfl) L_markIntSS_m2_args L_markIntSS_m2_blks L_markIntSS_m2_argD
    (fun l b a h => by unfold L_markIntSS_m2_argD at h; split at h <;> first | (cases h; exact ⟨rfl, rfl⟩) | cases h) (fun a => rfl) (lpgood_of (l := [(0, b_L_markIntSS_m2_0)]) (by kernel_rfl) ⟨L_markIntSS_m2_g0_ok k, trivial⟩) (fun a r => rfl)
    (fun a o r h => by unfold L_markIntSS_m2_dec at h; split at h <;> first | (skip; cases h; rfl) | cases h) (L_markIntSS_m2_ev k)
def o_L_markIntSS_m2 (k : Nat) : Orc := mutOrc [.keep, .keep] (L_markIntSS_m2_G k)
theorem o_L_markIntSS_m2_ok (k : Nat) : OrcOk Try.prog 56 (o_L_markIntSS_m2 k) := mutOrc_ok (L_markIntSS_m2_ok k)
/-! ### 113 loop.example/g00778/laws.markTaskS -/
noncomputable def E_L_markTaskS_m3 (k : Nat) : Env := { P := Try.prog, tt := tt, orc := fun g => cond (Nat.beq g 45) (innOrc (o_L_markIntS_m3 k)) (noOrc), wr := fun g => mem g [45], wt := true, inn := true }
theorem E_L_markTaskS_m3_ok (k : Nat) : EnvOk (E_L_markTaskS_m3 k) := fun g => (orc_cond (innOrc_ok (o_L_markIntS_m3_ok k)) (noOrc_ok _ _))
noncomputable def c_L_markTaskS_m3 : Code := (Try.f113.body).getD .skip
noncomputable def b_L_markTaskS_m3_0 : Code := ((loopsIn 0 c_L_markTaskS_m3).getD 0 (0, .skip)).2
def L_markTaskS_m3_g0_keep : List Nat := [0, 1, 5]
def L_markTaskS_m3_g0_co : List (Where × Co) := []
def L_markTaskS_m3_g0_kx : Ex → List Nat
  | .exit j => cond (Nat.beq j 0) [1] []
  | .ret => []
  | .normal => []
def L_markTaskS_m3_g0_cx : Ex → List (Where × Co)
  | .exit j => cond (Nat.beq j 0) [] []
  | .ret => []
  | .normal => []
def L_markTaskS_m3_g0_tm (pv : (Unit) × (Int × Int × List Task)) : St := { slots := [(0, .own 0), (1, .r [] (.int .i64 pv.2.1)), (5, .r [] (.int .i64 pv.2.2.1))], heap := [(0, .arr none (.st .task) pv.2.2.2)], nid := 1, n := 48, gh := [some 0] }
def L_markTaskS_m3_g0_dec (nf : NF) : Option ((Unit) × (Int × Int × List Task)) := match nf with
  | ([.own 0, .r [] (.int .i64 w0), .r [] (.int .i64 w1)], [.arr none (.st .task) w2], [some 0]) => some ((), (w0, w1, w2))
  | _ => none
theorem L_markTaskS_m3_g0_hd (nf : NF) (v : (Unit) × (Int × Int × List Task)) (h : L_markTaskS_m3_g0_dec nf = some v) : denorm L_markTaskS_m3_g0_keep 48 nf = L_markTaskS_m3_g0_tm v := by
  unfold L_markTaskS_m3_g0_dec at h
  split at h
  · cases h; rfl
  · cases h
def L_markTaskS_m3_g0_x0 (p : Unit) (x : Int × List Task) : St := { slots := [(1, .r [] (.int .i64 x.1))], heap := [(0, .arr none (.st .task) x.2)], nid := 1, n := 48, gh := [some 0] }
def LP_L_markTaskS_m3 (ρ : Type) (k : Nat) : Nat → Ev ρ → Ev ρ := fun id f => cond (Nat.beq id 0) (loopOrc L_markTaskS_m3_g0_keep L_markTaskS_m3_g0_co (fun n nf => cond (Nat.beq n 48) (L_markTaskS_m3_g0_dec nf) none) fun pv K => iter (fun v next => L_markTaskS_m3_g0 k pv.1 v next (fun x => K (.exit 0) (L_markTaskS_m3_g0_x0 pv.1 x))) k pv.2) ((fun _ _ _ _ => none) id f)
theorem L_markTaskS_m3_g0_round {ρ : Type} (k : Nat) (p : Unit) (v : Int × Int × List Task) (K K1 : Ex → St → Option ρ) : ev (E_L_markTaskS_m3 k) (LP_L_markTaskS_m3 ρ k) 0 b_L_markTaskS_m3_0 (L_markTaskS_m3_g0_tm (p, v)) (fun e st' => match e with
    | .normal => (normC L_markTaskS_m3_g0_keep L_markTaskS_m3_g0_co st').bind fun nf => K1 .normal (denorm L_markTaskS_m3_g0_keep st'.n nf)
    | e => (normC (L_markTaskS_m3_g0_kx e) (L_markTaskS_m3_g0_cx e) st').bind fun nf => K e (denorm (L_markTaskS_m3_g0_kx e) st'.n nf)) = L_markTaskS_m3_g0 k p v (fun v' => K1 .normal (L_markTaskS_m3_g0_tm (p, v'))) (fun x => K (.exit 0) (L_markTaskS_m3_g0_x0 p x)) := by kernel_rfl
theorem L_markTaskS_m3_g0_ok {ρ : Type} (k : Nat) : Sound Try.prog (.loop b_L_markTaskS_m3_0) (LP_L_markTaskS_m3 ρ k 0 fun st K => ev (E_L_markTaskS_m3 k) (LP_L_markTaskS_m3 ρ k) 0 b_L_markTaskS_m3_0 st K) :=
  loop_ok (ev_sound (E_L_markTaskS_m3_ok k) b_L_markTaskS_m3_0 0 (lpgood_none (by kernel_rfl))) L_markTaskS_m3_g0_kx L_markTaskS_m3_g0_cx k (g := fun p v next K => L_markTaskS_m3_g0 k p v next (fun x => K (.exit 0) (L_markTaskS_m3_g0_x0 p x))) (dec_at L_markTaskS_m3_g0_hd) (fun p v K K1 => L_markTaskS_m3_g0_round k p v K K1)
def L_markTaskS_m3_args (a : List Task × Int) : List SV := [.own 0, .r [] (.int .i64 a.2)]
def L_markTaskS_m3_blks (a : List Task × Int) : List Blk := [.arr none (.st .task) a.1]
def L_markTaskS_m3_argD (l : List SV) (b : List Blk) : Option (List Task × Int) := match l, b with
  | [.own 0, .r [] (.int .i64 w0)], [.arr none (.st .task) w1] => some (w1, w0)
  | _, _ => none
def L_markTaskS_m3_enc (a : List Task × Int) (r : Int × List Task) : MOut := ⟨.r [] (.int .i64 r.1), [some (.arr none (.st .task) r.2)], []⟩
def L_markTaskS_m3_dec (a : List Task × Int) (o : MOut) : Option (Int × List Task) := match o with
  | ⟨.r [] (.int .i64 z1), [some (.arr none (.st .task) z2)], []⟩ => some (z1, z2)
  | _ => none
def L_markTaskS_m3_G (k : Nat) : MG := fun _ l b K => (L_markTaskS_m3_argD l b).bind fun a => (L_markTaskS_m3 k a.1 a.2).bind fun r => K (L_markTaskS_m3_enc a r)
theorem L_markTaskS_m3_ev (k : Nat) (a : List Task × Int) : ev (E_L_markTaskS_m3 k) (LP_L_markTaskS_m3 (Int × List Task) k) 0 c_L_markTaskS_m3 (st0M Try.f113 (L_markTaskS_m3_args a) (L_markTaskS_m3_blks a)) (finM Try.prog Try.f113 (.sc) [.arr] (L_markTaskS_m3_dec a)) = L_markTaskS_m3 k a.1 a.2 := by kernel_rfl
theorem L_markTaskS_m3_ok (k : Nat) : MutOk Try.prog 113 (L_markTaskS_m3_G k) :=
  mutOk_of_ev (E_L_markTaskS_m3_ok k) Try.func113 (by kernel_rfl) (by kernel_rfl) L_markTaskS_m3_args L_markTaskS_m3_blks L_markTaskS_m3_argD
    (fun l b a h => by unfold L_markTaskS_m3_argD at h; split at h <;> first | (cases h; exact ⟨rfl, rfl⟩) | cases h) (fun a => rfl) (lpgood_of (l := [(0, b_L_markTaskS_m3_0)]) (by kernel_rfl) ⟨L_markTaskS_m3_g0_ok k, trivial⟩) (fun a r => rfl)
    (fun a o r h => by unfold L_markTaskS_m3_dec at h; split at h <;> first | (skip; cases h; rfl) | cases h) (L_markTaskS_m3_ev k)
def o_L_markTaskS_m3 (k : Nat) : Orc := mutOrc [.keep, .keep] (L_markTaskS_m3_G k)
theorem o_L_markTaskS_m3_ok (k : Nat) : OrcOk Try.prog 113 (o_L_markTaskS_m3 k) := mutOrc_ok (L_markTaskS_m3_ok k)
/-! ### 44 loop.example/g00778/laws.markSched -/
noncomputable def E_L_markSched_m2 (k : Nat) : Env := { P := Try.prog, tt := tt, orc := fun g => cond (Nat.beq g 113) (o_L_markTaskS_m3 k) (noOrc), wr := fun g => mem g [113], wt := true }
theorem E_L_markSched_m2_ok (k : Nat) : EnvOk (E_L_markSched_m2 k) := fun g => (orc_cond (o_L_markTaskS_m3_ok k) (noOrc_ok _ _))
noncomputable def c_L_markSched_m2 : Code := (Try.f44.body).getD .skip
def LP_L_markSched_m2 (ρ : Type) (k : Nat) : Nat → Ev ρ → Ev ρ := fun _ _ _ _ => none
def L_markSched_m2_args (a : Sched × Int) : List SV := [.agg [.r [] (.int .i64 a.1.now), .r [] (.int .i64 a.1.slack), .r [] (.int .i64 a.1.age), .own 0, .r [] (.int .i64 a.1.run), .r [] (.int .i64 a.1.left), .r [] (.int .i64 a.1.turns), .r [] (.int .i64 a.1.next)], .r [] (.int .i64 a.2)]
def L_markSched_m2_blks (a : Sched × Int) : List Blk := [.arr none (.st .task) a.1.tasks]
def L_markSched_m2_argD (l : List SV) (b : List Blk) : Option (Sched × Int) := match l, b with
  | [.agg [.r [] (.int .i64 w0), .r [] (.int .i64 w1), .r [] (.int .i64 w2), .own 0, .r [] (.int .i64 w3), .r [] (.int .i64 w4), .r [] (.int .i64 w5), .r [] (.int .i64 w6)], .r [] (.int .i64 w7)], [.arr none (.st .task) w8] => some ((⟨w0, w1, w2, w8, w3, w4, w5, w6⟩ : Sched), w7)
  | _, _ => none
def L_markSched_m2_enc (a : Sched × Int) (r : Int × List Task) : MOut := ⟨.r [] (.int .i64 r.1), [some (.arr none (.st .task) r.2)], []⟩
def L_markSched_m2_dec (a : Sched × Int) (o : MOut) : Option (Int × List Task) := match o with
  | ⟨.r [] (.int .i64 z1), [some (.arr none (.st .task) z2)], []⟩ => some (z1, z2)
  | _ => none
def L_markSched_m2_G (k : Nat) : MG := fun _ l b K => (L_markSched_m2_argD l b).bind fun a => (L_markSched_m2 k a.1 a.2).bind fun r => K (L_markSched_m2_enc a r)
theorem L_markSched_m2_ev (k : Nat) (a : Sched × Int) : ev (E_L_markSched_m2 k) (LP_L_markSched_m2 (Int × List Task) k) 0 c_L_markSched_m2 (st0M Try.f44 (L_markSched_m2_args a) (L_markSched_m2_blks a)) (finM Try.prog Try.f44 (.sc) [.arr] (L_markSched_m2_dec a)) = L_markSched_m2 k a.1 a.2 := by kernel_rfl
theorem L_markSched_m2_ok (k : Nat) : MutOk Try.prog 44 (L_markSched_m2_G k) :=
  mutOk_of_ev (E_L_markSched_m2_ok k) Try.func44 (by kernel_rfl) (by kernel_rfl) L_markSched_m2_args L_markSched_m2_blks L_markSched_m2_argD
    (fun l b a h => by unfold L_markSched_m2_argD at h; split at h <;> first | (cases h; exact ⟨rfl, rfl⟩) | cases h) (fun a => rfl) (lpgood_none (by kernel_rfl)) (fun a r => rfl)
    (fun a o r h => by unfold L_markSched_m2_dec at h; split at h <;> first | (skip; cases h; rfl) | cases h) (L_markSched_m2_ev k)
def o_L_markSched_m2 (k : Nat) : Orc := mutOrc [.keep, .keep] (L_markSched_m2_G k)
theorem o_L_markSched_m2_ok (k : Nat) : OrcOk Try.prog 44 (o_L_markSched_m2 k) := mutOrc_ok (L_markSched_m2_ok k)
/-! ### 57 loop.example/g00778/laws.heldIntS -/
noncomputable def E_L_heldIntS (k : Nat) : Env := { P := Try.prog, tt := tt, orc := fun g => noOrc }
theorem E_L_heldIntS_ok (k : Nat) : EnvOk (E_L_heldIntS k) := fun g => (noOrc_ok _ _)
noncomputable def c_L_heldIntS : Code := (Try.f57.body).getD .skip
noncomputable def b_L_heldIntS_0 : Code := ((loopsIn 0 c_L_heldIntS).getD 0 (0, .skip)).2
def L_heldIntS_g0_keep : List Nat := [0, 1, 5]
def L_heldIntS_g0_co : List (Where × Co) := []
def L_heldIntS_g0_kx : Ex → List Nat
  | .exit j => cond (Nat.beq j 0) [1] []
  | .ret => [4]
  | .normal => []
def L_heldIntS_g0_cx : Ex → List (Where × Co)
  | .exit j => cond (Nat.beq j 0) [] []
  | .ret => []
  | .normal => []
def L_heldIntS_g0_tm (pv : (List Int) × (Int × Int)) : St := { slots := [(0, .r [] (.sl (.int .i64) pv.1)), (1, .r [] (.int .i64 pv.2.1)), (5, .r [] (.int .i64 pv.2.2))], heap := [], nid := 0, n := 21, gh := [] }
def L_heldIntS_g0_dec (nf : NF) : Option ((List Int) × (Int × Int)) := match nf with
  | ([.r [] (.sl (.int .i64) w0), .r [] (.int .i64 w1), .r [] (.int .i64 w2)], [], []) => some (w0, (w1, w2))
  | _ => none
theorem L_heldIntS_g0_hd (nf : NF) (v : (List Int) × (Int × Int)) (h : L_heldIntS_g0_dec nf = some v) : denorm L_heldIntS_g0_keep 21 nf = L_heldIntS_g0_tm v := by
  unfold L_heldIntS_g0_dec at h
  split at h
  · cases h; rfl
  · cases h
def L_heldIntS_g0_x0 (p : List Int) (x : Int) : St := { slots := [(1, .r [] (.int .i64 x))], heap := [], nid := 0, n := 21, gh := [] }
def L_heldIntS_g0_xret (p : List Int) (x : Int) : St := { slots := [(4, .r [] (.int .i64 x))], heap := [], nid := 0, n := 21, gh := [] }
def LP_L_heldIntS (ρ : Type) (k : Nat) : Nat → Ev ρ → Ev ρ := fun id f => cond (Nat.beq id 0) (loopOrc L_heldIntS_g0_keep L_heldIntS_g0_co (fun n nf => cond (Nat.beq n 21) (L_heldIntS_g0_dec nf) none) fun pv K => iter (fun v next => L_heldIntS_g0 k pv.1 v next (fun x => K (.exit 0) (L_heldIntS_g0_x0 pv.1 x)) (fun x => K .ret (L_heldIntS_g0_xret pv.1 x))) k pv.2) ((fun _ _ _ _ => none) id f)
theorem L_heldIntS_g0_round {ρ : Type} (k : Nat) (p : List Int) (v : Int × Int) (K K1 : Ex → St → Option ρ) : ev (E_L_heldIntS k) (LP_L_heldIntS ρ k) 0 b_L_heldIntS_0 (L_heldIntS_g0_tm (p, v)) (fun e st' => match e with
    | .normal => (normC L_heldIntS_g0_keep L_heldIntS_g0_co st').bind fun nf => K1 .normal (denorm L_heldIntS_g0_keep st'.n nf)
    | e => (normC (L_heldIntS_g0_kx e) (L_heldIntS_g0_cx e) st').bind fun nf => K e (denorm (L_heldIntS_g0_kx e) st'.n nf)) = L_heldIntS_g0 k p v (fun v' => K1 .normal (L_heldIntS_g0_tm (p, v'))) (fun x => K (.exit 0) (L_heldIntS_g0_x0 p x)) (fun x => K .ret (L_heldIntS_g0_xret p x)) := by kernel_rfl
theorem L_heldIntS_g0_ok {ρ : Type} (k : Nat) : Sound Try.prog (.loop b_L_heldIntS_0) (LP_L_heldIntS ρ k 0 fun st K => ev (E_L_heldIntS k) (LP_L_heldIntS ρ k) 0 b_L_heldIntS_0 st K) :=
  loop_ok (ev_sound (E_L_heldIntS_ok k) b_L_heldIntS_0 0 (lpgood_none (by kernel_rfl))) L_heldIntS_g0_kx L_heldIntS_g0_cx k (g := fun p v next K => L_heldIntS_g0 k p v next (fun x => K (.exit 0) (L_heldIntS_g0_x0 p x)) (fun x => K .ret (L_heldIntS_g0_xret p x))) (dec_at L_heldIntS_g0_hd) (fun p v K K1 => L_heldIntS_g0_round k p v K K1)
def L_heldIntS_args (a : List Int × Int) : List Arg := [.one (.sl (.int .i64) a.1), .one (.int .i64 a.2)]
def L_heldIntS_argD (l : List Arg) : Option (List Int × Int) := match l with
  | [.one (.sl (.int .i64) b0), .one (.int .i64 b1)] => some (b0, b1)
  | _ => none
def L_heldIntS_enc (r : Int) : Out := (.r [] (.int .i64 r), [])
def L_heldIntS_dec (o : Out) : Option (Int) := match o with
  | (.r [] (.int .i64 z1), []) => some z1
  | _ => none
def L_heldIntS_G (k : Nat) : PG := fun _ l K => (L_heldIntS_argD l).bind fun a => (L_heldIntS k a.1 a.2).bind fun r => K (L_heldIntS_enc r)
theorem L_heldIntS_ev (k : Nat) (a : List Int × Int) : ev (E_L_heldIntS k) (LP_L_heldIntS (Int) k) 0 c_L_heldIntS (st0 Try.f57 (L_heldIntS_args a)) (fin Try.prog Try.f57 (.sc) L_heldIntS_dec) = L_heldIntS k a.1 a.2 := by kernel_rfl
theorem L_heldIntS_ok (k : Nat) : PureOk Try.prog 57 (L_heldIntS_G k) :=
  pureOk_of_ev (E_L_heldIntS_ok k) Try.func57 (by kernel_rfl) (by kernel_rfl) L_heldIntS_args L_heldIntS_argD
    (fun l a h => by unfold L_heldIntS_argD at h; split at h <;> first | (cases h; rfl) | cases h) (fun a => rfl) (lpgood_of (l := [(0, b_L_heldIntS_0)]) (by kernel_rfl) ⟨L_heldIntS_g0_ok k, trivial⟩)
    (fun o r h => by unfold L_heldIntS_dec at h; split at h <;> first | (cases h; rfl) | cases h) (L_heldIntS_ev k)
def o_L_heldIntS (k : Nat) : Orc := pureOrc [.one (.sl (.int .i64)), .one (.int .i64)] (L_heldIntS_G k)
theorem o_L_heldIntS_ok (k : Nat) : OrcOk Try.prog 57 (o_L_heldIntS k) := pureOrc_ok (L_heldIntS_ok k)
/-! ### 114 loop.example/g00778/laws.heldTaskS -/
noncomputable def E_L_heldTaskS (k : Nat) : Env := { P := Try.prog, tt := tt, orc := fun g => cond (Nat.beq g 57) (o_L_heldIntS k) (noOrc) }
theorem E_L_heldTaskS_ok (k : Nat) : EnvOk (E_L_heldTaskS k) := fun g => (orc_cond (o_L_heldIntS_ok k) (noOrc_ok _ _))
noncomputable def c_L_heldTaskS : Code := (Try.f114.body).getD .skip
noncomputable def b_L_heldTaskS_0 : Code := ((loopsIn 0 c_L_heldTaskS).getD 0 (0, .skip)).2
def L_heldTaskS_g0_keep : List Nat := [0, 1, 5]
def L_heldTaskS_g0_co : List (Where × Co) := []
def L_heldTaskS_g0_kx : Ex → List Nat
  | .exit j => cond (Nat.beq j 0) [1] []
  | .ret => [4]
  | .normal => []
def L_heldTaskS_g0_cx : Ex → List (Where × Co)
  | .exit j => cond (Nat.beq j 0) [] []
  | .ret => []
  | .normal => []
def L_heldTaskS_g0_tm (pv : (List Task) × (Int × Int)) : St := { slots := [(0, .r [] (.sl (.st .task) pv.1)), (1, .r [] (.int .i64 pv.2.1)), (5, .r [] (.int .i64 pv.2.2))], heap := [], nid := 0, n := 58, gh := [] }
def L_heldTaskS_g0_dec (nf : NF) : Option ((List Task) × (Int × Int)) := match nf with
  | ([.r [] (.sl (.st .task) w0), .r [] (.int .i64 w1), .r [] (.int .i64 w2)], [], []) => some (w0, (w1, w2))
  | _ => none
theorem L_heldTaskS_g0_hd (nf : NF) (v : (List Task) × (Int × Int)) (h : L_heldTaskS_g0_dec nf = some v) : denorm L_heldTaskS_g0_keep 58 nf = L_heldTaskS_g0_tm v := by
  unfold L_heldTaskS_g0_dec at h
  split at h
  · cases h; rfl
  · cases h
def L_heldTaskS_g0_x0 (p : List Task) (x : Int) : St := { slots := [(1, .r [] (.int .i64 x))], heap := [], nid := 0, n := 58, gh := [] }
def L_heldTaskS_g0_xret (p : List Task) (x : Int) : St := { slots := [(4, .r [] (.int .i64 x))], heap := [], nid := 0, n := 58, gh := [] }
def LP_L_heldTaskS (ρ : Type) (k : Nat) : Nat → Ev ρ → Ev ρ := fun id f => cond (Nat.beq id 0) (loopOrc L_heldTaskS_g0_keep L_heldTaskS_g0_co (fun n nf => cond (Nat.beq n 58) (L_heldTaskS_g0_dec nf) none) fun pv K => iter (fun v next => L_heldTaskS_g0 k pv.1 v next (fun x => K (.exit 0) (L_heldTaskS_g0_x0 pv.1 x)) (fun x => K .ret (L_heldTaskS_g0_xret pv.1 x))) k pv.2) ((fun _ _ _ _ => none) id f)
theorem L_heldTaskS_g0_round {ρ : Type} (k : Nat) (p : List Task) (v : Int × Int) (K K1 : Ex → St → Option ρ) : ev (E_L_heldTaskS k) (LP_L_heldTaskS ρ k) 0 b_L_heldTaskS_0 (L_heldTaskS_g0_tm (p, v)) (fun e st' => match e with
    | .normal => (normC L_heldTaskS_g0_keep L_heldTaskS_g0_co st').bind fun nf => K1 .normal (denorm L_heldTaskS_g0_keep st'.n nf)
    | e => (normC (L_heldTaskS_g0_kx e) (L_heldTaskS_g0_cx e) st').bind fun nf => K e (denorm (L_heldTaskS_g0_kx e) st'.n nf)) = L_heldTaskS_g0 k p v (fun v' => K1 .normal (L_heldTaskS_g0_tm (p, v'))) (fun x => K (.exit 0) (L_heldTaskS_g0_x0 p x)) (fun x => K .ret (L_heldTaskS_g0_xret p x)) := by kernel_rfl
theorem L_heldTaskS_g0_ok {ρ : Type} (k : Nat) : Sound Try.prog (.loop b_L_heldTaskS_0) (LP_L_heldTaskS ρ k 0 fun st K => ev (E_L_heldTaskS k) (LP_L_heldTaskS ρ k) 0 b_L_heldTaskS_0 st K) :=
  loop_ok (ev_sound (E_L_heldTaskS_ok k) b_L_heldTaskS_0 0 (lpgood_none (by kernel_rfl))) L_heldTaskS_g0_kx L_heldTaskS_g0_cx k (g := fun p v next K => L_heldTaskS_g0 k p v next (fun x => K (.exit 0) (L_heldTaskS_g0_x0 p x)) (fun x => K .ret (L_heldTaskS_g0_xret p x))) (dec_at L_heldTaskS_g0_hd) (fun p v K K1 => L_heldTaskS_g0_round k p v K K1)
def L_heldTaskS_args (a : List Task × Int) : List Arg := [.one (.sl (.st .task) a.1), .one (.int .i64 a.2)]
def L_heldTaskS_argD (l : List Arg) : Option (List Task × Int) := match l with
  | [.one (.sl (.st .task) b0), .one (.int .i64 b1)] => some (b0, b1)
  | _ => none
def L_heldTaskS_enc (r : Int) : Out := (.r [] (.int .i64 r), [])
def L_heldTaskS_dec (o : Out) : Option (Int) := match o with
  | (.r [] (.int .i64 z1), []) => some z1
  | _ => none
def L_heldTaskS_G (k : Nat) : PG := fun _ l K => (L_heldTaskS_argD l).bind fun a => (L_heldTaskS k a.1 a.2).bind fun r => K (L_heldTaskS_enc r)
theorem L_heldTaskS_ev (k : Nat) (a : List Task × Int) : ev (E_L_heldTaskS k) (LP_L_heldTaskS (Int) k) 0 c_L_heldTaskS (st0 Try.f114 (L_heldTaskS_args a)) (fin Try.prog Try.f114 (.sc) L_heldTaskS_dec) = L_heldTaskS k a.1 a.2 := by kernel_rfl
theorem L_heldTaskS_ok (k : Nat) : PureOk Try.prog 114 (L_heldTaskS_G k) :=
  pureOk_of_ev (E_L_heldTaskS_ok k) Try.func114 (by kernel_rfl) (by kernel_rfl) L_heldTaskS_args L_heldTaskS_argD
    (fun l a h => by unfold L_heldTaskS_argD at h; split at h <;> first | (cases h; rfl) | cases h) (fun a => rfl) (lpgood_of (l := [(0, b_L_heldTaskS_0)]) (by kernel_rfl) ⟨L_heldTaskS_g0_ok k, trivial⟩)
    (fun o r h => by unfold L_heldTaskS_dec at h; split at h <;> first | (cases h; rfl) | cases h) (L_heldTaskS_ev k)
def o_L_heldTaskS (k : Nat) : Orc := pureOrc [.one (.sl (.st .task)), .one (.int .i64)] (L_heldTaskS_G k)
theorem o_L_heldTaskS_ok (k : Nat) : OrcOk Try.prog 114 (o_L_heldTaskS k) := pureOrc_ok (L_heldTaskS_ok k)
/-! ### 46 loop.example/g00778/laws.heldSched -/
noncomputable def E_L_heldSched (k : Nat) : Env := { P := Try.prog, tt := tt, orc := fun g => cond (Nat.beq g 114) (o_L_heldTaskS k) (noOrc) }
theorem E_L_heldSched_ok (k : Nat) : EnvOk (E_L_heldSched k) := fun g => (orc_cond (o_L_heldTaskS_ok k) (noOrc_ok _ _))
noncomputable def c_L_heldSched : Code := (Try.f46.body).getD .skip
def LP_L_heldSched (ρ : Type) (k : Nat) : Nat → Ev ρ → Ev ρ := fun _ _ _ _ => none
def L_heldSched_args (a : Sched × Int) : List Arg := [.agg [.int .i64 a.1.now, .int .i64 a.1.slack, .int .i64 a.1.age, .sl (.st .task) a.1.tasks, .int .i64 a.1.run, .int .i64 a.1.left, .int .i64 a.1.turns, .int .i64 a.1.next], .one (.int .i64 a.2)]
def L_heldSched_argD (l : List Arg) : Option (Sched × Int) := match l with
  | [.agg [.int .i64 b0_0, .int .i64 b0_1, .int .i64 b0_2, .sl (.st .task) b0_3, .int .i64 b0_4, .int .i64 b0_5, .int .i64 b0_6, .int .i64 b0_7], .one (.int .i64 b1)] => some ((⟨b0_0, b0_1, b0_2, b0_3, b0_4, b0_5, b0_6, b0_7⟩ : Sched), b1)
  | _ => none
def L_heldSched_enc (r : Int) : Out := (.r [] (.int .i64 r), [])
def L_heldSched_dec (o : Out) : Option (Int) := match o with
  | (.r [] (.int .i64 z1), []) => some z1
  | _ => none
def L_heldSched_G (k : Nat) : PG := fun _ l K => (L_heldSched_argD l).bind fun a => (L_heldSched k a.1 a.2).bind fun r => K (L_heldSched_enc r)
theorem L_heldSched_ev (k : Nat) (a : Sched × Int) : ev (E_L_heldSched k) (LP_L_heldSched (Int) k) 0 c_L_heldSched (st0 Try.f46 (L_heldSched_args a)) (fin Try.prog Try.f46 (.sc) L_heldSched_dec) = L_heldSched k a.1 a.2 := by kernel_rfl
theorem L_heldSched_ok (k : Nat) : PureOk Try.prog 46 (L_heldSched_G k) :=
  pureOk_of_ev (E_L_heldSched_ok k) Try.func46 (by kernel_rfl) (by kernel_rfl) L_heldSched_args L_heldSched_argD
    (fun l a h => by unfold L_heldSched_argD at h; split at h <;> first | (cases h; rfl) | cases h) (fun a => rfl) (lpgood_none (by kernel_rfl))
    (fun o r h => by unfold L_heldSched_dec at h; split at h <;> first | (cases h; rfl) | cases h) (L_heldSched_ev k)
def o_L_heldSched (k : Nat) : Orc := pureOrc [.agg [(.int .i64), (.int .i64), (.int .i64), (.sl (.st .task)), (.int .i64), (.int .i64), (.int .i64), (.int .i64)], .one (.int .i64)] (L_heldSched_G k)
theorem o_L_heldSched_ok (k : Nat) : OrcOk Try.prog 46 (o_L_heldSched k) := pureOrc_ok (L_heldSched_ok k)
/-! ### 10 loop.example/g00778/laws.FnExactPlaySched -/
noncomputable def E_L_FnExactPlaySched (k : Nat) : Env := { P := Try.prog, tt := tt, orc := fun g => cond (Nat.beq g 42) (o_L_eqSched k) (cond (Nat.beq g 43) (o_L_eqIntS k) (cond (Nat.beq g 44) (o_L_markSched_m2 k) (cond (Nat.beq g 45) (o_L_markIntS_m3 k) (cond (Nat.beq g 46) (o_L_heldSched k) (cond (Nat.beq g 51) (o_L_szIntSS k) (cond (Nat.beq g 52) (o_S_PlaySched k) (cond (Nat.beq g 53) (o_L_toIntSS k) (cond (Nat.beq g 54) (o_I_PlaySched k) (cond (Nat.beq g 55) (o_L_eqIntSS k) (cond (Nat.beq g 56) (o_L_markIntSS_m2 k) (cond (Nat.beq g 57) (o_L_heldIntS k) (noOrc)))))))))))), wr := fun g => mem g [44, 45, 56], wt := true }
theorem E_L_FnExactPlaySched_ok (k : Nat) : EnvOk (E_L_FnExactPlaySched k) := fun g => (orc_cond (o_L_eqSched_ok k) (orc_cond (o_L_eqIntS_ok k) (orc_cond (o_L_markSched_m2_ok k) (orc_cond (o_L_markIntS_m3_ok k) (orc_cond (o_L_heldSched_ok k) (orc_cond (o_L_szIntSS_ok k) (orc_cond (o_S_PlaySched_ok k) (orc_cond (o_L_toIntSS_ok k) (orc_cond (o_I_PlaySched_ok k) (orc_cond (o_L_eqIntSS_ok k) (orc_cond (o_L_markIntSS_m2_ok k) (orc_cond (o_L_heldIntS_ok k) (noOrc_ok _ _)))))))))))))
noncomputable def c_L_FnExactPlaySched : Code := (Try.f10.body).getD .skip
def LP_L_FnExactPlaySched (ρ : Type) (k : Nat) : Nat → Ev ρ → Ev ρ := fun _ _ _ _ => none
def L_FnExactPlaySched_args (a : Int × Int × List (List Int)) : List Arg := [.one (.int .i64 a.1), .one (.int .i64 a.2.1), .one (.sl (.sl (.int .i64)) a.2.2)]
def L_FnExactPlaySched_argD (l : List Arg) : Option (Int × Int × List (List Int)) := match l with
  | [.one (.int .i64 b0), .one (.int .i64 b1), .one (.sl (.sl (.int .i64)) b2)] => some (b0, b1, b2)
  | _ => none
def L_FnExactPlaySched_enc (r : Bool) : Out := (.r [] (.bool r), [])
def L_FnExactPlaySched_dec (o : Out) : Option (Bool) := match o with
  | (.r [] (.bool z1), []) => some z1
  | _ => none
def L_FnExactPlaySched_G (k : Nat) : PG := fun _ l K => (L_FnExactPlaySched_argD l).bind fun a => (L_FnExactPlaySched k a.1 a.2.1 a.2.2).bind fun r => K (L_FnExactPlaySched_enc r)
theorem L_FnExactPlaySched_ev (k : Nat) (a : Int × Int × List (List Int)) : ev (E_L_FnExactPlaySched k) (LP_L_FnExactPlaySched (Bool) k) 0 c_L_FnExactPlaySched (st0 Try.f10 (L_FnExactPlaySched_args a)) (fin Try.prog Try.f10 (.sc) L_FnExactPlaySched_dec) = L_FnExactPlaySched k a.1 a.2.1 a.2.2 := by kernel_rfl
theorem L_FnExactPlaySched_ok (k : Nat) : PureOk Try.prog 10 (L_FnExactPlaySched_G k) :=
  pureOk_of_ev (E_L_FnExactPlaySched_ok k) Try.func10 (by kernel_rfl) (by kernel_rfl) L_FnExactPlaySched_args L_FnExactPlaySched_argD
    (fun l a h => by unfold L_FnExactPlaySched_argD at h; split at h <;> first | (cases h; rfl) | cases h) (fun a => rfl) (lpgood_none (by kernel_rfl))
    (fun o r h => by unfold L_FnExactPlaySched_dec at h; split at h <;> first | (cases h; rfl) | cases h) (L_FnExactPlaySched_ev k)
def o_L_FnExactPlaySched (k : Nat) : Orc := pureOrc [.one (.int .i64), .one (.int .i64), .one (.sl (.sl (.int .i64)))] (L_FnExactPlaySched_G k)
theorem o_L_FnExactPlaySched_ok (k : Nat) : OrcOk Try.prog 10 (o_L_FnExactPlaySched k) := pureOrc_ok (L_FnExactPlaySched_ok k)
end
end Go.Proofs.Ev
