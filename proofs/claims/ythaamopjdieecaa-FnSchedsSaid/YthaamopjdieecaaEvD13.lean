/- Text of this claim. -/
import Derived.Test.YthaamopjdieecaaEvK6
import Derived.Test.YthaamopjdieecaaEvD1
import Derived.Test.YthaamopjdieecaaEvD11
import Derived.Test.YthaamopjdieecaaEvD3
import Derived.Test.YthaamopjdieecaaEvD6
import Derived.Test.YthaamopjdieecaaEvD7
import Derived.Test.YthaamopjdieecaaEvD8
set_option linter.unusedVariables false
set_option linter.unusedSimpArgs false
set_option linter.unusedVariables false
set_option linter.unusedSimpArgs false
set_option maxRecDepth 100000
set_option maxHeartbeats 4000000
namespace Go.Proofs.Ev
noncomputable section
def S_DrawPlaySched (k : Nat) (a0 : List Int) : Option (Int × Int × List (List Int)) :=
  (S_l01New_m k a0).bind fun r1 => (S_l01Size k a0 (80 : Int)).bind fun r2 => (S_l01Below_m k a0 r1.1 r1.2 r2).bind fun r3 => (S_l01Once_m k a0 r3.2.1 r3.2.2 (40 : Int)).bind fun r4 => cond (r4.1) ((S_l01Below_m k a0 r4.2.1 r4.2.2 (2 : Int)).bind fun r5 => (S_l01PickInt_m k a0 r5.2.1 r5.2.2 [(0 : Int), (2 : Int), (5 : Int), (-1 : Int)]).bind fun r6 => (S_l01PickInt_m k a0 r6.2.1 r6.2.2 [(0 : Int), (1 : Int), (3 : Int)]).bind fun r7 => (S_l07DrawOps_m k a0 r7.2.1 r7.2.2 (IntKind.i64.wrap ((300 : Int) + r5.1))).bind fun r8 => some (r6.1, r7.1, r8.1)) ((S_l01PickInt_m k a0 r4.2.1 r4.2.2 [(0 : Int), (2 : Int), (5 : Int), (-1 : Int)]).bind fun r9 => (S_l01PickInt_m k a0 r9.2.1 r9.2.2 [(0 : Int), (1 : Int), (3 : Int)]).bind fun r10 => (S_l07DrawOps_m k a0 r10.2.1 r10.2.2 r3.1).bind fun r11 => some (r9.1, r10.1, r11.1))
def L_same_g0 {ρ : Type} (k : Nat) (p : List Int × List Int) (v : Int) (next : Int → Option ρ) (x0 : Unit → Option ρ) (xret : Bool → Option ρ) : Option ρ :=
  cond (decide (v < (p.1.length : Int))) ((idx p.1 v).bind fun e1 => (idx p.2 v).bind fun e2 => cond (e1 != e2) (xret false) (next (IntKind.i64.wrap (v + (1 : Int))))) (x0 ())
def L_same (k : Nat) (a0 : List Int) (a1 : List Int) : Option (Bool) :=
  cond ((a0.length : Int) != (a1.length : Int)) (some false) (iter (fun u5 n5 => L_same_g0 k (a0, a1) u5 n5 (fun y3 => some true) (fun y4 => some y4)) k (0 : Int))
def L_FnScheds (k : Nat) (a0 : List Int) : Option (Bool) :=
  (L_big k a0).bind fun r1 => cond (r1) (some true) ((S_DrawPlaySched k a0).bind fun r2 => (S_PlaySched k r2.1 r2.2.1 r2.2.2).bind fun r3 => (I_PlaySched k r2.1 r2.2.1 r2.2.2).bind fun r4 => (L_same k r4.2 r3.2).bind fun r5 => cond (!r5) (some false) (cond ((r3.2.length : Int) == (0 : Int)) (some true) ((I_SchedOk k r4.1).bind fun r6 => cond (!r6) (some false) ((S_SchedOk k r4.1).bind fun r7 => cond (!r7) (some false) ((I_WorkLeft k r4.1).bind fun r8 => (I_TickSched k r4.1 false).bind fun r9 => (I_WorkLeft k r9.1).bind fun r10 => cond (decide (r4.1.now < (1000000 : Int))) (cond (decide (r8 > (0 : Int))) (cond (r10 != (IntKind.i64.wrap (r8 - (1 : Int)))) (some false) (cond (r8 == (0 : Int)) (cond (r10 != (0 : Int)) (some false) (cond (r9.2.1 != (0 : Int)) (some false) (cond (r9.2.2) (some false) ((I_TickSched k r4.1 true).bind fun r11 => cond (r11.2.1 == (0 : Int)) ((I_WorkLeft k r11.1).bind fun r12 => some (r12 == r8)) (some false))))) ((I_TickSched k r4.1 true).bind fun r13 => cond (r13.2.1 == (0 : Int)) ((I_WorkLeft k r13.1).bind fun r14 => some (r14 == r8)) (some false)))) (cond (r8 == (0 : Int)) (cond (r10 != (0 : Int)) (some false) (cond (r9.2.1 != (0 : Int)) (some false) (cond (r9.2.2) (some false) ((I_TickSched k r4.1 true).bind fun r15 => cond (r15.2.1 == (0 : Int)) ((I_WorkLeft k r15.1).bind fun r16 => some (r16 == r8)) (some false))))) ((I_TickSched k r4.1 true).bind fun r17 => cond (r17.2.1 == (0 : Int)) ((I_WorkLeft k r17.1).bind fun r18 => some (r18 == r8)) (some false)))) ((I_TickSched k r4.1 true).bind fun r19 => cond (r19.2.1 == (0 : Int)) ((I_WorkLeft k r19.1).bind fun r20 => some (r20 == r8)) (some false)))))))
end
end Go.Proofs.Ev
