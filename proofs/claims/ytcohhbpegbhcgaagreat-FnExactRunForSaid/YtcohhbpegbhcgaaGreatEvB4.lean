/- What laws do with their arguments: sizes, copies, comparisons, marks. -/
import Derived.Test.YtcohhbpegbhcgaaGreatEvP1
import Derived.Test.YtcohhbpegbhcgaaGreatEvB1
import Derived.Test.YtcohhbpegbhcgaaGreatEvB2
import Derived.Test.YtcohhbpegbhcgaaGreatEvB3
import Derived.Test.YtcohhbpegbhcgaaGreatEvD9
import Derived.Test.YtcohhbpegbhcgaaGreatEvP9
set_option linter.unusedVariables false
set_option linter.unusedSimpArgs false
set_option linter.unusedVariables false
set_option linter.unusedSimpArgs false
namespace Go.Proofs.Ev
theorem L_szJob_z {k : Nat} {x : Job} {n : Int} (hx : x.Ok) (hk : x.tot < k) (h1 : 0 ≤ n) (h2 : n ≤ 1048576) : Sz (L_szJob k x n) n x.tot := by
  unfold Job.tot at hk
  exact sz_seq h1 (L_szModel_z hx.1 (by omega) h1 h2) fun c0 => sz_seq (by omega) (L_szTensor_z hx.2.2.1 (by omega) (by omega) (by omega)) fun c1 => sz_end (by omega)
theorem L_toJob_z {k : Nat} {x : Job} (hk : x.tot < k) (hN : x.tot ≤ maxN) : L_toJob k x = some x := by
  unfold Job.tot at hk hN
  have e0 := L_toModel_z (k := k) (x := x.model) (by omega) (by omega)
  have e1 := L_toTensor_z (k := k) (x := x.act) (by omega) (by omega)
  unfold L_toJob
  simp only [e0, e1, bind_some']
end Go.Proofs.Ev
