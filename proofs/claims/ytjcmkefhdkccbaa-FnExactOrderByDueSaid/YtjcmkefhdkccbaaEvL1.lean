/- Typed functions and what holds of them: part 1. -/
import Derived.Test.YtjcmkefhdkccbaaEvK6
import Derived.Test.YtjcmkefhdkccbaaEvK7
set_option linter.unusedVariables false
set_option linter.unusedSimpArgs false
set_option linter.unusedVariables false
set_option linter.unusedSimpArgs false
set_option maxRecDepth 100000
namespace Go.Proofs.Ev
noncomputable section
def Jc {ρ:Type} (k:Nat) (p:List Int) (v:Int× List Int) (next:(Int× List Int)→Option ρ) (x0:(List Int)→Option ρ):Option ρ:=
  cond (decide (v.1<(p.length:Int))) ((idx p v.1).bind fun e1=>cond (decide (0≤v.1∧v.1<(v.2.length:Int))) (next (IntKind.i64.wrap (v.1+(1:Int)),v.2.set v.1.toNat e1)) none) (x0 v.2)
def KQ (k:Nat) (a0:List Int):Option (List Int):=
  cond (decide (0≤(a0.length:Int)∧(a0.length:Int)≤(a0.length:Int)∧(a0.length:Int)≤(Ns:Int))) (iter (fun u3 n3=>Jc k a0 u3 n3 (fun y2=>some y2)) k ((0:Int),List.replicate ((a0.length:Int).toNat) (0:Int))) none
def KR {ρ:Type} (k:Nat) (p:List Int× List Int) (v:Int) (next:Int→Option ρ) (x0:Unit→Option ρ) (xret:Bool→Option ρ):Option ρ:=
  cond (decide (v<(p.1.length:Int))) ((idx p.1 v).bind fun e1=>(idx p.2 v).bind fun e2=>cond (e1 !=e2) (xret false) (next (IntKind.i64.wrap (v+(1:Int))))) (x0 ())
def LM (k:Nat) (a0:List Int) (a1:List Int):Option (Bool):=
  cond ((a0.length:Int) !=(a1.length:Int)) (some false) (iter (fun u5 n5=>KR k (a0,a1) u5 n5 (fun y3=>some true) (fun y4=>some y4)) k (0:Int))
def HB {ρ:Type} (k:Nat) (p:Unit) (v:Int× Int× List Int) (next:(Int× Int× List Int)→Option ρ) (x0:(Int× List Int)→Option ρ):Option ρ:=
  cond (decide (v.2.1<(v.2.2.length:Int))) (cond (decide (0≤v.2.1∧v.2.1<(v.2.2.length:Int))) (next (IntKind.i64.wrap (v.1+(1:Int)),IntKind.i64.wrap (v.2.1+(1:Int)),v.2.2.set v.2.1.toNat v.1)) none) (x0 (v.1,v.2.2))
def IV (k:Nat) (a0:List Int) (a1:Int):Option (Int× List Int):=
  iter (fun u2 n2=>HB k () u2 n2 (fun y1=>some (y1.1,y1.2))) k (a1,(0:Int),a0)
def H8 {ρ:Type} (k:Nat) (p:List Int) (v:Int× Int) (next:(Int× Int)→Option ρ) (x0:Int→Option ρ) (xret:Int→Option ρ):Option ρ:=
  cond (decide (v.2<(p.length:Int))) ((idx p v.2).bind fun e1=>cond (e1 !=v.1) (xret (-1:Int)) (next (IntKind.i64.wrap (v.1+(1:Int)),IntKind.i64.wrap (v.2+(1:Int))))) (x0 v.1)
def Kt (k:Nat) (a0:List Int) (a1:Int):Option (Int):=
  iter (fun u4 n4=>H8 k a0 u4 n4 (fun y2=>some y2) (fun y3=>some y3)) k (a1,(0:Int))
end
end Go.Proofs.Ev
set_option linter.unusedVariables false
set_option linter.unusedSimpArgs false
set_option maxRecDepth 100000
namespace Go.Proofs.Ev
noncomputable section
end
end Go.Proofs.Ev
set_option linter.unusedVariables false
set_option linter.unusedSimpArgs false
set_option maxRecDepth 100000
namespace Go.Proofs.Ev
noncomputable section
end
end Go.Proofs.Ev
set_option linter.unusedVariables false
set_option linter.unusedSimpArgs false
set_option maxRecDepth 100000
namespace Go.Proofs.Ev
noncomputable section
end
end Go.Proofs.Ev
set_option linter.unusedVariables false
set_option linter.unusedSimpArgs false
set_option maxRecDepth 100000
namespace Go.Proofs.Ev
noncomputable section
def Ju (k:Nat) (a0:Int):Option (Bool):=
  some (a0 !=a0)
def JM (k:Nat) (a0:Int) (a1:Int):Option (Int):=
  (Ju k a0).bind fun r1=>(Ju k a1).bind fun r2=>cond (r1) (cond (r2) (some (0:Int)) (some (-1:Int))) (cond (r2) (some (1:Int)) (cond (decide (a0<a1)) (some (-1:Int)) (cond (decide (a0>a1)) (some (1:Int)) (some (0:Int)))))
end
end Go.Proofs.Ev
set_option linter.unusedVariables false
set_option linter.unusedSimpArgs false
set_option maxRecDepth 100000
set_option maxHeartbeats 4000000
namespace Go.Proofs.Ev
noncomputable section
def Iq {ρ:Type} (k:Nat) (p:List Int× Int× List Int) (v:Bool× Int× List Int) (next:(Bool× Int× List Int)→Option ρ) (x2:(Bool× List Int)→Option ρ):Option ρ:=
  cond (decide (v.2.1<(p.2.2.length:Int))) (cond (!v.1) ((idx p.1 p.2.1).bind fun e1=>cond (decide (0≤v.2.1∧v.2.1<(p.2.2.length:Int))) ((p.2.2[v.2.1.toNat]?).bind fun e2=>(idx p.1 e2).bind fun e3=>cond (decide (e1<e3)) (cond (Nat.ble (v.2.2.length+[p.2.1].length) Ns) (cond (decide (0≤v.2.1∧v.2.1<(p.2.2.length:Int))) ((p.2.2[v.2.1.toNat]?).bind fun e4=>cond (Nat.ble ((v.2.2++[p.2.1]).length+[e4].length) Ns) (next (true,IntKind.i64.wrap (v.2.1+(1:Int)),(v.2.2++[p.2.1])++[e4])) none) none) none) (cond (decide (0≤v.2.1∧v.2.1<(p.2.2.length:Int))) ((p.2.2[v.2.1.toNat]?).bind fun e5=>cond (Nat.ble (v.2.2.length+[e5].length) Ns) (next (v.1,IntKind.i64.wrap (v.2.1+(1:Int)),v.2.2++[e5])) none) none)) none) (cond (decide (0≤v.2.1∧v.2.1<(p.2.2.length:Int))) ((p.2.2[v.2.1.toNat]?).bind fun e6=>cond (Nat.ble (v.2.2.length+[e6].length) Ns) (next (v.1,IntKind.i64.wrap (v.2.1+(1:Int)),v.2.2++[e6])) none) none)) (x2 (v.1,v.2.2))
def IW {ρ:Type} (k:Nat) (p:List Int) (v:Int× List Int) (next:(Int× List Int)→Option ρ) (x0:(List Int)→Option ρ):Option ρ:=
  cond (decide (v.1<(p.length:Int))) (iter (fun u8 n8=>Iq k (p,v.1,v.2) u8 n8 (fun y7=>cond (!y7.1) (cond (Nat.ble (y7.2.length+[v.1].length) Ns) (next (IntKind.i64.wrap (v.1+(1:Int)),y7.2++[v.1])) none) (next (IntKind.i64.wrap (v.1+(1:Int)),y7.2)))) k (false,(0:Int),([]:List Int))) (x0 v.2)
def LN (k:Nat) (a0:List Int):Option (List Int):=
  iter (fun u10 n10=>IW k a0 u10 n10 (fun y9=>some y9)) k ((0:Int),([]:List Int))
def J3 (k:Nat) (a0:List Int):Option (List Int):=
  (LN k a0).bind fun r1=>some r1
def IX (k:Nat) (a0:Int):Option (Int):=
  some a0
def HJ (k:Nat) (a0:Int) (a1:Int) (a3_0:List Int):Option (Int):=
  (idx a3_0 a0).bind fun e1=>(IX k e1).bind fun r2=>(idx a3_0 a1).bind fun e3=>(IX k e3).bind fun r4=>(JM k r2 r4).bind fun r5=>cond (decide (a3_0=a3_0)) (some r5) none
def GU {ρ:Type} (k:Nat) (p:Int× Int× Int× List Int) (v:Int× List Int) (next:(Int× List Int)→Option ρ) (x2:(List Int)→Option ρ):Option ρ:=
  cond (decide (v.1>p.1)) (cond (decide (0≤v.1∧v.1<(v.2.length:Int))) ((v.2[v.1.toNat]?).bind fun e1=>cond (decide (0≤(IntKind.i64.wrap (v.1-(1:Int)))∧(IntKind.i64.wrap (v.1-(1:Int)))<(v.2.length:Int))) ((v.2[(IntKind.i64.wrap (v.1-(1:Int))).toNat]?).bind fun e2=>(HJ k e1 e2 p.2.2.2).bind fun r3=>cond (decide (r3<(0:Int))) (cond (decide (0≤(IntKind.i64.wrap (v.1-(1:Int)))∧(IntKind.i64.wrap (v.1-(1:Int)))<(v.2.length:Int))) ((v.2[(IntKind.i64.wrap (v.1-(1:Int))).toNat]?).bind fun e4=>cond (decide (0≤v.1∧v.1<(v.2.length:Int))) ((v.2[v.1.toNat]?).bind fun e5=>cond (decide (0≤v.1∧v.1<(v.2.length:Int))) (cond (decide (0≤(IntKind.i64.wrap (v.1-(1:Int)))∧(IntKind.i64.wrap (v.1-(1:Int)))<(v.2.length:Int))) (next (IntKind.i64.wrap (v.1-(1:Int)),(v.2.set v.1.toNat e4).set ((IntKind.i64.wrap (v.1-(1:Int))).toNat) e5)) none) none) none) none) (x2 v.2)) none) none) (x2 v.2)
def GH {ρ:Type} (k:Nat) (p:Int× Int× List Int) (v:Int× List Int) (next:(Int× List Int)→Option ρ) (x0:(List Int)→Option ρ):Option ρ:=
  cond (decide (v.1<p.2.1)) (iter (fun u7 n7=>GU k (p.1,p.2.1,v.1,p.2.2) u7 n7 (fun y6=>next (IntKind.i64.wrap (v.1+(1:Int)),y6))) k (v.1,v.2)) (x0 v.2)
def G9 (k:Nat) (a0:List Int) (a1:Int) (a2:Int) (a3c1_0:List Int):Option (List Int):=
  iter (fun u9 n9=>GH k (a1,a2,a3c1_0) u9 n9 (fun y8=>cond (decide (a3c1_0=a3c1_0)) (some y8) none)) k (IntKind.i64.wrap (a1+(1:Int)),a0)
def GX {ρ:Type} (k:Nat) (p:Int× Int× Int× List Int) (v:Int× List Int) (next:(Int× List Int)→Option ρ) (x0:(List Int)→Option ρ):Option ρ:=
  cond (decide (v.1<p.2.2.1)) (cond (decide (0≤(IntKind.i64.wrap (p.2.1+v.1))∧(IntKind.i64.wrap (p.2.1+v.1))<(v.2.length:Int))) ((v.2[(IntKind.i64.wrap (p.2.1+v.1)).toNat]?).bind fun e1=>cond (decide (0≤(IntKind.i64.wrap (p.1+v.1))∧(IntKind.i64.wrap (p.1+v.1))<(v.2.length:Int))) ((v.2[(IntKind.i64.wrap (p.1+v.1)).toNat]?).bind fun e2=>cond (decide (0≤(IntKind.i64.wrap (p.1+v.1))∧(IntKind.i64.wrap (p.1+v.1))<(v.2.length:Int))) (cond (decide (0≤(IntKind.i64.wrap (p.2.1+v.1))∧(IntKind.i64.wrap (p.2.1+v.1))<(v.2.length:Int))) (next (IntKind.i64.wrap (v.1+(1:Int)),(v.2.set ((IntKind.i64.wrap (p.1+v.1)).toNat) e1).set ((IntKind.i64.wrap (p.2.1+v.1)).toNat) e2)) none) none) none) none) (x0 v.2)
def G3 (k:Nat) (a0:List Int) (a1:Int) (a2:Int) (a3:Int) (a4c1_0:List Int):Option (List Int):=
  iter (fun u4 n4=>GX k (a1,a2,a3,a4c1_0) u4 n4 (fun y3=>cond (decide (a4c1_0=a4c1_0)) (some y3) none)) k ((0:Int),a0)
def GN {ρ:Type} (k:Nat) (p:Int× List Int) (v:Int× Int× List Int) (next:(Int× Int× List Int)→Option ρ) (x0:(Int× List Int)→Option ρ):Option ρ:=
  cond (v.1 !=v.2.1) (cond (decide (v.1>v.2.1)) ((G3 k v.2.2 (IntKind.i64.wrap (p.1-v.1)) p.1 v.2.1 p.2).bind fun r1=>next (IntKind.i64.wrap (v.1-v.2.1),v.2.1,r1)) ((G3 k v.2.2 (IntKind.i64.wrap (p.1-v.1)) (IntKind.i64.wrap ((IntKind.i64.wrap (p.1+v.2.1))-v.1)) v.1 p.2).bind fun r2=>next (v.1,IntKind.i64.wrap (v.2.1-v.1),r2))) (x0 (v.1,v.2.2))
def Hi (k:Nat) (a0:List Int) (a1:Int) (a2:Int) (a3:Int) (a4c1_0:List Int):Option (List Int):=
  iter (fun u5 n5=>GN k (a2,a4c1_0) u5 n5 (fun y3=>(G3 k y3.2 (IntKind.i64.wrap (a2-y3.1)) a2 y3.1 a4c1_0).bind fun r4=>cond (decide (a4c1_0=a4c1_0)) (some r4) none)) k (IntKind.i64.wrap (a2-a1),IntKind.i64.wrap (a3-a2),a0)
def GO {ρ:Type} (k:Nat) (p:Int× List Int× List Int) (v:Int× Int) (next:(Int× Int)→Option ρ) (x0:Int→Option ρ):Option ρ:=
  cond (decide (v.1<v.2)) (cond (decide (0≤(IntKind.i64.wrap ((IntKind.u64.wrap (IntKind.i64.wrap (v.1+v.2))).fdiv (2^(min (1:Int).toNat IntKind.u64.bits))))∧(IntKind.i64.wrap ((IntKind.u64.wrap (IntKind.i64.wrap (v.1+v.2))).fdiv (2^(min (1:Int).toNat IntKind.u64.bits))))<(p.2.1.length:Int))) ((p.2.1[(IntKind.i64.wrap ((IntKind.u64.wrap (IntKind.i64.wrap (v.1+v.2))).fdiv (2^(min (1:Int).toNat IntKind.u64.bits)))).toNat]?).bind fun e1=>cond (decide (0≤p.1∧p.1<(p.2.1.length:Int))) ((p.2.1[p.1.toNat]?).bind fun e2=>(HJ k e1 e2 p.2.2).bind fun r3=>cond (decide (r3<(0:Int))) (next (IntKind.i64.wrap ((IntKind.i64.wrap ((IntKind.u64.wrap (IntKind.i64.wrap (v.1+v.2))).fdiv (2^(min (1:Int).toNat IntKind.u64.bits))))+(1:Int)),v.2)) (next (v.1,IntKind.i64.wrap ((IntKind.u64.wrap (IntKind.i64.wrap (v.1+v.2))).fdiv (2^(min (1:Int).toNat IntKind.u64.bits)))))) none) none) (x0 v.1)
def GI {ρ:Type} (k:Nat) (p:Int× List Int) (v:Int× List Int) (next:(Int× List Int)→Option ρ) (x2:(List Int)→Option ρ):Option ρ:=
  cond (decide (v.1<(IntKind.i64.wrap (p.1-(1:Int))))) (cond (decide (0≤(IntKind.i64.wrap (v.1+(1:Int)))∧(IntKind.i64.wrap (v.1+(1:Int)))<(v.2.length:Int))) ((v.2[(IntKind.i64.wrap (v.1+(1:Int))).toNat]?).bind fun e6=>cond (decide (0≤v.1∧v.1<(v.2.length:Int))) ((v.2[v.1.toNat]?).bind fun e7=>cond (decide (0≤v.1∧v.1<(v.2.length:Int))) (cond (decide (0≤(IntKind.i64.wrap (v.1+(1:Int)))∧(IntKind.i64.wrap (v.1+(1:Int)))<(v.2.length:Int))) (next (IntKind.i64.wrap (v.1+(1:Int)),(v.2.set v.1.toNat e6).set ((IntKind.i64.wrap (v.1+(1:Int))).toNat) e7)) none) none) none) none) (x2 v.2)
def GP {ρ:Type} (k:Nat) (p:Int× List Int× List Int) (v:Int× Int) (next:(Int× Int)→Option ρ) (x4:Int→Option ρ):Option ρ:=
  cond (decide (v.1<v.2)) (cond (decide (0≤p.1∧p.1<(p.2.1.length:Int))) ((p.2.1[p.1.toNat]?).bind fun e11=>cond (decide (0≤(IntKind.i64.wrap ((IntKind.u64.wrap (IntKind.i64.wrap (v.1+v.2))).fdiv (2^(min (1:Int).toNat IntKind.u64.bits))))∧(IntKind.i64.wrap ((IntKind.u64.wrap (IntKind.i64.wrap (v.1+v.2))).fdiv (2^(min (1:Int).toNat IntKind.u64.bits))))<(p.2.1.length:Int))) ((p.2.1[(IntKind.i64.wrap ((IntKind.u64.wrap (IntKind.i64.wrap (v.1+v.2))).fdiv (2^(min (1:Int).toNat IntKind.u64.bits)))).toNat]?).bind fun e12=>(HJ k e11 e12 p.2.2).bind fun r13=>cond (!(decide (r13<(0:Int)))) (next (IntKind.i64.wrap ((IntKind.i64.wrap ((IntKind.u64.wrap (IntKind.i64.wrap (v.1+v.2))).fdiv (2^(min (1:Int).toNat IntKind.u64.bits))))+(1:Int)),v.2)) (next (v.1,IntKind.i64.wrap ((IntKind.u64.wrap (IntKind.i64.wrap (v.1+v.2))).fdiv (2^(min (1:Int).toNat IntKind.u64.bits)))))) none) none) (x4 v.1)
def GJ {ρ:Type} (k:Nat) (p:Int× List Int) (v:Int× List Int) (next:(Int× List Int)→Option ρ) (x6:(List Int)→Option ρ):Option ρ:=
  cond (decide (v.1>p.1)) (cond (decide (0≤(IntKind.i64.wrap (v.1-(1:Int)))∧(IntKind.i64.wrap (v.1-(1:Int)))<(v.2.length:Int))) ((v.2[(IntKind.i64.wrap (v.1-(1:Int))).toNat]?).bind fun e16=>cond (decide (0≤v.1∧v.1<(v.2.length:Int))) ((v.2[v.1.toNat]?).bind fun e17=>cond (decide (0≤v.1∧v.1<(v.2.length:Int))) (cond (decide (0≤(IntKind.i64.wrap (v.1-(1:Int)))∧(IntKind.i64.wrap (v.1-(1:Int)))<(v.2.length:Int))) (next (IntKind.i64.wrap (v.1-(1:Int)),(v.2.set v.1.toNat e16).set ((IntKind.i64.wrap (v.1-(1:Int))).toNat) e17)) none) none) none) none) (x6 v.2)
def GQ {ρ:Type} (k:Nat) (p:Int× Int× Int× Int× Int× Int× List Int× List Int) (v:Int× Int) (next:(Int× Int)→Option ρ) (x8:Int→Option ρ):Option ρ:=
  cond (decide (v.1<v.2)) (cond (decide (0≤(IntKind.i64.wrap (p.2.2.2.2.2.1-(IntKind.i64.wrap ((IntKind.u64.wrap (IntKind.i64.wrap (v.1+v.2))).fdiv (2^(min (1:Int).toNat IntKind.u64.bits))))))∧(IntKind.i64.wrap (p.2.2.2.2.2.1-(IntKind.i64.wrap ((IntKind.u64.wrap (IntKind.i64.wrap (v.1+v.2))).fdiv (2^(min (1:Int).toNat IntKind.u64.bits))))))<(p.2.2.2.2.2.2.1.length:Int))) ((p.2.2.2.2.2.2.1[(IntKind.i64.wrap (p.2.2.2.2.2.1-(IntKind.i64.wrap ((IntKind.u64.wrap (IntKind.i64.wrap (v.1+v.2))).fdiv (2^(min (1:Int).toNat IntKind.u64.bits)))))).toNat]?).bind fun e22=>cond (decide (0≤(IntKind.i64.wrap ((IntKind.u64.wrap (IntKind.i64.wrap (v.1+v.2))).fdiv (2^(min (1:Int).toNat IntKind.u64.bits))))∧(IntKind.i64.wrap ((IntKind.u64.wrap (IntKind.i64.wrap (v.1+v.2))).fdiv (2^(min (1:Int).toNat IntKind.u64.bits))))<(p.2.2.2.2.2.2.1.length:Int))) ((p.2.2.2.2.2.2.1[(IntKind.i64.wrap ((IntKind.u64.wrap (IntKind.i64.wrap (v.1+v.2))).fdiv (2^(min (1:Int).toNat IntKind.u64.bits)))).toNat]?).bind fun e23=>(HJ k e22 e23 p.2.2.2.2.2.2.2).bind fun r24=>cond (!(decide (r24<(0:Int)))) (next (IntKind.i64.wrap ((IntKind.i64.wrap ((IntKind.u64.wrap (IntKind.i64.wrap (v.1+v.2))).fdiv (2^(min (1:Int).toNat IntKind.u64.bits))))+(1:Int)),v.2)) (next (v.1,IntKind.i64.wrap ((IntKind.u64.wrap (IntKind.i64.wrap (v.1+v.2))).fdiv (2^(min (1:Int).toNat IntKind.u64.bits)))))) none) none) (x8 v.1)
def Hw (k:Nat) (self:(List Int)→Int→Int→Int→(List Int)→Option (List Int)) (a0:List Int) (a1:Int) (a2:Int) (a3:Int) (a4c1_0:List Int):Option (List Int):=
  cond ((IntKind.i64.wrap (a2-a1))==(1:Int)) (iter (fun u10 n10=>GO k (a1,a0,a4c1_0) u10 n10 (fun y5=>iter (fun u9 n9=>GI k (y5,a4c1_0) u9 n9 (fun y8=>cond (decide (a4c1_0=a4c1_0)) (some y8) none)) k (a1,a0))) k (a2,a3)) (cond ((IntKind.i64.wrap (a3-a2))==(1:Int)) (iter (fun u20 n20=>GP k (a2,a0,a4c1_0) u20 n20 (fun y15=>iter (fun u19 n19=>GJ k (y15,a4c1_0) u19 n19 (fun y18=>cond (decide (a4c1_0=a4c1_0)) (some y18) none)) k (a2,a0))) k (a1,a2)) (bej (fun(j21:Int→Int→Option _)=>cond (decide (a2>(IntKind.i64.wrap ((IntKind.u64.wrap (IntKind.i64.wrap (a1+a3))).fdiv (2^(min (1:Int).toNat IntKind.u64.bits)))))) ((j21 (IntKind.i64.wrap ((IntKind.i64.wrap ((IntKind.i64.wrap ((IntKind.u64.wrap (IntKind.i64.wrap (a1+a3))).fdiv (2^(min (1:Int).toNat IntKind.u64.bits))))+a2))-a3)) (IntKind.i64.wrap ((IntKind.u64.wrap (IntKind.i64.wrap (a1+a3))).fdiv (2^(min (1:Int).toNat IntKind.u64.bits)))))) ((j21 a1 a2))) (fun(j21_5:Int) (j21_6:Int)=>iter (fun u41 n41=>GQ k (a1,a2,a3,IntKind.i64.wrap ((IntKind.u64.wrap (IntKind.i64.wrap (a1+a3))).fdiv (2^(min (1:Int).toNat IntKind.u64.bits))),IntKind.i64.wrap ((IntKind.i64.wrap ((IntKind.u64.wrap (IntKind.i64.wrap (a1+a3))).fdiv (2^(min (1:Int).toNat IntKind.u64.bits))))+a2),IntKind.i64.wrap ((IntKind.i64.wrap ((IntKind.i64.wrap ((IntKind.u64.wrap (IntKind.i64.wrap (a1+a3))).fdiv (2^(min (1:Int).toNat IntKind.u64.bits))))+a2))-(1:Int)),a0,a4c1_0) u41 n41 (fun y26=>cond (decide (y26<a2)) (bej (fun(j28:(List Int)→Option _)=>cond (decide (a2<(IntKind.i64.wrap ((IntKind.i64.wrap ((IntKind.i64.wrap ((IntKind.u64.wrap (IntKind.i64.wrap (a1+a3))).fdiv (2^(min (1:Int).toNat IntKind.u64.bits))))+a2))-y26)))) ((Hi k a0 y26 a2 (IntKind.i64.wrap ((IntKind.i64.wrap ((IntKind.i64.wrap ((IntKind.u64.wrap (IntKind.i64.wrap (a1+a3))).fdiv (2^(min (1:Int).toNat IntKind.u64.bits))))+a2))-y26)) a4c1_0).bind fun r27=>(j28 r27)) ((j28 a0))) (fun(j28_5:List Int)=>cond (decide (a1<y26)) (bej (fun(j30:(List Int)→Option _)=>cond (decide (y26<(IntKind.i64.wrap ((IntKind.u64.wrap (IntKind.i64.wrap (a1+a3))).fdiv (2^(min (1:Int).toNat IntKind.u64.bits)))))) ((self j28_5 a1 y26 (IntKind.i64.wrap ((IntKind.u64.wrap (IntKind.i64.wrap (a1+a3))).fdiv (2^(min (1:Int).toNat IntKind.u64.bits)))) a4c1_0).bind fun r29=>(j30 r29)) ((j30 j28_5))) (fun(j30_3:List Int)=>cond (decide ((IntKind.i64.wrap ((IntKind.u64.wrap (IntKind.i64.wrap (a1+a3))).fdiv (2^(min (1:Int).toNat IntKind.u64.bits))))<(IntKind.i64.wrap ((IntKind.i64.wrap ((IntKind.i64.wrap ((IntKind.u64.wrap (IntKind.i64.wrap (a1+a3))).fdiv (2^(min (1:Int).toNat IntKind.u64.bits))))+a2))-y26)))) (cond (decide ((IntKind.i64.wrap ((IntKind.i64.wrap ((IntKind.i64.wrap ((IntKind.u64.wrap (IntKind.i64.wrap (a1+a3))).fdiv (2^(min (1:Int).toNat IntKind.u64.bits))))+a2))-y26))<a3)) ((self j30_3 (IntKind.i64.wrap ((IntKind.u64.wrap (IntKind.i64.wrap (a1+a3))).fdiv (2^(min (1:Int).toNat IntKind.u64.bits)))) (IntKind.i64.wrap ((IntKind.i64.wrap ((IntKind.i64.wrap ((IntKind.u64.wrap (IntKind.i64.wrap (a1+a3))).fdiv (2^(min (1:Int).toNat IntKind.u64.bits))))+a2))-y26)) a3 a4c1_0).bind fun r31=>cond (decide (a4c1_0=a4c1_0)) (some r31) none) (cond (decide (a4c1_0=a4c1_0)) (some j30_3) none)) (cond (decide (a4c1_0=a4c1_0)) (some j30_3) none))) (cond (decide ((IntKind.i64.wrap ((IntKind.u64.wrap (IntKind.i64.wrap (a1+a3))).fdiv (2^(min (1:Int).toNat IntKind.u64.bits))))<(IntKind.i64.wrap ((IntKind.i64.wrap ((IntKind.i64.wrap ((IntKind.u64.wrap (IntKind.i64.wrap (a1+a3))).fdiv (2^(min (1:Int).toNat IntKind.u64.bits))))+a2))-y26)))) (cond (decide ((IntKind.i64.wrap ((IntKind.i64.wrap ((IntKind.i64.wrap ((IntKind.u64.wrap (IntKind.i64.wrap (a1+a3))).fdiv (2^(min (1:Int).toNat IntKind.u64.bits))))+a2))-y26))<a3)) ((self j28_5 (IntKind.i64.wrap ((IntKind.u64.wrap (IntKind.i64.wrap (a1+a3))).fdiv (2^(min (1:Int).toNat IntKind.u64.bits)))) (IntKind.i64.wrap ((IntKind.i64.wrap ((IntKind.i64.wrap ((IntKind.u64.wrap (IntKind.i64.wrap (a1+a3))).fdiv (2^(min (1:Int).toNat IntKind.u64.bits))))+a2))-y26)) a3 a4c1_0).bind fun r33=>cond (decide (a4c1_0=a4c1_0)) (some r33) none) (cond (decide (a4c1_0=a4c1_0)) (some j28_5) none)) (cond (decide (a4c1_0=a4c1_0)) (some j28_5) none)))) (cond (decide (a1<y26)) (bej (fun(j36:(List Int)→Option _)=>cond (decide (y26<(IntKind.i64.wrap ((IntKind.u64.wrap (IntKind.i64.wrap (a1+a3))).fdiv (2^(min (1:Int).toNat IntKind.u64.bits)))))) ((self a0 a1 y26 (IntKind.i64.wrap ((IntKind.u64.wrap (IntKind.i64.wrap (a1+a3))).fdiv (2^(min (1:Int).toNat IntKind.u64.bits)))) a4c1_0).bind fun r35=>(j36 r35)) ((j36 a0))) (fun(j36_3:List Int)=>cond (decide ((IntKind.i64.wrap ((IntKind.u64.wrap (IntKind.i64.wrap (a1+a3))).fdiv (2^(min (1:Int).toNat IntKind.u64.bits))))<(IntKind.i64.wrap ((IntKind.i64.wrap ((IntKind.i64.wrap ((IntKind.u64.wrap (IntKind.i64.wrap (a1+a3))).fdiv (2^(min (1:Int).toNat IntKind.u64.bits))))+a2))-y26)))) (cond (decide ((IntKind.i64.wrap ((IntKind.i64.wrap ((IntKind.i64.wrap ((IntKind.u64.wrap (IntKind.i64.wrap (a1+a3))).fdiv (2^(min (1:Int).toNat IntKind.u64.bits))))+a2))-y26))<a3)) ((self j36_3 (IntKind.i64.wrap ((IntKind.u64.wrap (IntKind.i64.wrap (a1+a3))).fdiv (2^(min (1:Int).toNat IntKind.u64.bits)))) (IntKind.i64.wrap ((IntKind.i64.wrap ((IntKind.i64.wrap ((IntKind.u64.wrap (IntKind.i64.wrap (a1+a3))).fdiv (2^(min (1:Int).toNat IntKind.u64.bits))))+a2))-y26)) a3 a4c1_0).bind fun r37=>cond (decide (a4c1_0=a4c1_0)) (some r37) none) (cond (decide (a4c1_0=a4c1_0)) (some j36_3) none)) (cond (decide (a4c1_0=a4c1_0)) (some j36_3) none))) (cond (decide ((IntKind.i64.wrap ((IntKind.u64.wrap (IntKind.i64.wrap (a1+a3))).fdiv (2^(min (1:Int).toNat IntKind.u64.bits))))<(IntKind.i64.wrap ((IntKind.i64.wrap ((IntKind.i64.wrap ((IntKind.u64.wrap (IntKind.i64.wrap (a1+a3))).fdiv (2^(min (1:Int).toNat IntKind.u64.bits))))+a2))-y26)))) (cond (decide ((IntKind.i64.wrap ((IntKind.i64.wrap ((IntKind.i64.wrap ((IntKind.u64.wrap (IntKind.i64.wrap (a1+a3))).fdiv (2^(min (1:Int).toNat IntKind.u64.bits))))+a2))-y26))<a3)) ((self a0 (IntKind.i64.wrap ((IntKind.u64.wrap (IntKind.i64.wrap (a1+a3))).fdiv (2^(min (1:Int).toNat IntKind.u64.bits)))) (IntKind.i64.wrap ((IntKind.i64.wrap ((IntKind.i64.wrap ((IntKind.u64.wrap (IntKind.i64.wrap (a1+a3))).fdiv (2^(min (1:Int).toNat IntKind.u64.bits))))+a2))-y26)) a3 a4c1_0).bind fun r39=>cond (decide (a4c1_0=a4c1_0)) (some r39) none) (cond (decide (a4c1_0=a4c1_0)) (some a0) none)) (cond (decide (a4c1_0=a4c1_0)) (some a0) none))))) k (j21_5,j21_6))))
def G6:Nat→(List Int)→Int→Int→Int→(List Int)→Option (List Int)
  |0=>fun _ _ _ _ _=>none
  |k+1=>Hw k (G6 k)
def G7 {ρ:Type} (k:Nat) (p:Int× Int× List Int) (v:Int× Int× List Int) (next:(Int× Int× List Int)→Option ρ) (x0:(Int× List Int)→Option ρ):Option ρ:=
  cond (decide (v.2.1≤p.1)) ((G9 k v.2.2 v.1 v.2.1 p.2.2).bind fun r1=>next (v.2.1,IntKind.i64.wrap (v.2.1+p.2.1),r1)) (x0 (v.1,v.2.2))
def G8 {ρ:Type} (k:Nat) (p:Int× Int× List Int) (v:Int× Int× List Int) (next:(Int× Int× List Int)→Option ρ) (x4:(Int× List Int)→Option ρ):Option ρ:=
  cond (decide (v.2.1≤p.1)) ((G6 k v.2.2 v.1 (IntKind.i64.wrap (v.1+p.2.1)) v.2.1 p.2.2).bind fun r4=>next (v.2.1,IntKind.i64.wrap (v.2.1+(IntKind.i64.wrap ((2:Int)*p.2.1))),r4)) (x4 (v.1,v.2.2))
def Hc {ρ:Type} (k:Nat) (p:Int× List Int) (v:Int× List Int) (next:(Int× List Int)→Option ρ) (x2:(List Int)→Option ρ):Option ρ:=
  cond (decide (v.1<p.1)) (iter (fun u7 n7=>G8 k (p.1,v.1,p.2) u7 n7 (fun y5=>cond (decide ((IntKind.i64.wrap (y5.1+v.1))<p.1)) ((G6 k y5.2 y5.1 (IntKind.i64.wrap (y5.1+v.1)) p.1 p.2).bind fun r6=>next (IntKind.i64.wrap (v.1*(2:Int)),r6)) (next (IntKind.i64.wrap (v.1*(2:Int)),y5.2)))) k ((0:Int),IntKind.i64.wrap ((2:Int)*v.1),v.2)) (x2 v.2)
def Hr (k:Nat) (a0:List Int) (a1:Int) (a2c1_0:List Int):Option (List Int):=
  iter (fun u10 n10=>G7 k (a1,(20:Int),a2c1_0) u10 n10 (fun y2=>(G9 k y2.2 y2.1 a1 a2c1_0).bind fun r3=>iter (fun u9 n9=>Hc k (a1,a2c1_0) u9 n9 (fun y8=>cond (decide (a2c1_0=a2c1_0)) (some y8) none)) k ((20:Int),r3))) k ((0:Int),(20:Int),a0)
def Hs (k:Nat) (a0:List Int) (a1c1_0:List Int):Option (List Int):=
  (Hr k a0 (a0.length:Int) a1c1_0).bind fun r1=>cond (decide (a1c1_0=a1c1_0)) (some r1) none
def Hd {ρ:Type} (k:Nat) (p:Int× List Int) (v:Int× List Int) (next:(Int× List Int)→Option ρ) (x0:(List Int)→Option ρ):Option ρ:=
  cond (decide (v.1<p.1)) (cond (Nat.ble (v.2.length+[v.1].length) Ns) (next (IntKind.i64.wrap (v.1+(1:Int)),v.2++[v.1])) none) (x0 v.2)
def Hj (k:Nat) (a0:List Int):Option (List Int):=
  iter (fun u3 n3=>Hd k ((a0.length:Int),a0) u3 n3 (fun y1=>(Hs k y1 a0).bind fun r2=>some r2)) k ((0:Int),([]:List Int))
def IC (k:Nat) (a0:List Int):Option (List Int):=
  (Hj k a0).bind fun r1=>some r1
def HK (k:Nat) (a0:List Int):Option (Bool):=
  cond (decide ((a0.length:Int)>(1048576:Int))) (some true) ((KQ k a0).bind fun r1=>(J3 k r1).bind fun r2=>(KQ k a0).bind fun r3=>(IC k r3).bind fun r4=>(LM k r4 r2).bind fun r5=>cond (!r5) (some false) ((KQ k a0).bind fun r6=>(LM k r3 r6).bind fun r7=>cond (!r7) (some false) ((IV k r3 (1:Int)).bind fun r8=>cond (decide (r8.1<(0:Int))) (some false) ((LM k r4 r2).bind fun r9=>cond (!r9) (some false) ((IV k r4 (1:Int)).bind fun r10=>(Kt k r10.2 (1:Int)).bind fun r11=>cond (decide (r11<(0:Int))) (some false) (cond (r11 !=r10.1) (some false) ((KQ k a0).bind fun r12=>(IC k r12).bind fun r13=>(LM k r13 r2).bind fun r14=>cond (!r14) (some false) ((Kt k r10.2 (1:Int)).bind fun r15=>cond (decide (r15<(0:Int))) (some false) (cond (r15 !=r10.1) (some false) (some true))))))))))
end
end Go.Proofs.Ev
set_option linter.unusedVariables false
set_option linter.unusedSimpArgs false
set_option maxRecDepth 100000
namespace Go.Proofs.Ev
noncomputable section
end
end Go.Proofs.Ev
set_option linter.unusedVariables false
set_option linter.unusedSimpArgs false
set_option maxRecDepth 100000
namespace Go.Proofs.Ev
noncomputable section
end
end Go.Proofs.Ev
set_option linter.unusedVariables false
set_option linter.unusedSimpArgs false
set_option maxRecDepth 100000
namespace Go.Proofs.Ev
noncomputable section
end
end Go.Proofs.Ev
set_option linter.unusedVariables false
set_option linter.unusedSimpArgs false
set_option maxRecDepth 100000
set_option maxHeartbeats 4000000
namespace Go.Proofs.Ev
noncomputable section
end
end Go.Proofs.Ev
set_option linter.unusedVariables false
set_option linter.unusedSimpArgs false
set_option maxRecDepth 100000
namespace Go.Proofs.Ev
noncomputable section
end
end Go.Proofs.Ev
set_option linter.unusedVariables false
set_option linter.unusedSimpArgs false
set_option maxRecDepth 100000
set_option maxHeartbeats 4000000
namespace Go.Proofs.Ev
noncomputable section
end
end Go.Proofs.Ev
set_option linter.unusedVariables false
set_option linter.unusedSimpArgs false
set_option maxRecDepth 100000
set_option maxHeartbeats 4000000
namespace Go.Proofs.Ev
noncomputable section
end
end Go.Proofs.Ev
set_option linter.unusedVariables false
set_option linter.unusedSimpArgs false
set_option maxRecDepth 100000
set_option maxHeartbeats 4000000
namespace Go.Proofs.Ev
noncomputable section
end
end Go.Proofs.Ev
set_option linter.unusedVariables false
set_option linter.unusedSimpArgs false
set_option maxRecDepth 100000
set_option maxHeartbeats 4000000
namespace Go.Proofs.Ev
noncomputable section
end
end Go.Proofs.Ev
set_option linter.unusedVariables false
namespace Go.Proofs.Ev
theorem Th {k:Nat} {xs:List Int} (hk:xs.length<k) (hx:xs.length≤Ns):KQ k xs=some xs:=by
  rw[Nq]at hx
  unfold KQ
  rw[Jg,if_pos (by rw[Nq];omega)]
  exact WM xs 0 (fin:=some) (fun i ys hi next hl=>by
    simp only[Jc,Jg]
    rw[if_pos (by omega),OJ,J2 hi,Option.bind_some,if_pos (by omega),NT hi (by omega)]
    simp) (fun ys next=>by simp only[Jc,Jg];rw[if_neg (by omega)]) hk
theorem YS (a b:Nat):((a:Int) !=(b:Int))=decide (a≠b):=by
  rw[YQ];congr 1;rw[eq_iff_iff];omega
theorem WQ {R:Type} {xs ys:List Int} {i:Nat} (hi:i<xs.length) (hi':i<ys.length) (hx:xs.length≤ZB) (next:Int→Option R) (no yes:Option R):
    (cond (decide ((i:Int)<(xs.length:Int))) ((idx xs i).bind fun e1=>(idx ys i).bind fun e2=>cond (e1 !=e2) no (next (IntKind.i64.wrap ((i:Int)+(1:Int))))) yes)=if xs[i]=ys[i]then next ((i+1:Nat):Int)else no:=by
  unfold ZB at hx
  rw[Jg,if_pos (by omega),OJ,OJ,J2 hi,J2 hi',Option.bind_some,Option.bind_some,NT hi (by omega)]
  rw[T9]
theorem YT {R:Type} {xs:List Int} (a:Option R) (yes:Option R):(cond (decide ((xs.length:Int)<(xs.length:Int))) a yes)=yes:=by
  rw[Jg,if_neg (by omega)]
theorem YU {xs ys:List Int} {r:Option Bool} (h:xs.length=ys.length→r=if xs=ys then some true else some false):(cond ((xs.length:Int) !=(ys.length:Int)) (some false) r)=some (decide (xs=ys)):=by
  rw[YS,Jg]
  by_cases c:xs.length=ys.length
  · rw[if_neg (by simp[c]),h c];split<;>simp[*]
  · rw[if_pos c,decide_eq_false (fun e=>c (by rw[e]))]
theorem ON {k:Nat} {xs ys:List Int} (hk:xs.length<k) (hx:xs.length≤ZB):LM k xs ys=some (decide (xs=ys)):=
  YU fun c=>WN xs ys c (fun i hi hi' next=>WQ hi hi' hx next _ _) (fun next=>YT _ _) hk
end Go.Proofs.Ev
set_option linter.unusedVariables false
set_option linter.unusedSimpArgs false
namespace Go.Proofs.Ev
def marked (m:Int) (n:Nat):List Int:=(List.range n).map fun(i:Nat)=>m+(i:Int)
@[simp] theorem Jv (m:Int) (n:Nat):(marked m n).length=n:=by simp[marked]
theorem U3 {m:Int} {n i:Nat} (h:i<n):(marked m n)[i]? =some (m+i):=by
  simp[marked,h]
theorem Ti (m:Int) (i:Nat):marked m (i+1)=marked m i++[m+i]:=by simp[marked,List.range_succ]
theorem U4 {m:Int} {xs:List Int} {i:Nat} (h:i<xs.length):(marked m i++xs.drop i).set i (m+i)=marked m (i+1)++xs.drop (i+1):=by
  rw[List.set_append_right _ _ (by simp),Jv,Nat.sub_self,OK h,List.set_cons_zero,Ti,List.append_assoc];rfl
theorem MM {k:Nat} {xs:List Int} {m:Int} (hk:xs.length<k) (h1:0≤m) (h2:m+xs.length≤9223372036854775807):IV k xs m=some (m+xs.length,marked m xs.length):=by
  unfold IV
  have:=QM (g:=fun u next=>HB k () u next (fun y=>some (y.1,y.2))) (st:=fun i=>(m+(i:Int),(i:Int),marked m i++xs.drop i)) (n:=xs.length) (r:=some (m+xs.length,marked m xs.length)) (fun i hi next=>by
    have hl:(marked m i++xs.drop i).length=xs.length:=by simp;omega
    simp only[HB,Jg,hl]
    rw[if_pos (by omega),if_pos (by omega),NT hi (by omega),HN (by omega) (by omega),Int.toNat_natCast,U4 hi]
    congr 2;omega) (fun next=>by
    simp only[HB,Jg,List.drop_length,List.append_nil,Jv]
    rw[if_neg (by omega)]) hk
  simpa[marked]using this
theorem QN {k:Nat} {n:Nat} {m:Int} (hk:n<k) (h1:0≤m) (h2:m+n≤9223372036854775807):Kt k (marked m n) m=some (m+n):=by
  unfold Kt
  have:=QM (g:=fun u next=>H8 k (marked m n) u next (fun y=>some y) (fun y=>some y)) (st:=fun i=>(m+(i:Int),(i:Int))) (n:=n) (r:=some (m+n)) (fun i hi next=>by
    simp only[H8,Jg,Jv]
    rw[if_pos (by omega),OJ,U3 hi,GS,T9,if_pos rfl,NT hi (by omega),HN (by omega) (by omega)]
    congr 2;omega) (fun next=>by
    simp only[H8,Jg,Jv]
    rw[if_neg (by omega)]) hk
  simpa using this
def inB (x a b:Int):Bool:=decide (a≤x∧x≤b)
def Shape.okB (s:Shape):Bool:=inB s.h 1 8&&(inB s.w 1 8&&inB s.c 1 8)
def Shape.size (s:Shape):Int:=cond s.okB (s.h*s.w*s.c) 0
def X7 (xs:List Int):Bool:=xs.all fun x=>inB x (-128) 127
def Kf.okB (t:Kf):Bool:=t.sh.okB&&(decide ((t.data.length:Int)=t.sh.size)&&X7 t.data)
end Go.Proofs.Ev
set_option linter.unusedVariables false
set_option linter.unusedSimpArgs false
namespace Go.Proofs.Ev
end Go.Proofs.Ev
set_option linter.unusedVariables false
set_option linter.unusedSimpArgs false
namespace Go.Proofs.Ev
end Go.Proofs.Ev
set_option linter.unusedVariables false
set_option linter.unusedSimpArgs false
namespace Go.Proofs.Ev
def takes (x:Step):Int:=cond (inB x.kind 4 5&&inB x.a 0 200) x.a 0
end Go.Proofs.Ev
set_option linter.unusedVariables false
set_option linter.unusedSimpArgs false
namespace Go.Proofs.Ev
theorem XS {x a b:Int}:inB x a b=true↔a≤x∧x≤b:=by unfold inB;simp
theorem HO {α:Type} {xs:List α} {i:Nat} (h:i<xs.length) (d:α):xs.getD i d=xs[i]:=by rw[List.getD_eq_getElem?_getD,J2 h];rfl
end Go.Proofs.Ev
set_option linter.unusedVariables false
set_option linter.unusedSimpArgs false
namespace Go.Proofs.Ev
end Go.Proofs.Ev
set_option linter.unusedVariables false
set_option linter.unusedSimpArgs false
namespace Go.Proofs.Ev
end Go.Proofs.Ev
set_option linter.unusedVariables false
set_option linter.unusedSimpArgs false
namespace Go.Proofs.Ev
end Go.Proofs.Ev
set_option linter.unusedVariables false
set_option linter.unusedSimpArgs false
namespace Go.Proofs.Ev
def block (s:ZM) (d:Int):Int:=(s.tasks.findIdx? fun t=>t.id==s.run).elim 0 fun i=>(s.tasks[i]?).elim 0 fun t=>cond (decide (t.due>d)) s.left 0
end Go.Proofs.Ev
set_option linter.unusedVariables false
set_option linter.unusedSimpArgs false
namespace Go.Proofs.Ev
end Go.Proofs.Ev
set_option linter.unusedVariables false
set_option linter.unusedSimpArgs false
namespace Go.Proofs.Ev
end Go.Proofs.Ev
set_option linter.unusedVariables false
set_option linter.unusedSimpArgs false
namespace Go.Proofs.Ev
end Go.Proofs.Ev
set_option linter.unusedVariables false
set_option linter.unusedSimpArgs false
namespace Go.Proofs.Ev
def G4 {α:Type} (o:Option α) (Q:α→Prop):Prop:=∃r,o=some r∧Q r
theorem G4.bind {α β:Type} {o:Option α} {P:α→Prop} {f:α→Option β} {Q:β→Prop} (h:G4 o P) (hf:∀a,P a→G4 (f a) Q):G4 (o.bind f) Q:=by
  obtain⟨r,e,hp⟩:=h
  rw[e];exact hf r hp
theorem G4.some {α:Type} {a:α} {Q:α→Prop} (h:Q a):G4 (some a) Q:=⟨a,rfl,h⟩
theorem G4.cond {α:Type} {b:Bool} {x y:Option α} {Q:α→Prop} (h1:b=true→G4 x Q) (h2:b=false→G4 y Q):G4 (cond b x y) Q:=by
  cases b
  · exact h2 rfl
  · exact h1 rfl
theorem G4.mono {α:Type} {o:Option α} {P Q:α→Prop} (h:G4 o P) (hq:∀a,P a→Q a):G4 o Q:=by
  obtain⟨r,e,hp⟩:=h
  exact⟨r,e,hq r hp⟩
theorem G4.iter {V R:Type} {g:V→(V→Option R)→Option R} {Inv:V→Prop} {m:V→Nat} {Q:R→Prop}
    (h:∀(v:V) (next:V→Option R),Inv v→(∀u,Inv u→m u<m v→G4 (next u) Q)→G4 (g v next) Q):∀(k:Nat) (v:V),Inv v→m v<k→G4 (iter g k v) Q
  |0,v,_,hk=>by omega
  | k + 1, v, hv, hk => by
    rw[HT]
    exact h v _ hv fun u hu hm=>G4.iter h k u hu (by omega)
end Go.Proofs.Ev
set_option linter.unusedVariables false
set_option linter.unusedSimpArgs false
namespace Go.Proofs.Ev
theorem G4.must {α:Type} {p:Prop} {i:Decidable p} {x y:Option α} {Q:α→Prop} (h:p) (hx:G4 x Q):G4 (bif (@decide p i)then x else y) Q:=by
  rw[decide_eq_true h];exact hx
theorem G4.ble {α:Type} {a b:Nat} {x y:Option α} {Q:α→Prop} (h:a≤b) (hx:G4 x Q):G4 (bif (Nat.ble a b)then x else y) Q:=by
  rw[Nat.ble_eq_true_of_le h];exact hx
end Go.Proofs.Ev
set_option linter.unusedVariables false
set_option linter.unusedSimpArgs false
namespace Go.Proofs.Ev
end Go.Proofs.Ev
set_option linter.unusedVariables false
set_option linter.unusedSimpArgs false
namespace Go.Proofs.Ev
end Go.Proofs.Ev
set_option linter.unusedVariables false
set_option linter.unusedSimpArgs false
namespace Go.Proofs.Ev
end Go.Proofs.Ev
set_option linter.unusedVariables false
set_option linter.unusedSimpArgs false
namespace Go.Proofs.Ev
end Go.Proofs.Ev
set_option linter.unusedVariables false
set_option linter.unusedSimpArgs false
namespace Go.Proofs.Ev
structure U5 (H W C:Nat) (xs:List Int):Prop where
  h1:1≤H
  h8:H≤8
  w1:1≤W
  w8:W≤8
  c1:1≤C
  c8:C≤8
  len:xs.length=H*W*C
  mem:∀x∈xs,-128≤x∧x≤127
def Z8 (H W C:Nat) (xs:List Int):Kf:=⟨⟨H,W,C⟩,xs⟩
theorem U5.sh {H W C:Nat} {xs:List Int} (r:U5 H W C xs):(⟨H,W,C⟩:Shape).okB=true:=by
  obtain⟨a,b,c,d,e,f,_,_⟩:=r
  simp only[Shape.okB,inB,Bool.and_eq_true,decide_eq_true_eq];omega
theorem U5.size {H W C:Nat} {xs:List Int} (r:U5 H W C xs):(⟨H,W,C⟩:Shape).size=((H*W*C:Nat):Int):=by
  unfold Shape.size
  rw[r.sh,cond_true,Int.natCast_mul,Int.natCast_mul]
theorem U5.ok {H W C:Nat} {xs:List Int} (r:U5 H W C xs):(Z8 H W C xs).okB=true:=by
  unfold Kf.okB Z8
  simp only[r.sh,r.size,r.len,decide_true,Bool.true_and]
  unfold X7
  rw[List.all_eq_true]
  intro x hx
  have:=r.mem x hx
  rw[XS];omega
end Go.Proofs.Ev
set_option linter.unusedVariables false
set_option linter.unusedSimpArgs false
namespace Go.Proofs.Ev
end Go.Proofs.Ev
set_option linter.unusedVariables false
set_option linter.unusedSimpArgs false
namespace Go.Proofs.Ev
end Go.Proofs.Ev
set_option linter.unusedVariables false
set_option linter.unusedSimpArgs false
namespace Go.Proofs.Ev
end Go.Proofs.Ev
set_option linter.unusedVariables false
set_option linter.unusedSimpArgs false
namespace Go.Proofs.Ev
end Go.Proofs.Ev
set_option linter.unusedVariables false
set_option linter.unusedSimpArgs false
namespace Go.Proofs.Ev
end Go.Proofs.Ev
set_option linter.unusedVariables false
set_option linter.unusedSimpArgs false
namespace Go.Proofs.Ev
end Go.Proofs.Ev
set_option linter.unusedVariables false
set_option linter.unusedSimpArgs false
set_option maxRecDepth 100000
namespace Go.Proofs.Ev
theorem G4.bej {A R:Type} {B:A→Option R} {K:A} {Q:R→Prop} (h:G4 (B K) Q):G4 (bej B K) Q:=h
theorem G4.of {α β:Type} {a:α} {f:α→Option β} {Q:β→Prop} (h:G4 (f a) Q):G4 ((Option.some a).bind f) Q:=h
section
variable {b:List Int} {k:Nat}
end
end Go.Proofs.Ev
set_option linter.unusedVariables false
set_option linter.unusedSimpArgs false
set_option maxRecDepth 100000
namespace Go.Proofs.Ev
section
variable {b:List Int} {k:Nat}
end
end Go.Proofs.Ev
set_option linter.unusedVariables false
set_option linter.unusedSimpArgs false
set_option maxRecDepth 100000
namespace Go.Proofs.Ev
section
variable {b:List Int} {k:Nat}
end
end Go.Proofs.Ev
set_option linter.unusedVariables false
set_option linter.unusedSimpArgs false
set_option maxRecDepth 100000
namespace Go.Proofs.Ev
end Go.Proofs.Ev
set_option linter.unusedVariables false
set_option linter.unusedSimpArgs false
set_option maxRecDepth 100000
namespace Go.Proofs.Ev
section
variable {α:Type}
theorem Lv {A:List α} {x:α} {B:List α} {n:Nat} (h:n=A.length):(A++x::B)[n]? =some x:=by subst h;simp
theorem Lw {A:List α} {x y:α} {B:List α} {n:Nat} (h:n=A.length):(A++x::B).set n y=A++y::B:=by subst h;simp
def Srt (R:α→α→Prop) (l:List α):Prop:=l.Pairwise R
theorem Iy {R:α→α→Prop} {U V:List α}:Srt R (U++V)↔Srt R U∧Srt R V∧∀x∈U,∀y∈V,R x y:=List.pairwise_append
theorem MN (l:List α) (n:Nat) (h:n≤l.length):∃A B,l=A++B∧A.length=n:=⟨l.take n,l.drop n,(List.take_append_drop n l).symm,by rw[List.length_take];omega⟩
theorem RW (l:List α) (n:Nat) (h:n<l.length):∃A x B,l=A++x::B∧A.length=n:=⟨l.take n,l[n],l.drop (n+1),by rw[←List.drop_eq_getElem_cons h,List.take_append_drop],by rw[List.length_take];omega⟩
def Lt (key pos:α→Int) (x y:α):Prop:=key x<key y∨(key x=key y∧pos x<pos y)
theorem Lt.trans {key pos:α→Int} {x y z:α} (h:Lt key pos x y) (g:Lt key pos y z):Lt key pos x z:=by unfold Lt at*;omega
theorem Lt.le {key pos:α→Int} {x y:α} (h:Lt key pos x y):key x≤key y:=by unfold Lt at h;omega
def YV (key pos:α→Int) (U V:List α):Prop:=∀x∈U,∀y∈V,key x=key y→pos x<pos y
theorem YV.lt {key pos:α→Int} {U V:List α} (h:YV key pos U V) {x y:α} (hx:x∈U) (hy:y∈V) (hk:key x≤key y):Lt key pos x y:=by
  unfold Lt
  by_cases c:key x=key y
  · exact .inr ⟨c,h x hx y hy c⟩
  · exact .inl (by omega)
theorem RX {key pos:α→Int} {x y:α} (h:key x<key y):Lt key pos x y:=.inl h
theorem ZC {key pos:α→Int}:∀{l m:List α},Srt (Lt key pos) l→Srt (Lt key pos) m→l.Perm m→l=m:=fun{l m} h1 h2 hp=>by
  refine hp.eq_of_pairwise (le:=Lt key pos) (fun a b _ _ h g=>?_) h1 h2
  have:=h.trans g
  unfold Lt at this;omega
end
theorem QO {x:Int} (h0:0≤x) (h1:x≤4000000000000000000):IntKind.i64.wrap ((IntKind.u64.wrap (IntKind.i64.wrap x)).fdiv (2^(min (1:Int).toNat IntKind.u64.bits)))=x/2:=by
  have e:(2:Int)^(min (1:Int).toNat IntKind.u64.bits)=2:=by decide
  have u:IntKind.u64.wrap x=x:=Go.IntWalk.u64_in x ⟨by omega,by omega⟩
  rw[HN (n:=x) (by omega) (by omega),u,e,Int.fdiv_eq_ediv_of_nonneg x (by omega)]
  exact HN (by omega) (by omega)
end Go.Proofs.Ev
set_option linter.unusedVariables false
set_option linter.unusedSimpArgs false
set_option maxRecDepth 100000
namespace Go.Proofs.Ev
theorem RY {k:Nat} {ds Q:List Int} {a b n:Nat} {R:Type} {fin:List Int→Option R}:∀(U V P M:List Int) (i kf:Nat),U.length=V.length→U.length<kf→a+i=P.length→b+i=P.length+U.length+M.length→n=i+U.length→P.length+U.length+M.length+V.length+Q.length≤4000000000000→
    iter (fun u4 n4=>GX k ((a:Int),(b:Int),(n:Int),ds) u4 n4 fin) kf ((i:Int),P++(U++(M++(V++Q))))=fin (P++(V++(M++(U++Q))))
  |_,_,_,_,_,0,_,h,_,_,_,_=>by omega
  | [], V, P, M, i, kf + 1, hl, _, _, _, hn, _ => by
    have hV:V=[]:=List.length_eq_zero_iff.1 (by simpa using hl.symm)
    subst hV
    rw[HT]
    unfold GX
    simp only
    rw[decide_eq_false (by simp at hn;omega),cond_false]
  |u::U,[],P,M,i,kf+1,hl,_,_,_,_,_=>by simp at hl
  | u :: U, v :: V, P, M, i, kf + 1, hl, hk, ha, hb, hn, hN => by
    simp only[List.length_cons]at hl hk hb hn hN
    rw[HT]
    unfold GX
    simp only
    rw[decide_eq_true (show(i:Int)<(n:Int) by omega),cond_true,HN (n:=(b:Int)+(i:Int)) (by omega) (by omega),HN (n:=(a:Int)+(i:Int)) (by omega) (by omega),HN (n:=(i:Int)+1) (by omega) (by omega),
      show((b:Int)+(i:Int)).toNat=b+i from by omega,show((a:Int)+(i:Int)).toNat=a+i from by omega]
    have hlen:(P++(u::U++(M++(v::V++Q)))).length=P.length+(U.length+1)+M.length+(V.length+1)+Q.length:=by simp;omega
    rw[decide_eq_true (by omega),cond_true]
    have h1:(P++(u::U++(M++(v::V++Q))))[b+i]? =some v:=by
      rw[show P++(u::U++(M++(v::V++Q)))=(P++u::(U++M))++v::(V++Q)from by simp]
      exact Lv (by simp;omega)
    have h2:(P++(u::U++(M++(v::V++Q))))[a+i]? =some u:=Lv ha
    have h3:((P++(u::U++(M++(v::V++Q)))).set (a+i) v).set (b+i) u=(P++[v])++(U++((M++[u])++(V++Q))):=by
      rw[show P++(u::U++(M++(v::V++Q)))=P++u::(U++(M++(v::V++Q)))from rfl,Lw ha,show P++v::(U++(M++(v::V++Q)))=(P++v::(U++M))++v::(V++Q)from by simp,Lw (by simp;omega)]
      simp
    rw[h1,GS,decide_eq_true (by omega),cond_true,h2,GS,cond_true,cond_true,h3]
    have:=RY (k:=k) (ds:=ds) (Q:=Q) (a:=a) (b:=b) (n:=n) (fin:=fin) U V (P++[v]) (M++[u]) (i+1) kf (by omega) (by omega) (by simp;omega) (by simp;omega) (by omega) (by simp;omega)
    rw[show((i+1:Nat):Int)=(i:Int)+1 from by omega]at this
    exact this.trans (by simp)
theorem Lx {k:Nat} {ds P U M V Q:List Int} (hl:U.length=V.length) (hk:U.length<k) (hN:P.length+U.length+M.length+V.length+Q.length≤4000000000000) {a b n:Int} (ha:a=P.length) (hb:b=(P.length+U.length+M.length:Nat)) (hn:n=U.length):
    G3 k (P++(U++(M++(V++Q)))) a b n ds=some (P++(V++(M++(U++Q)))):=by
  subst ha hb hn
  unfold G3
  have:=RY (k:=k) (ds:=ds) (Q:=Q) (a:=P.length) (b:=P.length+U.length+M.length) (n:=U.length) (fin:=fun y3=>cond (decide (ds=ds)) (some y3) none) U V P M 0 k hl hk rfl rfl (by omega) hN
  exact this.trans (by rw[decide_eq_true rfl];rfl)
theorem Mi {k:Nat} {ds:List Int} {m N:Nat} (hkN:N<k) (hN:N≤4000000000000) {R:Type} {fin:Int× List Int→Option R}:∀(s:Nat) (P U V Q:List Int) (kf:Nat) (T:List Int),U.length+V.length≤s→s<kf→1≤U.length→1≤V.length→P.length+U.length=m→P.length+U.length+V.length+Q.length=N→T=P++(V++(U++Q))→
    ∃ (P' U' V' Q' : List Int), U'.length = V'.length ∧ P'.length + U'.length = m ∧ P'.length + U'.length + V'.length + Q'.length = N ∧ T = P' ++ (V' ++ (U' ++ Q')) ∧
      iter (fun u5 n5=>GN k ((m:Int),ds) u5 n5 fin) kf ((U.length:Int),(V.length:Int),P++(U++(V++Q)))=fin ((U'.length:Int),P'++(U'++(V'++Q')))
  |s,P,U,V,Q,0,T,_,h,_,_,_,_,_=>by omega
  | s, P, U, V, Q, kf + 1, T, hs, hk, hu, hv, hm, hT, hTe => by
    rw[HT]
    by_cases c:U.length=V.length
    · refine⟨P,U,V,Q,c,hm,hT,hTe,?_⟩
      show GN k ((m:Int),ds) _ _ fin=_
      unfold GN
      simp only
      rw[show((U.length:Int) !=(V.length:Int))=false from by rw[c];simp,cond_false]
    · have hne:((U.length:Int) !=(V.length:Int))=true:=by simp;omega
      by_cases g:U.length>V.length
      · obtain⟨U1,U2,rfl,hl⟩:=MN U V.length (by omega)
        rw[List.length_append]at g hu hm hT hs c
        have st:∀next,GN k ((m:Int),ds) (((U1++U2).length:Int),(V.length:Int),P++(U1++U2++(V++Q))) next fin=next ((U2.length:Int),(U1.length:Int),(P++V)++(U2++(U1++Q))):=fun next=>by
          unfold GN
          simp only
          rw[hne,cond_true,decide_eq_true (by rw[List.length_append];omega),cond_true,List.length_append,HN (n:=(m:Int)-((U1.length+U2.length:Nat):Int)) (by omega) (by omega)]
          have:=Lx (k:=k) (ds:=ds) (P:=P) (U:=U1) (M:=U2) (V:=V) (Q:=Q) hl (by omega) (by omega) (a:=(m:Int)-((U1.length+U2.length:Nat):Int)) (b:=m) (n:=V.length) (by omega) (by omega) (by omega)
          rw[show P++(U1++U2++(V++Q))=P++(U1++(U2++(V++Q)))from by simp,this,GS,HN (n:=((U1.length+U2.length:Nat):Int)-(V.length:Int)) (by omega) (by omega),show((U1.length+U2.length:Nat):Int)-(V.length:Int)=(U2.length:Int)from by omega,show(V.length:Int)=(U1.length:Int)from by omega]
          simp
        obtain⟨P',U',V',Q',q1,q2,q3,q4,q5⟩:=Mi (ds:=ds) (m:=m) hkN hN (fin:=fin) (s-1) (P++V) U2 U1 Q kf T (by omega) (by omega) (by omega) (by omega) (by simp;omega) (by simp;omega) (by rw[hTe];simp)
        exact⟨P',U',V',Q',q1,q2,q3,q4,(st _).trans q5⟩
      · obtain⟨V1,V2,rfl,hl⟩:=MN V (V.length-U.length) (by omega)
        rw[List.length_append]at g hv hT hs c hl
        have st:∀next,GN k ((m:Int),ds) ((U.length:Int),((V1++V2).length:Int),P++(U++(V1++V2++Q))) next fin=next ((V2.length:Int),(V1.length:Int),P++(V2++(V1++(U++Q)))):=fun next=>by
          unfold GN
          simp only
          rw[hne,cond_true,decide_eq_false (by rw[List.length_append];omega),cond_false,List.length_append,HN (n:=(m:Int)-(U.length:Int)) (by omega) (by omega),HN (n:=(m:Int)+((V1.length+V2.length:Nat):Int)) (by omega) (by omega),
            HN (n:=(m:Int)+((V1.length+V2.length:Nat):Int)-(U.length:Int)) (by omega) (by omega),HN (n:=((V1.length+V2.length:Nat):Int)-(U.length:Int)) (by omega) (by omega)]
          have:=Lx (k:=k) (ds:=ds) (P:=P) (U:=U) (M:=V1) (V:=V2) (Q:=Q) (by omega) (by omega) (by omega) (a:=(m:Int)-(U.length:Int)) (b:=(m:Int)+((V1.length+V2.length:Nat):Int)-(U.length:Int)) (n:=U.length) (by omega) (by omega) rfl
          rw[show P++(U++(V1++V2++Q))=P++(U++(V1++(V2++Q)))from by simp,this,GS,show(U.length:Int)=(V2.length:Int)from by omega,show((V1.length+V2.length:Nat):Int)-(V2.length:Int)=(V1.length:Int)from by omega]
        obtain⟨P',U',V',Q',q1,q2,q3,q4,q5⟩:=Mi (ds:=ds) (m:=m) hkN hN (fin:=fin) (s-1) P V2 V1 (U++Q) kf T (by omega) (by omega) (by omega) (by omega) (by omega) (by simp;omega) (by rw[hTe];simp)
        exact⟨P',U',V',Q',q1,q2,q3,q4,(st _).trans q5⟩
theorem WR {k:Nat} {ds P U V Q:List Int} (hu:1≤U.length) (hv:1≤V.length) (hk:P.length+U.length+V.length+Q.length<k) (hN:P.length+U.length+V.length+Q.length≤4000000000000) {a m b:Int} (ha:a=P.length) (hm:m=(P.length+U.length:Nat)) (hb:b=(P.length+U.length+V.length:Nat)):
    Hi k (P++(U++(V++Q))) a m b ds=some (P++(V++(U++Q))):=by
  subst ha hm hb
  unfold Hi
  rw[HN (n:=((P.length+U.length:Nat):Int)-(P.length:Int)) (by omega) (by omega),HN (n:=((P.length+U.length+V.length:Nat):Int)-((P.length+U.length:Nat):Int)) (by omega) (by omega),
    show((P.length+U.length:Nat):Int)-(P.length:Int)=(U.length:Int)from by omega,show((P.length+U.length+V.length:Nat):Int)-((P.length+U.length:Nat):Int)=(V.length:Int)from by omega]
  obtain⟨P',U',V',Q',q1,q2,q3,q4,q5⟩:=Mi (k:=k) (ds:=ds) (m:=P.length+U.length) hk hN (fin:=fun y3=>(G3 k y3.2 (IntKind.i64.wrap (((P.length+U.length:Nat):Int)-y3.1)) ((P.length+U.length:Nat):Int) y3.1 ds).bind fun r4=>cond (decide (ds=ds)) (some r4) none) (U.length+V.length) P U V Q k _ (Nat.le_refl _) (by omega) hu hv rfl rfl rfl
  refine q5.trans ?_
  rw[q4]
  have:=Lx (k:=k) (ds:=ds) (P:=P') (U:=U') (M:=[]) (V:=V') (Q:=Q') q1 (by omega) (by simp;omega) (a:=((P.length+U.length:Nat):Int)-(U'.length:Int)) (b:=((P.length+U.length:Nat):Int)) (n:=U'.length) (by omega) (by simp;omega) rfl
  simp only[List.nil_append]at this
  simp only
  rw[HN (by omega) (by omega),this]
  simp
end Go.Proofs.Ev
set_option linter.unusedVariables false
set_option linter.unusedSimpArgs false
set_option maxRecDepth 100000
namespace Go.Proofs.Ev
theorem OO {R:Type} {g:Int× Int→(Int× Int→Option R)→Option R} {fin:Int→Option R} {lo hi:Nat} {B:Nat→Bool} (hmono:∀h h',lo≤h→h≤h'→h'<hi→B h'=true→B h=true)
    (hg:∀i j:Nat,lo≤i→i<j→j≤hi→∀next,g ((i:Int),(j:Int)) next=cond (B ((i+j)/2)) (next ((((i+j)/2+1:Nat):Int),(j:Int))) (next ((i:Int),(((i+j)/2:Nat):Int))))
    (hend:∀(i:Nat) next,g ((i:Int),(i:Int)) next=fin i):∀(s i j k:Nat),j-i≤s→s<k→lo≤i→i≤j→j≤hi→(∀h,lo≤h→h<i→B h=true)→(∀h,j≤h→h<hi→B h=false)→
    ∃c:Nat,lo≤c∧c≤hi∧(∀h,lo≤h→h<c→B h=true)∧(∀h,c≤h→h<hi→B h=false)∧iter g k ((i:Int),(j:Int))=fin c
  |s,i,j,0,_,h,_,_,_,_,_=>by omega
  | s, i, j, k + 1, hs, hk, h1, h2, h3, h4, h5 => by
    rw[HT]
    by_cases c:i=j
    · subst c
      exact⟨i,h1,h3,h4,h5,hend i _⟩
    · rw [hg i j h1 (by omega) h3]
      cases hb:B ((i+j)/2)
      · rw [cond_false]
        exact OO hmono hg hend (s-1) i ((i+j)/2) k (by omega) (by omega) h1 (by omega) (by omega) h4 fun h a b=>by
          cases hbh:B h
          · rfl
          · by_cases c2:h<j
            · rw[hmono ((i+j)/2) h (by omega) a b hbh]at hb;exact nomatch hb
            · rw[h5 h (by omega) b]at hbh;exact nomatch hbh
      · rw[cond_true]
        exact OO hmono hg hend (s-1) ((i+j)/2+1) j k (by omega) (by omega) (by omega) (by omega) h3 (fun h a b=>hmono h ((i+j)/2) a (by omega) (by omega) hb) h5
section
variable {ds:List Int} {k:Nat}
def InD (ds:List Int) (x:Int):Prop:=0≤x∧x<ds.length
def Jq (ds:List Int) (x:Int):Int:=ds.getD x.toNat 0
theorem Ua {x y:Int} (hx:InD ds x) (hy:InD ds y):∃r,HJ k x y ds=some r∧(r<0↔Jq ds x<Jq ds y):=by
  unfold InD at hx hy
  unfold HJ IX JM Ju
  rw[Tf _ hx.1,Tf _ hy.1,J2 (show x.toNat<ds.length by omega),J2 (show y.toNat<ds.length by omega)]
  have e1:Jq ds x=ds[x.toNat]'(by omega):=HO _ _
  have e2:Jq ds y=ds[y.toNat]'(by omega):=HO _ _
  rw[←e1,←e2]
  simp only[GS,decide_true,cond_true,show∀a:Int,(a !=a)=false from fun a=>by simp,cond_false]
  by_cases c:Jq ds x<Jq ds y
  · rw[decide_eq_true c];exact⟨_,rfl,by simp[c]⟩
  · rw[decide_eq_false c,cond_false]
    by_cases d:Jq ds x>Jq ds y
    · rw[decide_eq_true d];exact⟨_,rfl,by simp[c]⟩
    · rw[decide_eq_false d];exact⟨_,rfl,by simp[c]⟩
abbrev LtD (ds:List Int):Int→Int→Prop:=Lt (Jq ds) id
abbrev MO (ds:List Int):List Int→List Int→Prop:=YV (Jq ds) id
def MP (ds:List Int) (l:List Int):Prop:=∀x∈l,InD ds x
theorem J4 {l:List Int} (h:Srt (LtD ds) l) {i j:Nat} (hij:i≤j) (hj:j<l.length):Jq ds (l.getD i 0)≤Jq ds (l.getD j 0):=by
  rw[HO (by omega),HO hj]
  by_cases c:i=j
  · subst c;exact Int.le_refl _
  · exact(List.pairwise_iff_getElem.1 h i j (by omega) hj (by omega)).le
theorem PT {R:Type} {fin:List Int→Option R} {u c:Int} {Q:List Int} {N:Nat} (hN:N≤4000000000000):∀(V P:List Int) (kf:Nat),V.length<kf→c=(P.length+V.length+1:Nat)→P.length+V.length+1+Q.length=N→
    iter (fun u9 n9=>GI k (c,ds) u9 n9 fin) kf ((P.length:Int),P++u::(V++Q))=fin (P++(V++u::Q))
  |_,_,0,h,_,_=>by omega
  | [], P, kf + 1, _, hc, hn => by
    rw[HT]
    show GI k (c,ds) _ _ fin=_
    unfold GI
    simp only[List.length_nil]at hc
    simp only
    rw[HN (n:=c-1) (by omega) (by omega),decide_eq_false (by omega)];rfl
  | v :: V, P, kf + 1, hk, hc, hn => by
    simp only[List.length_cons]at hk hc hn
    rw[HT]
    have st:∀next,GI k (c,ds) ((P.length:Int),P++u::(v::V++Q)) next fin=next (((P++[v]).length:Int),(P++[v])++u::(V++Q)):=fun next=>by
      unfold GI
      simp only
      have hl:(P++u::(v::V++Q)).length=P.length+V.length+2+Q.length:=by simp;omega
      rw[HN (n:=c-1) (by omega) (by omega),decide_eq_true (show(P.length:Int)<c-1 by omega),cond_true,HN (n:=(P.length:Int)+1) (by omega) (by omega),decide_eq_true (by omega),cond_true,show((P.length:Int)+1).toNat=P.length+1 from by omega,
        show(P.length:Int).toNat=P.length from by omega]
      have h1:(P++u::(v::V++Q))[P.length+1]? =some v:=by
        rw[show P++u::(v::V++Q)=(P++[u])++v::(V++Q)from by simp]
        exact Lv (by simp)
      have h2:(P++u::(v::V++Q))[P.length]? =some u:=Lv rfl
      have h3:((P++u::(v::V++Q)).set P.length v).set (P.length+1) u=(P++[v])++u::(V++Q):=by
        rw[Lw rfl,show P++v::(v::V++Q)=(P++[v])++v::(V++Q)from by simp,Lw (by simp)]
      rw[h1,GS,decide_eq_true (by omega),cond_true,h2,GS,cond_true,cond_true,h3]
      simp
    have ih:=PT (fin:=fin) (u:=u) (c:=c) (Q:=Q) hN V (P++[v]) kf (by omega) (by simp;omega) (by simp;omega)
    exact(st _).trans (ih.trans (by simp))
theorem RZ {R:Type} {fin:List Int→Option R} {v:Int} {P Q:List Int} {N:Nat} (hN:N≤4000000000000):∀(n:Nat) (V W:List Int) (kf:Nat),V.length=n→n<kf→P.length+V.length+1+W.length+Q.length=N→
    iter (fun u19 n19=>GJ k ((P.length:Int),ds) u19 n19 fin) kf (((P.length+V.length:Nat):Int),P++(V++v::(W++Q)))=fin (P++(v::(V++(W++Q))))
  |_,_,_,0,_,h,_=>by omega
  | 0, V, W, kf + 1, hV, _, hn => by
    have hV:=List.length_eq_zero_iff.1 hV
    subst hV
    rw[HT]
    show GJ k ((P.length:Int),ds) _ _ fin=_
    unfold GJ
    simp only
    rw[decide_eq_false (by simp)];rfl
  | n + 1, V, W, kf + 1, hV, hk, hn => by
    obtain⟨V1,y,V2,rfl,hl⟩:=RW V n (by omega)
    have hV2:V2=[]:=List.length_eq_zero_iff.1 (by simp at hV;omega)
    subst hV2
    simp only[List.length_append,List.length_cons,List.length_nil]at hV hn
    rw[HT]
    have st:∀next,GJ k ((P.length:Int),ds) (((P.length+(V1++[y]).length:Nat):Int),P++(V1++[y]++v::(W++Q))) next fin=next (((P.length+V1.length:Nat):Int),P++(V1++v::(y::W++Q))):=fun next=>by
      unfold GJ
      simp only
      have hl':(P++(V1++[y]++v::(W++Q))).length=P.length+V1.length+2+W.length+Q.length:=by simp;omega
      have hz:(P.length+(V1++[y]).length:Nat)=P.length+V1.length+1:=by simp;omega
      rw[hz,decide_eq_true (show((P.length+V1.length+1:Nat):Int)>(P.length:Int) by omega),cond_true,HN (n:=((P.length+V1.length+1:Nat):Int)-1) (by omega) (by omega),decide_eq_true (by omega),cond_true,
        show(((P.length+V1.length+1:Nat):Int)-1).toNat=P.length+V1.length from by omega,show((P.length+V1.length+1:Nat):Int).toNat=P.length+V1.length+1 from by omega]
      have e:P++(V1++[y]++v::(W++Q))=(P++V1)++y::(v::(W++Q)):=by simp
      have h1:(P++(V1++[y]++v::(W++Q)))[P.length+V1.length]? =some y:=by rw[e];exact Lv (by simp)
      have h2:(P++(V1++[y]++v::(W++Q)))[P.length+V1.length+1]? =some v:=by
        rw[show P++(V1++[y]++v::(W++Q))=(P++V1++[y])++v::(W++Q)from by simp]
        exact Lv (by simp;omega)
      have h3:((P++(V1++[y]++v::(W++Q))).set (P.length+V1.length+1) y).set (P.length+V1.length) v=P++(V1++v::(y::W++Q)):=by
        rw[show P++(V1++[y]++v::(W++Q))=(P++V1++[y])++v::(W++Q)from by simp,Lw (by simp;omega),show P++V1++[y]++y::(W++Q)=(P++V1)++y::(y::(W++Q))from by simp,Lw (by simp)]
        simp
      rw[h1,GS,decide_eq_true (by omega),cond_true,h2,GS,cond_true,cond_true,h3]
      congr 2
      omega
    have ih:=RZ (fin:=fin) (v:=v) (P:=P) (Q:=Q) hN n V1 (y::W) kf hl (by omega) (by simp;omega)
    refine(st _).trans (ih.trans ?_)
    simp
end
end Go.Proofs.Ev
set_option linter.unusedVariables false
set_option linter.unusedSimpArgs false
set_option maxRecDepth 100000
namespace Go.Proofs.Ev
def Ub (ds:List Int) (P U V Q:List Int) (r:Option (List Int)):Prop:=∃W,r=some (P++(W++Q))∧W.Perm (U++V)∧Srt (LtD ds) W
section
variable {ds:List Int} {k:Nat}
theorem XT {u:Int} {P V Q:List Int} (hk:P.length+V.length+Q.length+10<k) (hN:P.length+V.length+Q.length≤3000000000000) (hu:InD ds u) (hV:MP ds V) (sV:Srt (LtD ds) V) (hA:MO ds [u] V):
    Ub ds P [u] V Q (iter (fun u10 n10=>GO k ((P.length:Int),P++u::(V++Q),ds) u10 n10 (fun y5=>iter (fun u9 n9=>GI k (y5,ds) u9 n9 (fun y8=>cond (decide (ds=ds)) (some y8) none)) k ((P.length:Int),P++u::(V++Q)))) k (((P.length+1:Nat):Int),((P.length+1+V.length:Nat):Int))):=by
  have hlen:(P++u::(V++Q)).length=P.length+1+V.length+Q.length:=by simp;omega
  have hat:∀h,P.length+1≤h→h<P.length+1+V.length→(P++u::(V++Q))[h]? =some (V.getD (h-(P.length+1)) 0):=fun h h1 h2=>by
    rw[show P++u::(V++Q)=(P++[u])++(V++Q)from by simp,List.getElem?_append_right (by simp;omega),List.getElem?_append_left (by simp;omega),show h-(P++[u]).length=h-(P.length+1)from by simp,List.getElem?_eq_getElem (by omega),←HO (show h-(P.length+1)<V.length by omega) 0]
  have hin:∀i,i<V.length→InD ds (V.getD i 0):=fun i hi=>by rw[HO hi];exact hV _ (List.getElem_mem hi)
  obtain⟨c,c1,c2,c3,c4,c5⟩:=OO (g:=fun u10 n10=>GO k ((P.length:Int),P++u::(V++Q),ds) u10 n10 (fun y5=>iter (fun u9 n9=>GI k (y5,ds) u9 n9 (fun y8=>cond (decide (ds=ds)) (some y8) none)) k ((P.length:Int),P++u::(V++Q))))
    (fin:=fun y5=>iter (fun u9 n9=>GI k (y5,ds) u9 n9 (fun y8=>cond (decide (ds=ds)) (some y8) none)) k ((P.length:Int),P++u::(V++Q)))
    (lo:=P.length+1) (hi:=P.length+1+V.length) (B:=fun h=>decide (Jq ds (V.getD (h-(P.length+1)) 0)<Jq ds u))
    (fun h h' h1 h2 h3 hb=>by
      have:=J4 sV (show h-(P.length+1)≤h'-(P.length+1) by omega) (by omega)
      have hb:=of_decide_eq_true hb
      exact decide_eq_true (by omega))
    (fun i j h1 h2 h3 next=>by
      show GO k _ _ next _=_
      generalize (fun y5=>iter (fun u9 n9=>GI k (y5,ds) u9 n9 (fun y8=>cond (decide (ds=ds)) (some y8) none)) k ((P.length:Int),P++u::(V++Q)))=fin
      unfold GO
      simp only
      rw[decide_eq_true (show(i:Int)<(j:Int) by omega),cond_true,QO (x:=(i:Int)+(j:Int)) (by omega) (by omega),show((i:Int)+(j:Int))/2=(((i+j)/2:Nat):Int)from by omega,decide_eq_true (by omega),cond_true,
        show(((i+j)/2:Nat):Int).toNat=(i+j)/2 from by omega,hat _ (by omega) (by omega),GS,decide_eq_true (by omega),cond_true,show(P.length:Int).toNat=P.length from by omega,Lv rfl,GS]
      obtain⟨r,hr,hr2⟩:=Ua (ds:=ds) (k:=k) (hin ((i+j)/2-(P.length+1)) (by omega)) hu
      rw[hr,GS,HN (by omega) (by omega),show(((i+j)/2:Nat):Int)+1=(((i+j)/2+1:Nat):Int)from by omega]
      by_cases q:r<0
      · rw[decide_eq_true q,decide_eq_true (hr2.1 q)]
      · rw[decide_eq_false q,decide_eq_false (fun h=>q (hr2.2 h))])
    (fun i next=>by
      show GO k _ _ next _=_
      unfold GO
      simp only
      rw[decide_eq_false (by omega),cond_false]) V.length (P.length+1) (P.length+1+V.length) k (by omega) (by omega) (Nat.le_refl _) (by omega) (Nat.le_refl _) (fun h _ _=>by omega) (fun h _ _=>by omega)
  refine⟨V.take (c-(P.length+1))++u::V.drop (c-(P.length+1)),?_,?_,?_⟩
  · refine c5.trans ?_
    have ht:(V.take (c-(P.length+1))).length=c-(P.length+1):=by rw[List.length_take];omega
    have:=PT (ds:=ds) (k:=k) (fin:=fun y8=>cond (decide (ds=ds)) (some y8) none) (u:=u) (c:=(c:Int)) (Q:=V.drop (c-(P.length+1))++Q) (N:=P.length+V.length+1+Q.length) (by omega) (V.take (c-(P.length+1))) P k (by omega) (by omega) (by simp;omega)
    rw[←List.append_assoc,List.take_append_drop]at this
    refine this.trans ?_
    rw[decide_eq_true rfl,cond_true]
    simp
  · refine(List.perm_middle).trans ?_
    rw[List.take_append_drop]
    exact List.Perm.refl _
  · have hlt:∀i,i<V.length→(i<c-(P.length+1)↔Jq ds (V.getD i 0)<Jq ds u):=fun i hi=>by
      constructor
      · intro h
        have:=of_decide_eq_true (c3 (i+(P.length+1)) (by omega) (by omega))
        rwa [Nat.add_sub_cancel]at this
      · intro h
        cases Nat.lt_or_ge i (c-(P.length+1))with
        |inl h=>exact h
        | inr g =>
          have:=of_decide_eq_false (c4 (i+(P.length+1)) (by omega) (by omega))
          rw[Nat.add_sub_cancel]at this
          exact(this h).elim
    have s2:=sV
    rw[←List.take_append_drop (c-(P.length+1)) V,Iy]at s2
    refine Iy.2 ⟨s2.1,List.pairwise_cons.2 ⟨fun y hy=>?_,s2.2.1⟩,fun x hx y hy=>?_⟩
    · obtain⟨i,hi,rfl⟩:=List.getElem_of_mem hy
      rw[List.length_drop]at hi
      rw[List.getElem_drop]
      refine hA.lt (List.mem_singleton.2 rfl) (List.getElem_mem _) ?_
      have:=mt (hlt (c-(P.length+1)+i) (by omega)).2 (by omega)
      rw[HO (by omega)]at this
      omega
    · have hxu:Jq ds x<Jq ds u:=by
        obtain⟨i,hi,rfl⟩:=List.getElem_of_mem hx
        rw[List.length_take]at hi
        rw[List.getElem_take]
        have:=(hlt i (by omega)).1 (by omega)
        rwa [HO (by omega)]at this
      rcases List.mem_cons.1 hy with rfl|hy
      · exact RX hxu
      · exact s2.2.2 x hx y hy
theorem WS {v:Int} {P U Q:List Int} (hk:P.length+U.length+Q.length+10<k) (hN:P.length+U.length+Q.length≤3000000000000) (hv:InD ds v) (hU:MP ds U) (sU:Srt (LtD ds) U) (hA:MO ds U [v]):
    Ub ds P U [v] Q (iter (fun u20 n20=>GP k (((P.length+U.length:Nat):Int),P++(U++v::Q),ds) u20 n20 (fun y15=>iter (fun u19 n19=>GJ k (y15,ds) u19 n19 (fun y18=>cond (decide (ds=ds)) (some y18) none)) k (((P.length+U.length:Nat):Int),P++(U++v::Q)))) k ((P.length:Int),((P.length+U.length:Nat):Int))):=by
  have hlen:(P++(U++v::Q)).length=P.length+U.length+1+Q.length:=by simp;omega
  have hat:∀h,P.length≤h→h<P.length+U.length→(P++(U++v::Q))[h]? =some (U.getD (h-P.length) 0):=fun h h1 h2=>by
    rw[List.getElem?_append_right h1,List.getElem?_append_left (by omega),List.getElem?_eq_getElem (by omega),←HO (show h-P.length<U.length by omega) 0]
  have hatv:(P++(U++v::Q))[P.length+U.length]? =some v:=by
    rw[←List.append_assoc]
    exact Lv (by simp)
  have hin:∀i,i<U.length→InD ds (U.getD i 0):=fun i hi=>by rw[HO hi];exact hU _ (List.getElem_mem hi)
  obtain⟨c,c1,c2,c3,c4,c5⟩:=OO (g:=fun u20 n20=>GP k (((P.length+U.length:Nat):Int),P++(U++v::Q),ds) u20 n20 (fun y15=>iter (fun u19 n19=>GJ k (y15,ds) u19 n19 (fun y18=>cond (decide (ds=ds)) (some y18) none)) k (((P.length+U.length:Nat):Int),P++(U++v::Q))))
    (fin:=fun y15=>iter (fun u19 n19=>GJ k (y15,ds) u19 n19 (fun y18=>cond (decide (ds=ds)) (some y18) none)) k (((P.length+U.length:Nat):Int),P++(U++v::Q)))
    (lo:=P.length) (hi:=P.length+U.length) (B:=fun h=>!decide (Jq ds v<Jq ds (U.getD (h-P.length) 0)))
    (fun h h' h1 h2 h3 hb=>by
      have:=J4 sU (show h-P.length≤h'-P.length by omega) (by omega)
      rw[Bool.not_eq_true']at hb⊢
      have hb:=of_decide_eq_false hb
      exact decide_eq_false (by omega))
    (fun i j h1 h2 h3 next=>by
      show GP k _ _ next _=_
      generalize (fun y15=>iter (fun u19 n19=>GJ k (y15,ds) u19 n19 (fun y18=>cond (decide (ds=ds)) (some y18) none)) k (((P.length+U.length:Nat):Int),P++(U++v::Q)))=fin
      unfold GP
      simp only
      rw[decide_eq_true (show(i:Int)<(j:Int) by omega),cond_true,QO (x:=(i:Int)+(j:Int)) (by omega) (by omega),show((i:Int)+(j:Int))/2=(((i+j)/2:Nat):Int)from by omega,decide_eq_true (by omega),cond_true,
        show((P.length+U.length:Nat):Int).toNat=P.length+U.length from by omega,hatv,GS,decide_eq_true (by omega),cond_true,show(((i+j)/2:Nat):Int).toNat=(i+j)/2 from by omega,hat _ (by omega) (by omega),GS]
      obtain⟨r,hr,hr2⟩:=Ua (ds:=ds) (k:=k) hv (hin ((i+j)/2-P.length) (by omega))
      rw[hr,GS,HN (by omega) (by omega),show(((i+j)/2:Nat):Int)+1=(((i+j)/2+1:Nat):Int)from by omega]
      by_cases q:r<0
      · rw[decide_eq_true q,decide_eq_true (hr2.1 q)]
      · rw[decide_eq_false q,decide_eq_false (fun h=>q (hr2.2 h))])
    (fun i next=>by
      show GP k _ _ next _=_
      unfold GP
      simp only
      rw[decide_eq_false (by omega),cond_false]) U.length P.length (P.length+U.length) k (by omega) (by omega) (Nat.le_refl _) (by omega) (Nat.le_refl _) (fun h _ _=>by omega) (fun h _ _=>by omega)
  refine⟨U.take (c-P.length)++v::U.drop (c-P.length),?_,?_,?_⟩
  · refine c5.trans ?_
    have ht:(U.take (c-P.length)).length=c-P.length:=by rw[List.length_take];omega
    have hpt:(P++U.take (c-P.length)).length=c:=by simp;omega
    have:=RZ (ds:=ds) (k:=k) (fin:=fun y8=>cond (decide (ds=ds)) (some y8) none) (v:=v) (P:=P++U.take (c-P.length)) (Q:=Q) (N:=P.length+U.length+1+Q.length) (by omega) (U.drop (c-P.length)).length (U.drop (c-P.length)) [] k rfl (by simp;omega) (by simp;omega)
    rw[hpt]at this
    rw[show P++U.take (c-P.length)++(U.drop (c-P.length)++v::([]++Q))=P++(U++v::Q)from by
      rw[List.append_assoc,←List.append_assoc (U.take _),List.take_append_drop];rfl,show c+(U.drop (c-P.length)).length=P.length+U.length from by simp;omega]at this
    refine this.trans ?_
    rw[decide_eq_true rfl,cond_true]
    simp
  · refine(List.perm_middle).trans ?_
    rw[List.take_append_drop]
    exact(List.perm_append_comm (l₁:=[v]) (l₂:=U))
  · have hlt:∀i,i<U.length→(i<c-P.length↔¬Jq ds v<Jq ds (U.getD i 0)):=fun i hi=>by
      constructor
      · intro h
        have:=c3 (i+P.length) (by omega) (by omega)
        rw[Nat.add_sub_cancel,Bool.not_eq_true']at this
        exact of_decide_eq_false this
      · intro h
        cases Nat.lt_or_ge i (c-P.length)with
        |inl h=>exact h
        | inr g =>
          have:=c4 (i+P.length) (by omega) (by omega)
          rw[Nat.add_sub_cancel,Bool.not_eq_false']at this
          exact(h (of_decide_eq_true this)).elim
    have s2:=sU
    rw[←List.take_append_drop (c-P.length) U,Iy]at s2
    refine Iy.2 ⟨s2.1,List.pairwise_cons.2 ⟨fun y hy=>?_,s2.2.1⟩,fun x hx y hy=>?_⟩
    · obtain⟨i,hi,rfl⟩:=List.getElem_of_mem hy
      rw[List.length_drop]at hi
      rw[List.getElem_drop]
      have:=mt (hlt (c-P.length+i) (by omega)).2 (by omega)
      rw[HO (by omega)]at this
      exact RX (by omega)
    · rcases List.mem_cons.1 hy with rfl|hy
      · obtain⟨i,hi,rfl⟩:=List.getElem_of_mem hx
        rw[List.length_take]at hi
        rw[List.getElem_take]
        refine hA.lt (List.getElem_mem _) (List.mem_singleton.2 rfl) ?_
        have:=(hlt i (by omega)).1 (by omega)
        rw[HO (by omega)]at this
        omega
      · exact s2.2.2 x hx y hy
end
end Go.Proofs.Ev
set_option linter.unusedVariables false
set_option linter.unusedSimpArgs false
set_option maxRecDepth 100000
set_option maxHeartbeats 4000000
namespace Go.Proofs.Ev
section
variable {ds:List Int}
def KS (ds:List Int) (N L:Nat) (F:List Int→Int→Int→Int→List Int→Option (List Int)):Prop:=∀P U V Q:List Int,U.length+V.length≤L→1≤U.length→1≤V.length→P.length+U.length+V.length+Q.length=N→MP ds U→MP ds V→Srt (LtD ds) U→Srt (LtD ds) V→MO ds U V→
  Ub ds P U V Q (F (P++(U++(V++Q))) (P.length:Int) ((P.length+U.length:Nat):Int) ((P.length+U.length+V.length:Nat):Int) ds)
theorem MP.app {U V:List Int}:MP ds (U++V)↔MP ds U∧MP ds V:=by
  unfold MP
  constructor
  · exact fun h=>⟨fun x hx=>h x (List.mem_append_left _ hx),fun x hx=>h x (List.mem_append_right _ hx)⟩
  · rintro ⟨h1,h2⟩ x hx
    rcases List.mem_append.1 hx with hx|hx
    · exact h1 x hx
    · exact h2 x hx
theorem PU {N L:Nat} {F:List Int→Int→Int→Int→List Int→Option (List Int)} (hF:KS ds N L F) {P U V Q:List Int} {R:Type} {j:List Int→Option R} {a m b:Int} (hL:U.length+V.length≤L) (hn:P.length+U.length+V.length+Q.length=N) (hU:MP ds U) (hV:MP ds V) (sU:Srt (LtD ds) U) (sV:Srt (LtD ds) V) (hA:MO ds U V)
    (ha:a=P.length) (hm:m=(P.length+U.length:Nat)) (hb:b=(P.length+U.length+V.length:Nat)) {Q2:R→Prop} (hj:∀W,W.Perm (U++V)→Srt (LtD ds) W→G4 (j (P++(W++Q))) Q2):
    G4 (cond (decide (a<m)) (cond (decide (m<b)) ((F (P++(U++(V++Q))) a m b ds).bind fun r=>j r) (j (P++(U++(V++Q))))) (j (P++(U++(V++Q))))) Q2:=by
  subst ha hm hb
  refine G4.cond (fun c=>G4.cond (fun d=>?_) fun d=>?_) fun c=>?_
  · have c:=of_decide_eq_true c
    have d:=of_decide_eq_true d
    obtain⟨W,h1,h2,h3⟩:=hF P U V Q hL (by omega) (by omega) hn hU hV sU sV hA
    rw[h1]
    exact hj W h2 h3
  · have d:=of_decide_eq_false d
    have hV0:V=[]:=List.length_eq_zero_iff.1 (by omega)
    subst hV0
    exact hj U (by simp) sU
  · have c:=of_decide_eq_false c
    have hU0:U=[]:=List.length_eq_zero_iff.1 (by omega)
    subst hU0
    exact hj V (by simp) sV
theorem G4.bej2 {R α β:Type} {B:(α→β→Option R)→Option R} {K:α→β→Option R} {Q:R→Prop} (P:α→β→Prop) (hK:∀x y,P x y→G4 (K x y) Q) (hB:∀j:α→β→Option R,(∀x y,P x y→G4 (j x y) Q)→G4 (B j) Q):G4 (Go.Proofs.Ev.bej B K) Q:=hB K hK
theorem QP {N k hf s0 s1:Nat} {P U V Q:List Int} {a1 a2 a3 mid n n1:Int} (hk:N+20<k) (hN:N≤1000000000000) (hn:P.length+U.length+V.length+Q.length=N) (aU:MP ds U) (aV:MP ds V) (sU:Srt (LtD ds) U) (sV:Srt (LtD ds) V)
    (h01:s0≤s1) (h1u:s1≤U.length) (h1f:s1≤hf) (h0v:hf≤s0+V.length) (hn1:n1=((P.length+hf+P.length+U.length:Nat):Int)-1) {R:Type} {fin:Int→Option R} {Qr:R→Prop} {st sr:Int} (hst:st=((P.length+s0:Nat):Int)) (hsr:sr=((P.length+s1:Nat):Int))
    (hfin:∀s,s0≤s→s≤s1→(s0<s→¬Jq ds (V.getD (hf-1-(s-1)) 0)<Jq ds (U.getD (s-1) 0))→(s<s1→Jq ds (V.getD (hf-1-s) 0)<Jq ds (U.getD s 0))→G4 (fin ((P.length+s:Nat):Int)) Qr):
    G4 (iter (fun u41 n41=>GQ k (a1,a2,a3,mid,n,n1,P++(U++(V++Q)),ds) u41 n41 fin) k (st,sr)) Qr:=by
  subst hst hsr hn1
  have hlen:(P++(U++(V++Q))).length=N:=by simp;omega
  have hatU:∀x,x<U.length→(P++(U++(V++Q)))[P.length+x]? =some (U.getD x 0):=fun x hx=>by
    rw[List.getElem?_append_right (by omega),List.getElem?_append_left (by omega),Nat.add_sub_cancel_left,List.getElem?_eq_getElem hx,←HO hx 0]
  have hatV:∀y,y<V.length→(P++(U++(V++Q)))[P.length+U.length+y]? =some (V.getD y 0):=fun y hy=>by
    rw[List.getElem?_append_right (by omega),List.getElem?_append_right (by omega),List.getElem?_append_left (by omega),show P.length+U.length+y-P.length-U.length=y from by omega,List.getElem?_eq_getElem hy,←HO hy 0]
  have inU:∀i,i<U.length→InD ds (U.getD i 0):=fun i hi=>by rw[HO hi];exact aU _ (List.getElem_mem hi)
  have inV:∀i,i<V.length→InD ds (V.getD i 0):=fun i hi=>by rw[HO hi];exact aV _ (List.getElem_mem hi)
  obtain⟨c,c1,c2,c3,c4,c5⟩:=OO (g:=fun u41 n41=>GQ k (a1,a2,a3,mid,n,((P.length+hf+P.length+U.length:Nat):Int)-1,P++(U++(V++Q)),ds) u41 n41 fin) (fin:=fin)
    (lo:=P.length+s0) (hi:=P.length+s1) (B:=fun h=>!decide (Jq ds (V.getD (hf-1-(h-P.length)) 0)<Jq ds (U.getD (h-P.length) 0)))
    (fun h h' h1 h2 h3 hb=>by
      have a1:=J4 sU (show h-P.length≤h'-P.length by omega) (by omega)
      have a2:=J4 sV (show hf-1-(h'-P.length)≤hf-1-(h-P.length) by omega) (by omega)
      rw[Bool.not_eq_true']at hb⊢
      have hb:=of_decide_eq_false hb
      exact decide_eq_false (by omega))
    (fun i j h1 h2 h3 next=>by
      show GQ k _ _ next fin=_
      unfold GQ
      simp only
      rw[decide_eq_true (show(i:Int)<(j:Int) by omega),cond_true,QO (x:=(i:Int)+(j:Int)) (by omega) (by omega),show((i:Int)+(j:Int))/2=(((i+j)/2:Nat):Int)from by omega]
      generalize hc:(i+j)/2=c
      rw[HN (n:=((P.length+hf+P.length+U.length:Nat):Int)-1-(c:Int)) (by omega) (by omega),decide_eq_true (by omega),cond_true,
        show(((P.length+hf+P.length+U.length:Nat):Int)-1-(c:Int)).toNat=P.length+U.length+(hf-1-(c-P.length))from by omega,hatV _ (by omega),GS,decide_eq_true (by omega),cond_true,
        show(c:Int).toNat=P.length+(c-P.length)from by omega,hatU _ (by omega),GS]
      obtain⟨r,hr,hr2⟩:=Ua (ds:=ds) (k:=k) (inV (hf-1-(c-P.length)) (by omega)) (inU (c-P.length) (by omega))
      rw[hr,GS,HN (by omega) (by omega),show(c:Int)+1=((c+1:Nat):Int)from by omega]
      by_cases q:r<0
      · rw[decide_eq_true q,decide_eq_true (hr2.1 q)]
      · rw[decide_eq_false q,decide_eq_false (fun h=>q (hr2.2 h))])
    (fun i next=>by
      show GQ k _ _ next fin=_
      unfold GQ
      simp only
      rw[decide_eq_false (by omega),cond_false]) (s1-s0) (P.length+s0) (P.length+s1) k (by omega) (by omega) (Nat.le_refl _) (by omega) (Nat.le_refl _) (fun h _ _=>by omega) (fun h _ _=>by omega)
  obtain⟨s,rfl⟩:∃s,c=P.length+s:=⟨c-P.length,by omega⟩
  obtain⟨r,hr,hq⟩:=hfin s (by omega) (by omega) (fun h=>by
    have hb:=c3 (P.length+(s-1)) (by omega) (by omega)
    rw[Bool.not_eq_true',Nat.add_sub_cancel_left]at hb
    exact of_decide_eq_false hb) (fun h=>by
    have hb:=c4 (P.length+s) (by omega) (by omega)
    rw[Bool.not_eq_false',Nat.add_sub_cancel_left]at hb
    exact of_decide_eq_true hb)
  exact⟨r,c5.trans hr,hq⟩
theorem U6 {k:Nat} {P U1 U2 V1 V2 Q:List Int} (hk:P.length+U1.length+U2.length+V1.length+V2.length+Q.length<k) (hN:k≤k∧P.length+U1.length+U2.length+V1.length+V2.length+Q.length≤4000000000000) {y m e:Int} (hy:y=(P.length+U1.length:Nat)) (hm:m=(P.length+U1.length+U2.length:Nat)) (he:e=(P.length+U1.length+U2.length+V1.length:Nat))
    {R:Type} {K:List Int→Option R} {Qr:R→Prop} (hK:G4 (K (P++(U1++(V1++(U2++(V2++Q)))))) Qr):
    G4 (cond (decide (y<m)) (bej (fun(j28:(List Int)→Option R)=>cond (decide (m<e)) ((Hi k (P++(U1++U2++(V1++V2++Q))) y m e ds).bind fun r27=>(j28 r27)) ((j28 (P++(U1++U2++(V1++V2++Q)))))) K) (K (P++(U1++U2++(V1++V2++Q))))) Qr:=by
  refine G4.cond (fun c=>G4.bej (G4.cond (fun d=>?_) fun d=>?_)) fun c=>?_
  · have c:=of_decide_eq_true c
    have d:=of_decide_eq_true d
    have:=WR (k:=k) (ds:=ds) (P:=P++U1) (U:=U2) (V:=V1) (Q:=V2++Q) (by omega) (by omega) (by simp;omega) (by simp;omega) (a:=y) (m:=m) (b:=e) (by rw[hy];simp) (by rw[hm];simp) (by rw[he];simp)
    rw[show P++(U1++U2++(V1++V2++Q))=P++U1++(U2++(V1++(V2++Q)))from by simp,this,GS,List.append_assoc]
    exact hK
  · have d:=of_decide_eq_false d
    have hV:V1=[]:=List.length_eq_zero_iff.1 (by omega)
    subst hV
    rw[show P++(U1++U2++([]++V2++Q))=P++(U1++([]++(U2++(V2++Q))))from by simp]
    exact hK
  · have c:=of_decide_eq_false c
    have hU:U2=[]:=List.length_eq_zero_iff.1 (by omega)
    subst hU
    rw[show P++(U1++[]++(V1++V2++Q))=P++(U1++(V1++([]++(V2++Q))))from by simp]
    exact hK
theorem R0 {W:List Int} {Qr:List Int→Prop} (h:Qr W):G4 (cond (decide (ds=ds)) (some W) none) Qr:=by rw[decide_eq_true rfl,cond_true];exact G4.some h
theorem U7 {N L k:Nat} {F:List Int→Int→Int→Int→List Int→Option (List Int)} (hk:N+20<k) (hN:N≤1000000000000) (hF:KS ds N L F):KS ds N (L+1) (Hw k F):=by
  intro P U V Q hL hu hv hn aU aV sU sV hA
  have hcast:((P.length+U.length+V.length:Nat):Int)-((P.length+U.length:Nat):Int)=(V.length:Int):=by omega
  unfold Hw
  rw[HN (n:=((P.length+U.length:Nat):Int)-(P.length:Int)) (by omega) (by omega),HN (n:=((P.length+U.length+V.length:Nat):Int)-((P.length+U.length:Nat):Int)) (by omega) (by omega),hcast,
    show((P.length+U.length:Nat):Int)-(P.length:Int)=(U.length:Int)from by omega]
  by_cases u1:U.length=1
  · obtain⟨u,rfl⟩:=List.length_eq_one_iff.1 u1
    rw[show((([u]:List Int).length:Int)==1)=true from rfl,cond_true]
    have:=XT (ds:=ds) (k:=k) (u:=u) (P:=P) (V:=V) (Q:=Q) (by simp at hn;omega) (by simp at hn;omega) (aU u (by simp)) aV sV hA
    exact this
  rw[show((U.length:Int)==1)=false from by simp;omega,cond_false]
  by_cases v1:V.length=1
  · obtain⟨v,rfl⟩:=List.length_eq_one_iff.1 v1
    rw[show((([v]:List Int).length:Int)==1)=true from rfl,cond_true]
    have:=WS (ds:=ds) (k:=k) (v:=v) (P:=P) (U:=U) (Q:=Q) (by simp at hn;omega) (by simp at hn;omega) (aV v (by simp)) aU sU hA
    exact this
  rw[show((V.length:Int)==1)=false from by simp;omega,cond_false]
  obtain⟨hf,hhf⟩:∃hf:Nat,hf=(U.length+V.length)/2:=⟨_,rfl⟩
  have hmid:IntKind.i64.wrap ((IntKind.u64.wrap (IntKind.i64.wrap ((P.length:Int)+((P.length+U.length+V.length:Nat):Int)))).fdiv (2^(min (1:Int).toNat IntKind.u64.bits)))=((P.length+hf:Nat):Int):=by
    rw[QO (by omega) (by omega)];omega
  rw[hmid]
  generalize he:((P.length+hf:Nat):Int)=mid
  rw[HN (n:=mid+((P.length+U.length:Nat):Int)) (by omega) (by omega),HN (n:=mid+((P.length+U.length:Nat):Int)-((P.length+U.length+V.length:Nat):Int)) (by omega) (by omega),HN (n:=mid+((P.length+U.length:Nat):Int)-1) (by omega) (by omega)]
  suffices h:G4 _ (fun r=>∃W,r=P++(W++Q)∧W.Perm (U++V)∧Srt (LtD ds) W) by
    obtain⟨r,h1,W,rfl,h2,h3⟩:=h
    exact⟨W,h1,h2,h3⟩
  refine G4.bej2 (fun st sr=>∃s0 s1:Nat,s0≤s1∧s1≤U.length∧s1≤hf∧hf≤s0+V.length∧(s0=0∨hf=s0+V.length)∧(s1=hf∨s1=U.length)∧st=((P.length+s0:Nat):Int)∧sr=((P.length+s1:Nat):Int)) ?_ ?_
  · rintro st sr ⟨s0,s1,h01,h1u,h1f,h0v,hz,ho,hst,hsr⟩
    refine QP (N:=N) (hf:=hf) hk hN hn aU aV sU sV h01 h1u h1f h0v (by omega) hst hsr fun s g0 g1 g2 g3=>?_
    obtain⟨t,ht⟩:∃t,t=hf-s:=⟨_,rfl⟩
    obtain⟨U1,U2,rfl,l1⟩:=MN U s (by omega)
    obtain⟨V1,V2,rfl,l2⟩:=MN V t (by omega)
    have hlU:(U1++U2).length=U1.length+U2.length:=List.length_append
    have hlV:(V1++V2).length=V1.length+V2.length:=List.length_append
    obtain⟨aU1,aU2⟩:=MP.app.1 aU
    obtain⟨aV1,aV2⟩:=MP.app.1 aV
    obtain⟨sU1,sU2,sU12⟩:=Iy.1 sU
    obtain⟨sV1,sV2,sV12⟩:=Iy.1 sV
    have k12:∀x∈U1,∀y∈V2,LtD ds x y:=fun x hx y hy=>by
      refine hA.lt (List.mem_append_left _ hx) (List.mem_append_right _ hy) ?_
      obtain⟨i,hi,rfl⟩:=List.getElem_of_mem hx
      obtain⟨j,hj,rfl⟩:=List.getElem_of_mem hy
      have hs0:s0<s:=by omega
      have hb:=g2 hs0
      rw[show hf-1-(s-1)=t from by omega]at hb
      have b1:=J4 sU (show i≤s-1 by omega) (by simp;omega)
      have b2:=J4 sV (show t≤t+j by omega) (by simp;omega)
      have e1:(U1++U2).getD i 0=U1[i]:=by rw[HO (by simp;omega),List.getElem_append_left hi]
      have e2:(V1++V2).getD (t+j) 0=V2[j]:=by
        rw[HO (by simp;omega),List.getElem_append_right (by omega)]
        congr 1
        omega
      rw[e1]at b1
      rw[e2]at b2
      omega
    have k21:∀y∈V1,∀x∈U2,LtD ds y x:=fun y hy x hx=>by
      obtain⟨i,hi,rfl⟩:=List.getElem_of_mem hx
      obtain⟨j,hj,rfl⟩:=List.getElem_of_mem hy
      have hs1:s<s1:=by omega
      have hb:=g3 hs1
      rw[show hf-1-s=t-1 from by omega]at hb
      have b1:=J4 sU (show s≤s+i by omega) (by simp;omega)
      have b2:=J4 sV (show j≤t-1 by omega) (by simp;omega)
      have e1:(U1++U2).getD (s+i) 0=U2[i]:=by
        rw[HO (by simp;omega),List.getElem_append_right (by omega)]
        congr 1
        omega
      have e2:(V1++V2).getD j 0=V1[j]:=by rw[HO (by simp;omega),List.getElem_append_left hj]
      rw[e1]at b1
      rw[e2]at b2
      exact RX (by omega)
    have hA1:MO ds U1 V1:=fun x hx y hy=>hA x (List.mem_append_left _ hx) y (List.mem_append_left _ hy)
    have hA2:MO ds U2 V2:=fun x hx y hy=>hA x (List.mem_append_right _ hx) y (List.mem_append_right _ hy)
    have fin2:∀W1,W1.Perm (U1++V1)→Srt (LtD ds) W1→∀W2,W2.Perm (U2++V2)→Srt (LtD ds) W2→∃W,P++W1++(W2++Q)=P++(W++Q)∧W.Perm (U1++U2++(V1++V2))∧Srt (LtD ds) W:=fun W1 p1 q1 W2 p2 q2=>by
      refine⟨W1++W2,by simp,?_,Iy.2 ⟨q1,q2,fun x hx y hy=>?_⟩⟩
      · refine(p1.append p2).trans ?_
        rw[List.append_assoc,List.append_assoc]
        refine List.Perm.append_left _ ?_
        rw[←List.append_assoc,←List.append_assoc]
        exact List.Perm.append_right _ List.perm_append_comm
      · rcases List.mem_append.1 (p1.mem_iff.1 hx)with hx|hx<;>rcases List.mem_append.1 (p2.mem_iff.1 hy)with hy|hy
        · exact sU12 x hx y hy
        · exact k12 x hx y hy
        · exact k21 x hx y hy
        · exact sV12 x hx y hy
    have hend:IntKind.i64.wrap (mid+((P.length+(U1++U2).length:Nat):Int)-((P.length+s:Nat):Int))=((P.length+(U1.length+U2.length)+t:Nat):Int):=by
      rw[HN (by omega) (by omega)];omega
    rw[hend]
    refine U6 (k:=k) (P:=P) (U1:=U1) (U2:=U2) (V1:=V1) (V2:=V2) (Q:=Q) (by omega) ⟨Nat.le_refl _,by omega⟩ (by omega) (by omega) (by omega) ?_
    refine PU hF (P:=P) (U:=U1) (V:=V1) (Q:=U2++(V2++Q)) (by omega) (by simp;omega) aU1 aV1 sU1 sV1 hA1 rfl (by omega) (by omega) fun W1 p1 q1=>?_
    have lW:W1.length=U1.length+V1.length:=by rw[p1.length_eq,List.length_append]
    have e:P++(W1++(U2++(V2++Q)))=(P++W1)++(U2++(V2++Q)):=by simp
    rw[e]
    exact PU hF (P:=P++W1) (U:=U2) (V:=V2) (Q:=Q) (j:=fun r=>cond (decide (ds=ds)) (some r) none) (by omega) (by simp;omega) aU2 aV2 sU2 sV2 hA2 (by simp;omega) (by simp;omega) (by simp;omega) fun W2 p2 q2=>R0 (fin2 W1 p1 q1 W2 p2 q2)
  · intro j hj
    refine G4.cond (fun c=>?_) fun c=>?_
    · have c:=of_decide_eq_true c
      exact hj _ _ ⟨hf-V.length,hf,by omega,by omega,by omega,by omega,by omega,by omega,by omega,by omega⟩
    · have c:=of_decide_eq_false c
      exact hj _ _ ⟨0,U.length,by omega,by omega,by omega,by omega,by omega,by omega,by omega,by omega⟩
end
end Go.Proofs.Ev
set_option linter.unusedVariables false
set_option linter.unusedSimpArgs false
set_option maxRecDepth 100000
set_option maxHeartbeats 4000000
namespace Go.Proofs.Ev
section
variable {ds:List Int}
theorem X8 {N:Nat} (hN:N≤1000000000000):∀(L k:Nat),N+21+L<k→KS ds N L (G6 k)
  |0,_,_=>fun P U V Q h hu hv=>by omega
  |L+1,0,h=>by omega
  |L+1,k+1,h=>U7 (by omega) hN (X8 hN L k (by omega))
theorem Uc {N k:Nat} (hN:N≤1000000000000) (hk:2*N+21<k) {P U V Q:List Int} (hu:1≤U.length) (hv:1≤V.length) (hn:P.length+U.length+V.length+Q.length=N) (aU:MP ds U) (aV:MP ds V) (sU:Srt (LtD ds) U) (sV:Srt (LtD ds) V) (hA:MO ds U V)
    {a m b:Int} (ha:a=P.length) (hm:m=(P.length+U.length:Nat)) (hb:b=(P.length+U.length+V.length:Nat)):Ub ds P U V Q (G6 k (P++(U++(V++Q))) a m b ds):=by
  subst ha hm hb
  exact X8 hN N k (by omega) P U V Q (by omega) hu hv hn aU aV sU sV hA
theorem Ud {R:Type} {fin:List Int→Option R} {k N:Nat} {a b i:Int} {v:Int} {P Q:List Int} {Qr:R→Prop} (hN:N≤4000000000000) (hv:InD ds v) (ha:a=P.length):∀(n:Nat) (W1 W2:List Int) (kf:Nat),W1.length=n→n<kf→P.length+W1.length+1+W2.length+Q.length=N→MP ds W1→Srt (LtD ds) (W1++W2)→MO ds W1 [v]→(∀y∈W2,LtD ds v y)→
    (∀W,W.Perm (W1++W2++[v])→Srt (LtD ds) W→G4 (fin (P++(W++Q))) Qr)→
    G4 (iter (fun u7 n7=>GU k (a,b,i,ds) u7 n7 fin) kf (((P.length+W1.length:Nat):Int),P++(W1++v::(W2++Q)))) Qr
  |_,_,_,0,_,h,_,_,_,_,_,_=>by omega
  | n, W1, W2, kf + 1, hn, hk, hl, a1, s1, hA, h2, hfin => by
    rw[HT]
    have stop:(∀x∈W1,LtD ds x v)→G4 (fin (P++(W1++v::(W2++Q)))) Qr:=fun h=>by
      have:=hfin (W1++v::W2) (by
        refine(List.perm_middle).trans ?_
        exact(List.perm_append_comm (l₁:=[v]))) (by
        rw[Iy]at s1
        exact Iy.2 ⟨s1.1,List.pairwise_cons.2 ⟨h2,s1.2.1⟩,fun x hx y hy=>(List.mem_cons.1 hy).elim (fun e=>e▸h x hx) (fun hy=>s1.2.2 x hx y hy)⟩)
      rwa [List.append_assoc]at this
    show G4 (GU k (a,b,i,ds) _ _ fin) Qr
    unfold GU
    simp only
    match n,W1,hn with
    | 0, [], _ =>
      rw[decide_eq_false (by simp;omega),cond_false]
      exact stop fun x hx=>nomatch hx
    | n + 1, W1, hn =>
      obtain⟨V1,y,V2,rfl,hl1⟩:=RW W1 n (by omega)
      have hV2:V2=[]:=List.length_eq_zero_iff.1 (by simp at hn;omega)
      subst hV2
      have hlen:(P++(V1++[y]++v::(W2++Q))).length=P.length+V1.length+2+W2.length+Q.length:=by simp;omega
      have hz:(P.length+(V1++[y]).length:Nat)=P.length+V1.length+1:=by simp;omega
      rw[hz,decide_eq_true (by omega),cond_true,HN (n:=((P.length+V1.length+1:Nat):Int)-1) (by omega) (by omega),decide_eq_true (by omega),cond_true,
        show(((P.length+V1.length+1:Nat):Int)-1).toNat=P.length+V1.length from by omega,show((P.length+V1.length+1:Nat):Int).toNat=P.length+V1.length+1 from by omega]
      have h1:(P++(V1++[y]++v::(W2++Q)))[P.length+V1.length]? =some y:=by
        rw[show P++(V1++[y]++v::(W2++Q))=(P++V1)++y::(v::(W2++Q))from by simp]
        exact Lv (by simp)
      have h3:(P++(V1++[y]++v::(W2++Q)))[P.length+V1.length+1]? =some v:=by
        rw[show P++(V1++[y]++v::(W2++Q))=(P++V1++[y])++v::(W2++Q)from by simp]
        exact Lv (by simp;omega)
      have h4:((P++(V1++[y]++v::(W2++Q))).set (P.length+V1.length+1) y).set (P.length+V1.length) v=P++(V1++v::(y::W2++Q)):=by
        rw[show P++(V1++[y]++v::(W2++Q))=(P++V1++[y])++v::(W2++Q)from by simp,Lw (by simp;omega),show P++V1++[y]++y::(W2++Q)=(P++V1)++y::(y::(W2++Q))from by simp,Lw (by simp)]
        simp
      rw[h1,h3,GS,decide_eq_true (by omega),cond_true,GS]
      have iy:InD ds y:=a1 y (by simp)
      obtain⟨r,hr,hr2⟩:=Ua (ds:=ds) (k:=k) hv iy
      rw[hr,GS]
      have a2:MP ds V1:=(MP.app.1 a1).1
      have s2:=s1
      rw[Iy,Iy]at s2
      by_cases q:r<0
      · rw [decide_eq_true q]
        simp only[cond_true,GS,h4]
        have ih:=Ud (fin:=fin) (k:=k) (N:=N) (a:=a) (b:=b) (i:=i) (v:=v) (P:=P) (Q:=Q) (Qr:=Qr) hN hv ha n V1 (y::W2) kf hl1 (by omega) (by simp;omega) a2 (by simpa using s1) (fun x hx z hz=>hA x (List.mem_append_left _ hx) z hz)
          (fun z hz=>by
            have lvy:=RX (pos:=id) (hr2.1 q)
            rcases List.mem_cons.1 hz with rfl|hz
            · exact lvy
            · exact h2 z hz)
          (fun W p s=>hfin W (by simpa using p) s)
        rw[show((P.length+V1.length+1:Nat):Int)-1=((P.length+V1.length:Nat):Int)from by omega]
        exact ih
      · rw[decide_eq_false q]
        simp only[cond_false]
        refine stop fun x hx=>?_
        have lyv:LtD ds y v:=hA.lt (by simp) (by simp) (by have:=mt hr2.2 q;omega)
        rcases List.mem_append.1 hx with hx|hx
        · exact(s2.1.2.2 x hx y (by simp)).trans lyv
        · obtain rfl:=List.mem_singleton.1 hx
          exact lyv
theorem PV {R:Type} {fin:List Int→Option R} {k N:Nat} {a b:Int} {P Q:List Int} {Qr:R→Prop} (hN:N≤4000000000000) (hkN:N+10<k) (ha:a=P.length):∀(V W:List Int) (kf:Nat),V.length<kf→b=(P.length+W.length+V.length:Nat)→P.length+W.length+V.length+Q.length=N→MP ds W→MP ds V→Srt (LtD ds) W→V.Pairwise (·<·)→(∀x∈W,∀y∈V,x<y)→
    (∀W',W'.Perm (W++V)→Srt (LtD ds) W'→G4 (fin (P++(W'++Q))) Qr)→
    G4 (iter (fun u9 n9=>GH k (a,b,ds) u9 n9 fin) kf (((P.length+W.length:Nat):Int),P++(W++(V++Q)))) Qr
  |_,_,0,h,_,_,_,_,_,_,_,_=>by omega
  | [], W, kf + 1, _, hb, hn, _, _, sW, _, _, hfin => by
    rw[HT]
    show G4 (GH k (a,b,ds) _ _ fin) Qr
    unfold GH
    simp only
    rw[decide_eq_false (by simp at hb;omega),cond_false]
    exact hfin W (by simp) sW
  | v :: V, W, kf + 1, hk, hb, hn, aW, aV, sW, iV, hWV, hfin => by
    simp only[List.length_cons]at hk hb hn
    rw[HT]
    show G4 (GH k (a,b,ds) _ _ fin) Qr
    unfold GH
    simp only
    rw[decide_eq_true (by omega),cond_true]
    have hi:=List.pairwise_cons.1 iV
    have := Ud (ds := ds) (k := k) (N := N) (a := a) (b := b) (i := ((P.length + W.length : Nat) : Int)) (v := v) (P := P) (Q := V ++ Q) (Qr := Qr) (fin := fun y6 => iter (fun u9 n9 => GH k (a, b, ds) u9 n9 fin) kf (IntKind.i64.wrap (((P.length + W.length : Nat) : Int) + 1), y6)) hN (aV v (by simp)) ha W.length W [] k rfl (by omega) (by simp; omega) aW (by simpa using sW) (fun x hx y hy _ => by obtain rfl := List.mem_singleton.1 hy; exact hWV x hx _ (by simp)) (fun y hy => nomatch hy)
      (fun W1 p1 s1=>by
        simp only[List.append_nil]at p1
        have l1:W1.length=W.length+1:=by rw[p1.length_eq];simp
        rw[HN (by omega) (by omega),show((P.length+W.length:Nat):Int)+1=((P.length+W1.length:Nat):Int)from by omega]
        refine PV hN hkN ha V W1 kf (by omega) (by omega) (by omega) (fun x hx=>?_) (fun x hx=>aV x (List.mem_cons_of_mem _ hx)) s1 hi.2 (fun x hx y hy=>?_) fun W' p s=>?_
        · rcases List.mem_append.1 (p1.mem_iff.1 hx)with h|h
          · exact aW x h
          · obtain rfl:=List.mem_singleton.1 h
            exact aV x (by simp)
        · rcases List.mem_append.1 (p1.mem_iff.1 hx)with h|h
          · exact hWV x h y (List.mem_cons_of_mem _ hy)
          · obtain rfl:=List.mem_singleton.1 h
            exact hi.1 y hy
        · exact hfin W' (p.trans (by simpa using p1.append_right V)) s)
    exact this
theorem NB {k N:Nat} {a b:Int} {P U Q:List Int} (hN:N≤4000000000000) (hkN:N+10<k) (hn:P.length+U.length+Q.length=N) (ha:a=P.length) (hb:b=(P.length+U.length:Nat)) (aU:MP ds U) (iU:U.Pairwise (·<·)):
    G4 (G9 k (P++(U++Q)) a b ds) fun r=>∃W,r=P++(W++Q)∧W.Perm U∧Srt (LtD ds) W:=by
  unfold G9
  match U with
  | [] =>
    obtain⟨kf,rfl⟩:∃kf,k=kf+1:=⟨k-1,by omega⟩
    rw[HT]
    show G4 (GH _ (a,b,ds) _ _ _) _
    unfold GH
    simp only
    rw[HN (by omega) (by omega),decide_eq_false (by simp at hb;omega),cond_false]
    exact G4.must trivial (G4.some ⟨[],rfl,.refl _,List.Pairwise.nil⟩)
  | u :: U =>
    simp only[List.length_cons]at hn hb
    have hi:=List.pairwise_cons.1 iU
    rw[HN (by omega) (by omega),show a+1=((P.length+[u].length:Nat):Int)from by simp;omega]
    exact PV (ds:=ds) (N:=N) hN hkN ha U [u] k (by omega) (by simp;omega) (by simp;omega) (fun x hx=>by obtain rfl:=List.mem_singleton.1 hx;exact aU x (by simp)) (fun x hx=>aU x (List.mem_cons_of_mem _ hx)) (List.pairwise_singleton _ _) hi.2 (fun x hx y hy=>by obtain rfl:=List.mem_singleton.1 hx;exact hi.1 y hy)
      fun W p s=>R0 ⟨W,rfl,p,s⟩
end
end Go.Proofs.Ev
set_option linter.unusedVariables false
set_option linter.unusedSimpArgs false
set_option maxRecDepth 100000
set_option maxHeartbeats 4000000
namespace Go.Proofs.Ev
section
variable {ds:List Int}
inductive Full (ds:List Int) (bs:Nat):List Int→List Int→Prop
  |nil:Full ds bs [] []
  |snoc {O A U W:List Int}:Full ds bs O A→U.length=bs→W.Perm U→Srt (LtD ds) W→Full ds bs (O++U) (A++W)
inductive R5 (ds:List Int) (bs:Nat):List Int→List Int→Prop
  |last {O L:List Int}:O.length≤bs→L.Perm O→Srt (LtD ds) L→R5 ds bs O L
  |cons {U W O L:List Int}:U.length=bs→W.Perm U→Srt (LtD ds) W→R5 ds bs O L→R5 ds bs (U++O) (W++L)
theorem Full.runs {bs:Nat} {O A:List Int} (h:Full ds bs O A):∀{O2 L:List Int},R5 ds bs O2 L→R5 ds bs (O++O2) (A++L):=by
  induction h with
  |nil=>exact fun h=>h
  | snoc _ h1 h2 h3 ih =>
    intro O2 L h
    rw[List.append_assoc,List.append_assoc]
    exact ih (.cons h1 h2 h3 h)
theorem Full.perm {bs:Nat} {O A:List Int} (h:Full ds bs O A):A.Perm O:=by
  induction h with
  |nil=>exact .refl _
  |snoc _ h1 h2 h3 ih=>exact ih.append h2
theorem R5.perm {bs:Nat} {O L:List Int} (h:R5 ds bs O L):L.Perm O:=by
  induction h with
  |last _ h _=>exact h
  |cons _ h2 _ _ ih=>exact h2.append ih
theorem R5.all {bs:Nat} {O L:List Int} (h:R5 ds bs O L) (hs:O.length≤bs):Srt (LtD ds) L:=by
  cases h with
  |last _ _ h=>exact h
  | cons h1 h2 h3 h4 =>
    rename_i U W O L
    rw[List.length_append]at hs
    have hO:O=[]:=List.length_eq_zero_iff.1 (by omega)
    have hL:L=[]:=List.length_eq_zero_iff.1 (by rw[h4.perm.length_eq,hO];rfl)
    rw[hL,List.append_nil]
    exact h3
theorem R5.cut {bs:Nat} {O L:List Int} (h:R5 ds bs O L) (hs:bs≤O.length):∃U W O2 L2,O=U++O2∧L=W++L2∧U.length=bs∧W.Perm U∧Srt (LtD ds) W∧R5 ds bs O2 L2:=by
  cases h with
  |last h1 h2 h3=>exact⟨O,L,[],[],by simp,by simp,by omega,h2,h3,.last (by simp) (.refl _) List.Pairwise.nil⟩
  |cons h1 h2 h3 h4=>exact⟨_,_,_,_,rfl,rfl,h1,h2,h3,h4⟩
structure R1 (ds O:List Int):Prop where
  all:MP ds O
  inc:O.Pairwise (·<·)
theorem R1.right {A B:List Int} (h:R1 ds (A++B)):R1 ds B:=⟨(MP.app.1 h.all).2,(List.pairwise_append.1 h.inc).2.1⟩
theorem R1.left {A B:List Int} (h:R1 ds (A++B)):R1 ds A:=⟨(MP.app.1 h.all).1,(List.pairwise_append.1 h.inc).1⟩
theorem R1.ahead {A B W V:List Int} (h:R1 ds (A++B)) (hW:W.Perm A) (hV:V.Perm B):MO ds W V:=fun x hx y hy _=>(List.pairwise_append.1 h.inc).2.2 x (hW.mem_iff.1 hx) y (hV.mem_iff.1 hy)
theorem MP.perm {A B:List Int} (h:MP ds B) (hp:A.Perm B):MP ds A:=fun x hx=>h x (hp.mem_iff.1 hx)
theorem R2 {R:Type} {fin:Int× List Int→Option R} {k N:Nat} {Qr:R→Prop} {O:List Int} (hN:N≤1000000000000) (hkN:2*N+100<k) (hO:R1 ds O) (hl:O.length=N)
    (hfin:∀O1 A B,O=O1++B→Full ds 20 O1 A→B.length<20→G4 (fin ((A.length:Int),A++B)) Qr):
    G4 (iter (fun u10 n10=>G7 k ((N:Int),(20:Int),ds) u10 n10 fin) k ((0:Int),(20:Int),O)) Qr:=by
  refine G4.iter (Inv:=fun v=>∃O1 A B,O=O1++B∧Full ds 20 O1 A∧v=((A.length:Int),(A.length:Int)+20,A++B)) (m:=fun v=>N-v.1.toNat) ?_ k _ ⟨[],[],O,rfl,.nil,rfl⟩ (by simp only;omega)
  rintro v next ⟨O1,A,B,hO1,hF,rfl⟩ hn
  unfold G7
  simp only
  have hp:=hF.perm.length_eq
  have hN1:A.length+B.length=N:=by rw[←hl,hO1,List.length_append];omega
  refine G4.cond (fun c=>?_) fun c=>?_
  · have c:=of_decide_eq_true c
    obtain⟨U,B2,rfl,hU⟩:=MN B 20 (by omega)
    have oB:R1 ds (U++B2):=by rw[hO1]at hO;exact hO.right
    rw[List.length_append]at hN1
    have:=NB (ds:=ds) (k:=k) (N:=N) (a:=(A.length:Int)) (b:=(A.length:Int)+20) (P:=A) (U:=U) (Q:=B2) (by omega) (by omega) (by omega) rfl (by omega) oB.left.all oB.left.inc
    refine G4.bind this ?_
    rintro r ⟨W,rfl,h1,h2⟩
    have lW:=h1.length_eq
    refine hn _ ⟨O1++U,A++W,B2,by rw[hO1];simp,.snoc hF hU h1 h2,?_⟩ (by simp only;omega)
    rw[HN (by omega) (by omega),List.length_append,List.append_assoc]
    congr 1
    · omega
    · congr 1;omega
  · have c:=of_decide_eq_false c
    exact hfin O1 A B hO1 hF (by omega)
theorem U8 {R:Type} {fin:Int× List Int→Option R} {k N bs:Nat} {Qr:R→Prop} {O L:List Int} (hN:N≤1000000000000) (hkN:2*N+100<k) (hO:R1 ds O) (hl:O.length=N) (hb:1≤bs) (hbN:bs≤N) (hL:R5 ds bs O L)
    (hfin:∀O1 A O2 B,O=O1++O2→Full ds (2*bs) O1 A→R5 ds bs O2 B→O2.length<2*bs→G4 (fin ((A.length:Int),A++B)) Qr):
    G4 (iter (fun u7 n7=>G8 k ((N:Int),(bs:Int),ds) u7 n7 fin) k ((0:Int),IntKind.i64.wrap ((2:Int)*(bs:Int)),L)) Qr:=by
  rw[HN (by omega) (by omega)]
  refine G4.iter (Inv:=fun v=>∃O1 A O2 B,O=O1++O2∧Full ds (2*bs) O1 A∧R5 ds bs O2 B∧v=((A.length:Int),(A.length:Int)+2*bs,A++B)) (m:=fun v=>N-v.1.toNat) ?_ k _ ⟨[],[],O,L,rfl,.nil,hL,by simp⟩ (by simp only;omega)
  rintro v next ⟨O1,A,O2,B,hO1,hF,hR,rfl⟩ hn
  unfold G8
  simp only
  have hp:=hF.perm.length_eq
  have hq:=hR.perm.length_eq
  have hN1:A.length+B.length=N:=by rw[←hl,hO1,List.length_append];omega
  refine G4.cond (fun c=>?_) fun c=>?_
  · have c:=of_decide_eq_true c
    obtain⟨U,W,O3,B3,rfl,rfl,hU,pU,sU,hR2⟩:=hR.cut (by omega)
    have hq2:=hR2.perm.length_eq
    have lU:=pU.length_eq
    have lB:(W++B3).length=W.length+B3.length:=List.length_append
    obtain⟨U2,W2,O4,B4,rfl,rfl,hU2,pU2,sU2,hR4⟩:=hR2.cut (by omega)
    have lU2:=pU2.length_eq
    have lB2:(W2++B4).length=W2.length+B4.length:=List.length_append
    have oB:R1 ds (U++(U2++O4)):=by rw[hO1]at hO;exact hO.right
    have oB2:R1 ds (U++U2):=by rw[←List.append_assoc]at oB;exact oB.left
    obtain⟨V,e,pV,sV⟩:=Uc (ds:=ds) (k:=k) (N:=N) hN (by omega) (P:=A) (U:=W) (V:=W2) (Q:=B4) (by omega) (by omega) (by omega) (oB.left.all.perm pU) (oB.right.left.all.perm pU2) sU sU2 (oB2.ahead pU pU2) (a:=(A.length:Int)) (m:=(A.length:Int)+(bs:Int)) (b:=(A.length:Int)+2*bs) rfl (by omega) (by omega)
    rw[HN (n:=(A.length:Int)+(bs:Int)) (by omega) (by omega),e,GS]
    have lV:=pV.length_eq
    rw[List.length_append]at lV
    refine hn _ ⟨O1++(U++U2),A++V,O4,B4,by rw[hO1];simp,.snoc hF (by simp;omega) (pV.trans (pU.append pU2)) sV,hR4,?_⟩ (by simp only;omega)
    rw[HN (n:=(2:Int)*(bs:Int)) (by omega) (by omega),HN (by omega) (by omega),List.length_append,List.append_assoc]
    congr 1
    · omega
    · congr 1;omega
  · have c:=of_decide_eq_false c
    have:O2.length=B.length:=hq.symm
    exact hfin O1 A O2 B hO1 hF hR (by omega)
theorem WT {k N:Nat} {O:List Int} (hN:N≤1000000000000) (hkN:2*N+100<k) (hO:R1 ds O) (hl:O.length=N):
    G4 (Hr k O (N:Int) ds) fun r=>r.Perm O∧Srt (LtD ds) r:=by
  unfold Hr
  refine R2 hN hkN hO hl fun O1 A B hO1 hF hB=>?_
  have hp:=hF.perm.length_eq
  have hN1:A.length+B.length=N:=by rw[←hl,hO1,List.length_append];omega
  have oB:R1 ds B:=by rw[hO1]at hO;exact hO.right
  have h1:=NB (ds:=ds) (k:=k) (N:=N) (a:=(A.length:Int)) (b:=(N:Int)) (P:=A) (U:=B) (Q:=[]) (by omega) (by omega) (by simp;omega) rfl (by omega) oB.all oB.inc
  rw[List.append_nil]at h1
  refine G4.bind h1 ?_
  rintro r ⟨W,rfl,pW,sW⟩
  refine G4.iter (Inv:=fun v=>∃(bs:Nat) (L:List Int),v=((bs:Int),L)∧1≤bs∧R5 ds bs O L) (m:=fun v=>N-v.1.toNat) ?_ k _ ⟨20,A++(W++[]),rfl,by omega,by rw[List.append_nil,hO1];exact hF.runs (.last (by omega) pW sW)⟩ (by simp only;omega)
  rintro v next ⟨bs,L,rfl,hb,hR⟩ hn
  unfold Hc
  simp only
  refine G4.cond (fun c=>?_) fun c=>?_
  · have c:=of_decide_eq_true c
    refine U8 hN hkN hO hl hb (by omega) hR fun O1 A O2 B hO1 hF hR2 hs=>?_
    have hp:=hF.perm.length_eq
    have hq:=hR2.perm.length_eq
    have hN1:A.length+B.length=N:=by rw[←hl,hO1,List.length_append];omega
    have oB:R1 ds O2:=by rw[hO1]at hO;exact hO.right
    simp only
    rw[HN (n:=(A.length:Int)+(bs:Int)) (by omega) (by omega),HN (n:=(bs:Int)*2) (by omega) (by omega),show(bs:Int)*2=((2*bs:Nat):Int)from by omega]
    refine G4.cond (fun c=>?_) fun c=>?_
    · have c:=of_decide_eq_true c
      obtain⟨U,W,O3,B3,rfl,rfl,hU,pU,sU,hR3⟩:=hR2.cut (by omega)
      have hq2:=hR3.perm.length_eq
      have lU:=pU.length_eq
      have lB:(W++B3).length=W.length+B3.length:=List.length_append
      have lO:(U++O3).length=U.length+O3.length:=List.length_append
      have sB:=hR3.all (by omega)
      obtain⟨V,e,pV,sV⟩:=Uc (ds:=ds) (k:=k) (N:=N) hN (by omega) (P:=A) (U:=W) (V:=B3) (Q:=[]) (by omega) (by omega) (by simp;omega) (oB.left.all.perm pU) (oB.right.all.perm hR3.perm) sU sB (oB.ahead pU hR3.perm) (a:=(A.length:Int)) (m:=(A.length:Int)+(bs:Int)) (b:=(N:Int)) rfl (by omega) (by omega)
      rw[List.append_nil]at e
      rw[e,GS,List.append_nil]
      exact hn _ ⟨2*bs,A++V,rfl,by omega,by rw[hO1];exact hF.runs (.last (by omega) (pV.trans (pU.append hR3.perm)) sV)⟩ (by simp only;omega)
    · have c:=of_decide_eq_false c
      exact hn _ ⟨2*bs,A++B,rfl,by omega,by rw[hO1];exact hF.runs (.last (by omega) hR2.perm (hR2.all (by omega)))⟩ (by simp only;omega)
  · have c:=of_decide_eq_false c
    exact G4.must (by trivial) (G4.some ⟨hR.perm,hR.all (by omega)⟩)
def upto (n:Nat):List Int:=(List.range n).map Int.ofNat
theorem MQ (n:Nat):upto (n+1)=upto n++[(n:Int)]:=by unfold upto;rw[List.range_succ,List.map_append];rfl
theorem LO (n:Nat):(upto n).length=n:=by simp[upto]
theorem NU {n:Nat} {x:Int}:x∈upto n↔0≤x∧x<n:=by
  unfold upto
  rw[List.mem_map]
  constructor
  · rintro ⟨i,hi,rfl⟩
    rw[List.mem_range]at hi
    simp;omega
  · rintro ⟨h0,h1⟩
    exact⟨x.toNat,List.mem_range.2 (by omega),by simp;omega⟩
theorem Ue:∀n,(upto n).Pairwise (·<·)
  |0=>List.Pairwise.nil
  | n + 1 => by
    rw[MQ,List.pairwise_append]
    exact⟨Ue n,List.pairwise_singleton _ _,fun x hx y hy=>by obtain rfl:=List.mem_singleton.1 hy;exact(NU.1 hx).2⟩
theorem WU:R1 ds (upto ds.length):=⟨fun x hx=>NU.1 hx,Ue _⟩
end
end Go.Proofs.Ev
set_option linter.unusedVariables false
set_option linter.unusedSimpArgs false
set_option maxRecDepth 100000
set_option maxHeartbeats 4000000
namespace Go.Proofs.Ev
section
variable {ds:List Int} {k:Nat}
theorem O5 (hn:ds.length≤1048576) (hk:2*ds.length+100<k):G4 (Hj k ds) fun r=>r.Perm (upto ds.length)∧Srt (LtD ds) r:=by
  have hM:=Nq
  unfold Hj
  refine G4.iter (Inv:=fun v=>∃i,i≤ds.length∧v=((i:Int),upto i)) (m:=fun v=>ds.length-v.1.toNat) ?_ k _ ⟨0,by omega,rfl⟩ (by simp only;omega)
  rintro v next ⟨i,hi,rfl⟩ hnx
  unfold Hd
  simp only
  refine G4.cond (fun c=>?_) fun c=>?_
  · have c:=of_decide_eq_true c
    refine G4.ble (by rw[LO];simp;omega) ?_
    rw[HN (by omega) (by omega)]
    exact hnx _ ⟨i+1,by omega,by rw[MQ];rfl⟩ (by simp only;omega)
  · have c:=of_decide_eq_false c
    obtain rfl:i=ds.length:=by omega
    unfold Hs
    rw[LO]
    refine G4.bind (G4.bind (WT (ds:=ds) (k:=k) (N:=ds.length) (by omega) hk WU (LO _)) fun r h=>?_) fun r h=>G4.some h
    exact G4.must (by trivial) (G4.some h)
theorem MR (hn:ds.length≤1048576) (hk:2*ds.length+100<k):G4 (IC k ds) fun r=>r.Perm (upto ds.length)∧Srt (LtD ds) r:=by
  unfold IC
  exact G4.bind (O5 hn hk) fun r h=>G4.some h
theorem U9 {R:Type} {i:Nat} {out:List Int} {fin:Bool× List Int→Option R} {Q:R→Prop} (hi:i<ds.length) (hp:out.Perm (upto i)) (hs:Srt (LtD ds) out) (hN:ds.length≤1048576) (hk:ds.length+10<k)
    (h0:(∀x∈out,Jq ds x≤Jq ds i)→G4 (fin (false,out)) Q) (h1:∀A B,out=A++B→(∀x∈A,Jq ds x≤Jq ds i)→(∀x∈B,Jq ds i<Jq ds x)→G4 (fin (true,A++(i:Int)::B)) Q):
    G4 (iter (fun u8 n8=>Iq k (ds,(i:Int),out) u8 n8 fin) k (false,(0:Int),([]:List Int))) Q:=by
  have hM:=Nq
  have lo:out.length=i:=by rw[hp.length_eq,LO]
  refine G4.iter (Inv:=fun v=>∃X Y acc,out=X++Y∧v=(v.1,(X.length:Int),acc)∧((v.1=false∧acc=X∧∀x∈X,Jq ds x≤Jq ds i)∨(v.1=true∧∃A B,X=A++B∧acc=A++(i:Int)::B∧(∀x∈A,Jq ds x≤Jq ds i)∧∀x∈B++Y,Jq ds i<Jq ds x)))
    (m:=fun v=>out.length-v.2.1.toNat) ?_ k _ ⟨[],out,[],rfl,rfl,.inl ⟨rfl,rfl,fun x hx=>nomatch hx⟩⟩ (by simp only;omega)
  rintro ⟨b,j,acc'⟩ next ⟨X,Y,acc,hXY,hv,hinv⟩ hnx
  simp only[Prod.mk.injEq,true_and]at hv hinv
  obtain⟨rfl,rfl⟩:=hv
  unfold Iq
  simp only
  have lXY:X.length+Y.length=i:=by rw[←lo,hXY,List.length_append]
  match Y,hXY,hinv,lXY with
  | [], hXY, hinv, lXY =>
    rw[List.append_nil]at hXY
    subst hXY
    rw[decide_eq_false (by omega),cond_false]
    rcases hinv with⟨rfl,rfl,h⟩|⟨rfl,A,B,rfl,rfl,hA,hB⟩
    · exact h0 h
    · rw[List.append_nil]at hB
      exact h1 A B rfl hA hB
  | y :: Y, hXY, hinv, lXY =>
    simp only[List.length_cons]at lXY
    have hj:((X.length:Int)<(out.length:Int)):=by omega
    have hy:y∈out:=by rw[hXY];simp
    have iy:InD ds y:=by have:=NU.1 (hp.mem_iff.1 hy);exact⟨this.1,by omega⟩
    have ey:out[(X.length:Int).toNat]? =some y:=by
      rw[hXY]
      exact Lv (by omega)
    have eX:X++y::Y=(X++[y])++Y:=by simp
    have kj:IntKind.i64.wrap ((X.length:Int)+1)=((X++[y]).length:Int):=by rw[HN (by omega) (by omega),List.length_append];simp
    rw[decide_eq_true hj,cond_true,kj]
    have e1:idx ds (i:Int)=some (Jq ds i):=by rw[OJ,J2 hi];unfold Jq;rw[show((i:Int)).toNat=i from by omega,HO hi]
    have e2:idx ds y=some (Jq ds y):=by
      unfold InD at iy
      rw[Tf _ iy.1,J2 (by omega)];unfold Jq;rw[HO (by omega)]
    have go:∀(b:Bool) (a2:List Int),((b=false∧a2=X++[y]∧∀x∈X++[y],Jq ds x≤Jq ds i)∨(b=true∧∃A B,X++[y]=A++B∧a2=A++(i:Int)::B∧(∀x∈A,Jq ds x≤Jq ds i)∧∀x∈B++Y,Jq ds i<Jq ds x))→G4 (next (b,((X++[y]).length:Int),a2)) Q:=fun b a2 h=>
      hnx _ ⟨X++[y],Y,a2,by rw[hXY,eX],rfl,h⟩ (by simp only[List.length_append,List.length_cons,List.length_nil];omega)
    rcases hinv with⟨rfl,rfl,h⟩|⟨rfl,A,B,rfl,rfl,hA,hB⟩
    · simp only[Bool.not_false,cond_true]
      rw[e1,GS,decide_eq_true (by omega),cond_true,ey,GS,e2,GS]
      refine G4.cond (fun c=>?_) fun c=>?_
      · have c:=of_decide_eq_true c
        refine G4.ble (by simp;omega) ?_
        simp only[cond_true,GS]
        refine G4.ble (by simp;omega) ?_
        refine go _ _ (.inr ⟨rfl,acc',[y],rfl,by simp,h,fun x hx=>?_⟩)
        have hs2:=hs
        rw[hXY,Iy]at hs2
        rcases List.mem_cons.1 (show x∈y::Y from hx)with rfl|hx
        · exact c
        · have:=((List.pairwise_cons.1 hs2.2.1).1 x hx).le
          omega
      · have c:=of_decide_eq_false c
        simp only[cond_true,GS]
        refine G4.ble (by simp;omega) ?_
        refine go _ _ (.inl ⟨rfl,rfl,fun x hx=>?_⟩)
        rcases List.mem_append.1 hx with hx|hx
        · exact h x hx
        · obtain rfl:=List.mem_singleton.1 hx
          omega
    · simp only[Bool.not_true,cond_false]
      rw[decide_eq_true (by omega),cond_true,ey,GS]
      simp only[List.length_append]at lXY
      refine G4.ble (by simp;omega) ?_
      refine go _ _ (.inr ⟨rfl,A,B++[y],by simp,by simp,hA,fun x hx=>hB x (by simpa using hx)⟩)
theorem NH (hn:ds.length≤1048576) (hk:ds.length+10<k):G4 (LN k ds) fun r=>r.Perm (upto ds.length)∧Srt (LtD ds) r:=by
  have hM:=Nq
  unfold LN
  refine G4.iter (Inv:=fun v=>∃(i:Nat) (W:List Int),i≤ds.length∧v=((i:Int),W)∧W.Perm (upto i)∧Srt (LtD ds) W) (m:=fun v=>ds.length-v.1.toNat) ?_ k _ ⟨0,[],by omega,rfl,.refl _,List.Pairwise.nil⟩ (by simp only;omega)
  rintro v next ⟨i,W,hi,rfl,hp,hs⟩ hnx
  unfold IW
  simp only
  have lo:W.length=i:=by rw[hp.length_eq,LO]
  have hlt:∀x∈W,x<(i:Int):=fun x hx=>(NU.1 (hp.mem_iff.1 hx)).2
  have lt1:∀x∈W,Jq ds x≤Jq ds i→LtD ds x i:=fun x hx h=>by
    have:=hlt x hx
    unfold LtD Lt
    simp only[id]
    omega
  refine G4.cond (fun c=>?_) fun c=>?_
  · have c:=of_decide_eq_true c
    rw[HN (n:=(i:Int)+1) (by omega) (by omega),show(i:Int)+1=((i+1:Nat):Int)from by omega]
    refine U9 (by omega) hp hs hn hk (fun h=>?_) fun A B e hA hB=>?_
    · simp only[Bool.not_false,cond_true]
      refine G4.ble (by simp;omega) ?_
      refine hnx _ ⟨i+1,W++[(i:Int)],by omega,rfl,by rw[MQ];exact hp.append_right _,Iy.2 ⟨hs,List.pairwise_singleton _ _,fun x hx y hy=>?_⟩⟩ (by simp only;omega)
      obtain rfl:=List.mem_singleton.1 hy
      exact lt1 x hx (h x hx)
    · simp only[Bool.not_true,cond_false]
      subst e
      have hs2:=Iy.1 hs
      refine hnx _ ⟨i+1,A++(i:Int)::B,by omega,rfl,?_,Iy.2 ⟨hs2.1,List.pairwise_cons.2 ⟨fun y hy=>RX (hB y hy),hs2.2.1⟩,fun x hx y hy=>?_⟩⟩ (by simp only;omega)
      · rw[MQ]
        refine(List.perm_middle).trans ?_
        exact(List.perm_append_comm (l₁:=[(i:Int)])).trans (hp.append_right _)
      · rcases List.mem_cons.1 hy with rfl|hy
        · exact lt1 x (List.mem_append_left _ hx) (hA x hx)
        · exact hs2.2.2 x hx y hy
  · have c:=of_decide_eq_false c
    obtain rfl:i=ds.length:=by omega
    exact G4.some ⟨hp,hs⟩
theorem Va (hn:ds.length≤1048576) (hk:2*ds.length+100<k):∃r,J3 k ds=some r∧IC k ds=some r∧r.length=ds.length:=by
  obtain⟨r,h1,p1,s1⟩:=NH hn (show ds.length+10<k by omega)
  obtain⟨r2,h2,p2,s2⟩:=MR hn hk
  obtain rfl:=ZC s1 s2 (p1.trans p2.symm)
  refine⟨r,?_,h2,by rw[p1.length_eq,LO]⟩
  unfold J3
  rw[h1];rfl
end
theorem KY (xs:List Int) (hx:okS okI xs):∃k,HK k xs=some true:=by
  have hM:=Nq
  have hL:=hx.1
  refine⟨2*xs.length+200,?_⟩
  unfold HK
  by_cases c:(xs.length:Int)>1048576
  · rw[decide_eq_true c];rfl
  rw[decide_eq_false c,cond_false]
  obtain⟨r,h1,h2,hr⟩:=Va (ds:=xs) (k:=2*xs.length+200) (by omega) (by omega)
  rw[Th (by omega) (by omega),GS,h1,GS]
  simp only[GS,h2]
  rw[ON (by omega) (by omega),GS,decide_eq_true rfl]
  simp only[Bool.not_true,cond_false]
  rw[ON (by omega) (by omega),GS,decide_eq_true rfl]
  simp only[Bool.not_true,cond_false]
  rw[MM (by omega) (by omega) (by omega),GS]
  simp only
  rw[decide_eq_false (by omega),cond_false]
  rw[MM (by omega) (by omega) (by omega),GS]
  simp only[GS]
  rw[QN (by omega) (by omega) (by omega)]
  simp only[GS]
  rw[decide_eq_false (by omega),cond_false]
  simp
end Go.Proofs.Ev
