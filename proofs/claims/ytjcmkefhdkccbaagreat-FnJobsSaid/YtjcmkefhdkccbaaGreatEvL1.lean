/- Typed functions and what holds of them: part 1. -/
import Derived.Test.YtjcmkefhdkccbaaGreatEvK6
import Derived.Test.YtjcmkefhdkccbaaGreatEvK7
set_option linter.unusedVariables false
set_option linter.unusedSimpArgs false
set_option linter.unusedVariables false
set_option linter.unusedSimpArgs false
set_option maxRecDepth 100000
namespace Go.Proofs.Ev
noncomputable section
def dh {ρ:Type} (k:Nat) (p:List Int) (v:Int× List Int) (next:(Int× List Int)→Option ρ) (x0:(List Int)→Option ρ):Option ρ:=
  cond (decide (v.1<(p.length:Int))) ((idx p v.1).bind fun e1=>cond (Nat.ble (v.2.length+[e1].length) b7) (next (IntKind.i64.wrap (v.1+(1:Int)),v.2++[e1])) none) (x0 v.2)
def mS (k:Nat) (a0:List Int):Option (List Int):=
  iter (fun u3 n3=>dh k a0 u3 n3 (fun y2=>some y2)) k ((0:Int),([]:List Int))
def mT (k:Nat) (a0:al):Option (al):=
  (mS k a0.data).bind fun r1=>some (⟨a0.sh,r1⟩:al)
def bI (k:Nat) (a0:Int) (a1:Int) (a2:Int):Option (Bool):=
  cond (decide (a1≤a0)) (some (decide (a0≤a2))) (some false)
def fQ (k:Nat) (a0:Shape):Option (Bool):=
  (bI k a0.h (1:Int) (8:Int)).bind fun r1=>cond (r1) ((bI k a0.w (1:Int) (8:Int)).bind fun r2=>cond (r2) ((bI k a0.c (1:Int) (8:Int)).bind fun r3=>some r3) (some false)) (some false)
def bg (k:Nat) (a0:Shape):Option (Int):=
  (fQ k a0).bind fun r1=>cond (!r1) (some (0:Int)) (some (IntKind.i64.wrap ((IntKind.i64.wrap (a0.h*a0.w))*a0.c)))
def dM (k:Nat) (a0:Int):Option (Bool):=
  (bI k a0 (-128:Int) (127:Int)).bind fun r1=>some r1
def dy {ρ:Type} (k:Nat) (p:Int× Int× Int× List Int) (v:Int) (next:Int→Option ρ) (x0:Unit→Option ρ) (xret:Bool→Option ρ):Option ρ:=
  cond (decide (v<(p.2.2.2.length:Int))) ((idx p.2.2.2 v).bind fun e3=>(dM k e3).bind fun r4=>cond (!r4) (xret false) (next (IntKind.i64.wrap (v+(1:Int))))) (x0 ())
def fo (k:Nat) (a0:al):Option (Bool):=
  (fQ k a0.sh).bind fun r1=>cond (!r1) (some false) ((bg k a0.sh).bind fun r2=>cond ((a0.data.length:Int) !=r2) (some false) (iter (fun u7 n7=>dy k (a0.sh.h,a0.sh.w,a0.sh.c,a0.data) u7 n7 (fun y5=>some true) (fun y6=>some y6)) k (0:Int)))
def bB (k:Nat) (a0:List Int):Option (List Int):=
  cond (isNil a0) (both (some ([]:List Int)) (cond (Nat.ble (([]:List Int).length+a0.length) b7) (some (([]:List Int)++a0)) none)) (cond (Nat.ble (([]:List Int).length+a0.length) b7) (some (([]:List Int)++a0)) none)
def eR (k:Nat) (a0:al):Option (al):=
  (bB k a0.data).bind fun r1=>some (⟨a0.sh,r1⟩:al)
def vh (k:Nat) (a0:Int) (a1:Int) (a2:Int):Option (Bool):=
  cond (decide (a1≤a0)) (some (decide (a0≤a2))) (some false)
def iX (k:Nat) (a0:Shape):Option (Bool):=
  (vh k a0.h (1:Int) (8:Int)).bind fun r1=>cond (r1) ((vh k a0.w (1:Int) (8:Int)).bind fun r2=>cond (r2) ((vh k a0.c (1:Int) (8:Int)).bind fun r3=>some r3) (some false)) (some false)
def fF (k:Nat) (a0:Shape):Option (Int):=
  (iX k a0).bind fun r1=>cond (!r1) (some (0:Int)) (some (IntKind.i64.wrap ((IntKind.i64.wrap (a0.h*a0.w))*a0.c)))
def jI (k:Nat) (a0:Int):Option (Bool):=
  (vh k a0 (-128:Int) (127:Int)).bind fun r1=>some (!r1)
def aA {ρ:Type} (k:Nat) (p:List Int× Int) (v:Int) (next:Int→Option ρ) (x0:Unit→Option ρ) (xret:Int→Option ρ):Option ρ:=
  cond (decide (v<p.2)) ((idx p.1 v).bind fun e1=>(jI k e1).bind fun r2=>cond (r2) (xret v) (next (IntKind.i64.wrap (v+(1:Int))))) (x0 ())
def aV (k:Nat) (a0:List Int):Option (Int):=
  iter (fun u5 n5=>aA k (a0,(a0.length:Int)) u5 n5 (fun y3=>some (-1:Int)) (fun y4=>some y4)) k (0:Int)
def aQ (k:Nat) (a0:List Int):Option (Bool):=
  (aV k a0).bind fun r1=>some (decide (r1≥(0:Int)))
def iY (k:Nat) (a0:List Int):Option (Bool):=
  (aQ k a0).bind fun r1=>some (!r1)
def gw (k:Nat) (a0:al):Option (Bool):=
  (iX k a0.sh).bind fun r1=>cond (r1) ((fF k a0.sh).bind fun r2=>cond ((a0.data.length:Int)==r2) ((iY k a0.data).bind fun r3=>some r3) (some false)) (some false)
def bT {ρ:Type} (k:Nat) (p:List Int× List Int× Int) (v:Int) (next:Int→Option ρ) (x0:Unit→Option ρ) (xret:Bool→Option ρ):Option ρ:=
  cond (decide (v<p.2.2)) ((idx p.1 v).bind fun e1=>(idx p.2.1 v).bind fun e2=>cond (e1 !=e2) (xret false) (next (IntKind.i64.wrap (v+(1:Int))))) (x0 ())
def di (k:Nat) (a0:List Int) (a1:List Int):Option (Bool):=
  cond ((a0.length:Int) !=(a1.length:Int)) (some false) (iter (fun u5 n5=>bT k (a0,a1,(a0.length:Int)) u5 n5 (fun y3=>some true) (fun y4=>some y4)) k (0:Int))
def gd (k:Nat) (a0:al) (a1:al):Option (Bool):=
  cond (cond (a0.sh.h==a1.sh.h) (cond (a0.sh.w==a1.sh.w) (cond (a0.sh.c==a1.sh.c) (true) false) false) false) ((di k a0.data a1.data).bind fun r1=>some r1) (some false)
end
end Go.Proofs.Ev
set_option linter.unusedVariables false
set_option linter.unusedSimpArgs false
set_option maxRecDepth 100000
namespace Go.Proofs.Ev
noncomputable section
end
end Go.Proofs.Ev
set_option linter.unusedVariables false
set_option linter.unusedSimpArgs false
set_option maxRecDepth 100000
namespace Go.Proofs.Ev
noncomputable section
def cn {ρ:Type} (k:Nat) (p:Int× Int× Int× Int× Int× Int× Int× List Int× List Int) (v:Int) (next:Int→Option ρ) (x0:Unit→Option ρ) (xret:Bool→Option ρ):Option ρ:=
  cond (decide (v<(p.2.2.2.2.2.2.2.2.length:Int))) ((idx p.2.2.2.2.2.2.2.2 v).bind fun e7=>(bI k e7 (-1000000:Int) (1000000:Int)).bind fun r8=>cond (!r8) (xret false) (next (IntKind.i64.wrap (v+(1:Int))))) (x0 ())
def cp {ρ:Type} (k:Nat) (p:Int× Int× Int× Int× Int× Int× Int× List Int× List Int) (v:Int) (next:Int→Option ρ) (x2:Unit→Option ρ) (xret:Bool→Option ρ):Option ρ:=
  cond (decide (v<(p.2.2.2.2.2.2.2.1.length:Int))) ((idx p.2.2.2.2.2.2.2.1 v).bind fun e10=>(dM k e10).bind fun r11=>cond (!r11) (xret false) (next (IntKind.i64.wrap (v+(1:Int))))) (x2 ())
def lh (k:Nat) (a0:ag) (a1:Bool) (a2:Bool):Option (Bool):=
  cond (a1) ((bI k a0.size (1:Int) (3:Int)).bind fun r1=>cond (!r1) (some false) ((bI k a0.step (1:Int) (2:Int)).bind fun r2=>cond (!r2) (some false) (cond (a2) ((bI k a0.out (1:Int) (8:Int)).bind fun r3=>cond (!r3) (some false) ((bI k a0.mult (0:Int) (2147483647:Int)).bind fun r4=>cond (!r4) (some false) ((bI k a0.shift (0:Int) (31:Int)).bind fun r5=>cond (!r5) (some false) ((dM k a0.zero).bind fun r6=>cond (!r6) (some false) (cond ((a0.fX.length:Int) !=a0.out) (some false) (iter (fun u16 n16=>cn k (a0.kind,a0.out,a0.size,a0.step,a0.mult,a0.shift,a0.zero,a0.weights,a0.fX) u16 n16 (fun y9=>iter (fun u14 n14=>cp k (a0.kind,a0.out,a0.size,a0.step,a0.mult,a0.shift,a0.zero,a0.weights,a0.fX) u14 n14 (fun y12=>some true) (fun y13=>some y13)) k (0:Int)) (fun y15=>some y15)) k (0:Int))))))) (cond (a0.out !=(0:Int)) (some false) (cond (a0.mult !=(0:Int)) (some false) (cond (a0.shift !=(0:Int)) (some false) (cond (decide ((a0.weights.length:Int)>(0:Int))) (some false) (cond (decide ((a0.fX.length:Int)>(0:Int))) (some false) (cond (a0.kind==(4:Int)) ((dM k a0.zero).bind fun r17=>some r17) (some (a0.zero==(0:Int)))))))))))) (cond (a0.size !=(0:Int)) (some false) (cond (a0.step !=(0:Int)) (some false) (cond (a2) ((bI k a0.out (1:Int) (8:Int)).bind fun r18=>cond (!r18) (some false) ((bI k a0.mult (0:Int) (2147483647:Int)).bind fun r19=>cond (!r19) (some false) ((bI k a0.shift (0:Int) (31:Int)).bind fun r20=>cond (!r20) (some false) ((dM k a0.zero).bind fun r21=>cond (!r21) (some false) (cond ((a0.fX.length:Int) !=a0.out) (some false) (iter (fun u31 n31=>cn k (a0.kind,a0.out,a0.size,a0.step,a0.mult,a0.shift,a0.zero,a0.weights,a0.fX) u31 n31 (fun y24=>iter (fun u29 n29=>cp k (a0.kind,a0.out,a0.size,a0.step,a0.mult,a0.shift,a0.zero,a0.weights,a0.fX) u29 n29 (fun y27=>some true) (fun y28=>some y28)) k (0:Int)) (fun y30=>some y30)) k (0:Int))))))) (cond (a0.out !=(0:Int)) (some false) (cond (a0.mult !=(0:Int)) (some false) (cond (a0.shift !=(0:Int)) (some false) (cond (decide ((a0.weights.length:Int)>(0:Int))) (some false) (cond (decide ((a0.fX.length:Int)>(0:Int))) (some false) (cond (a0.kind==(4:Int)) ((dM k a0.zero).bind fun r32=>some r32) (some (a0.zero==(0:Int))))))))))))
def fq (k:Nat) (a0:Shape) (a1:ag):Option (Shape× Bool):=
  (fQ k a0).bind fun r1=>cond (!r1) (some ((⟨(0:Int),(0:Int),(0:Int)⟩:Shape),false)) ((bI k a1.kind (0:Int) (5:Int)).bind fun r2=>cond (!r2) (some ((⟨(0:Int),(0:Int),(0:Int)⟩:Shape),false)) ((bI k a1.kind (1:Int) (3:Int)).bind fun r3=>(lh k a1 r3 (decide (a1.kind≤(1:Int)))).bind fun r4=>cond (!r4) (some ((⟨(0:Int),(0:Int),(0:Int)⟩:Shape),false)) (cond (r3) (cond (decide (a1.size>a0.h)) (some ((⟨(0:Int),(0:Int),(0:Int)⟩:Shape),false)) (cond (decide (a1.size>a0.w)) (some ((⟨(0:Int),(0:Int),(0:Int)⟩:Shape),false)) (cond (decide (a1.step=0)) none (cond (decide (a1.step=0)) none (cond (a1.kind==(0:Int)) ((bg k a0).bind fun r5=>cond (decide (r5>(64:Int))) (some ((⟨(0:Int),(0:Int),(0:Int)⟩:Shape),false)) ((bg k a0).bind fun r6=>cond ((a1.weights.length:Int) !=(IntKind.i64.wrap (a1.out*r6))) (some ((⟨(0:Int),(0:Int),(0:Int)⟩:Shape),false)) (some ((⟨(1:Int),(1:Int),a1.out⟩:Shape),true)))) (cond (a1.kind==(1:Int)) (cond ((a1.weights.length:Int) !=(IntKind.i64.wrap ((IntKind.i64.wrap ((IntKind.i64.wrap (a1.out*a1.size))*a1.size))*a0.c))) (some ((⟨(0:Int),(0:Int),(0:Int)⟩:Shape),false)) (cond (decide ((a1.weights.length:Int)>(600:Int))) (some ((⟨(0:Int),(0:Int),(0:Int)⟩:Shape),false)) (some ((⟨(IntKind.i64.wrap ((IntKind.i64.wrap ((IntKind.i64.wrap (a0.h-a1.size)).tdiv a1.step))+(1:Int))),(IntKind.i64.wrap ((IntKind.i64.wrap ((IntKind.i64.wrap (a0.w-a1.size)).tdiv a1.step))+(1:Int))),a1.out⟩:Shape),true)))) (cond (a1.kind==(5:Int)) ((bg k a0).bind fun r7=>cond (decide (r7>(8:Int))) (some ((⟨(0:Int),(0:Int),(0:Int)⟩:Shape),false)) ((bg k a0).bind fun r8=>some ((⟨(1:Int),(1:Int),r8⟩:Shape),true))) (some ((⟨(IntKind.i64.wrap ((IntKind.i64.wrap ((IntKind.i64.wrap (a0.h-a1.size)).tdiv a1.step))+(1:Int))),(IntKind.i64.wrap ((IntKind.i64.wrap ((IntKind.i64.wrap (a0.w-a1.size)).tdiv a1.step))+(1:Int))),a0.c⟩:Shape),true))))))))) (cond (a1.kind==(0:Int)) ((bg k a0).bind fun r9=>cond (decide (r9>(64:Int))) (some ((⟨(0:Int),(0:Int),(0:Int)⟩:Shape),false)) ((bg k a0).bind fun r10=>cond ((a1.weights.length:Int) !=(IntKind.i64.wrap (a1.out*r10))) (some ((⟨(0:Int),(0:Int),(0:Int)⟩:Shape),false)) (some ((⟨(1:Int),(1:Int),a1.out⟩:Shape),true)))) (cond (a1.kind==(1:Int)) (cond ((a1.weights.length:Int) !=(IntKind.i64.wrap ((IntKind.i64.wrap ((IntKind.i64.wrap (a1.out*a1.size))*a1.size))*a0.c))) (some ((⟨(0:Int),(0:Int),(0:Int)⟩:Shape),false)) (cond (decide ((a1.weights.length:Int)>(600:Int))) (some ((⟨(0:Int),(0:Int),(0:Int)⟩:Shape),false)) (some ((⟨a0.h,a0.w,a1.out⟩:Shape),true)))) (cond (a1.kind==(5:Int)) ((bg k a0).bind fun r11=>cond (decide (r11>(8:Int))) (some ((⟨(0:Int),(0:Int),(0:Int)⟩:Shape),false)) ((bg k a0).bind fun r12=>some ((⟨(1:Int),(1:Int),r12⟩:Shape),true))) (some (a0,true))))))))
def ct {ρ:Type} (k:Nat) (p:Int× Int× Int× List ag) (v:Int× List Shape) (next:(Int× List Shape)→Option ρ) (x0:(List Shape)→Option ρ) (xret:Bool→Option ρ):Option ρ:=
  cond (decide (v.1<(p.2.2.2.length:Int))) (cond (decide (0≤v.1∧v.1<(v.2.length:Int))) ((v.2[v.1.toNat]?).bind fun e3=>(idx p.2.2.2 v.1).bind fun e4=>(fq k e3 e4).bind fun r5=>cond (!r5.2) (xret false) (cond (Nat.ble (v.2.length+[r5.1].length) b7) (next (IntKind.i64.wrap (v.1+(1:Int)),v.2++[r5.1])) none)) none) (x0 v.2)
def ft (k:Nat) (a0:Model):Option (List Shape× Bool):=
  (fQ k a0.inp).bind fun r1=>cond (!r1) (some (([]:List Shape),false)) ((bI k (a0.ai.length:Int) (1:Int) (6:Int)).bind fun r2=>cond (!r2) (some (([]:List Shape),false)) (iter (fun u8 n8=>ct k (a0.inp.h,a0.inp.w,a0.inp.c,a0.ai) u8 n8 (fun y6=>some (y6,true)) (fun y7=>some (([]:List Shape),y7))) k ((0:Int),[a0.inp])))
def mU (k:Nat) (a0:Model):Option (Bool):=
  (ft k a0).bind fun r1=>some r1.2
def pq (k:Nat) (a0:Shape) (a1:ag):Option (Int):=
  (fq k a0 a1).bind fun r1=>cond (!r1.2) (some (0:Int)) ((bg k a0).bind fun r2=>cond (a1.kind==(0:Int)) ((bg k r1.1).bind fun r3=>(bg k a0).bind fun r4=>some (IntKind.i64.wrap ((1:Int)+(IntKind.i64.wrap ((IntKind.i64.wrap (r3*r4)).tdiv (16:Int)))))) (cond (a1.kind==(1:Int)) ((bg k r1.1).bind fun r5=>some (IntKind.i64.wrap ((1:Int)+(IntKind.i64.wrap ((IntKind.i64.wrap ((IntKind.i64.wrap ((IntKind.i64.wrap (r5*a1.size))*a1.size))*a0.c)).tdiv (16:Int)))))) (cond (a1.kind==(2:Int)) ((bg k r1.1).bind fun r6=>some (IntKind.i64.wrap ((1:Int)+(IntKind.i64.wrap ((IntKind.i64.wrap ((IntKind.i64.wrap (r6*a1.size))*a1.size)).tdiv (16:Int)))))) (cond (a1.kind==(3:Int)) ((bg k r1.1).bind fun r7=>some (IntKind.i64.wrap ((1:Int)+(IntKind.i64.wrap ((IntKind.i64.wrap ((IntKind.i64.wrap (r7*a1.size))*a1.size)).tdiv (16:Int)))))) (some (IntKind.i64.wrap ((1:Int)+(IntKind.i64.wrap (r2.tdiv (16:Int))))))))))
def dj {ρ:Type} (k:Nat) (p:Int× Int× Int× List ag× List Shape) (v:Int× List Int) (next:(Int× List Int)→Option ρ) (x0:(List Int)→Option ρ):Option ρ:=
  cond (decide (v.1<(p.2.2.2.1.length:Int))) (cond (decide (0≤v.1∧v.1<(p.2.2.2.2.length:Int))) ((p.2.2.2.2[v.1.toNat]?).bind fun e2=>(idx p.2.2.2.1 v.1).bind fun e3=>(pq k e2 e3).bind fun r4=>cond (Nat.ble (v.2.length+[r4].length) b7) (next (IntKind.i64.wrap (v.1+(1:Int)),v.2++[r4])) none) none) (x0 v.2)
def mV (k:Nat) (a0:Model):Option (List Int):=
  (ft k a0).bind fun r1=>cond (!r1.2) (some ([]:List Int)) (iter (fun u6 n6=>dj k (a0.inp.h,a0.inp.w,a0.inp.c,a0.ai,r1.1) u6 n6 (fun y5=>some y5)) k ((0:Int),([]:List Int)))
def cJ (k:Nat) (a0:ag):Option (Bool):=
  cond (a0.size==(0:Int)) (some (a0.step==(0:Int))) (some false)
def dW (k:Nat) (a0:Int):Option (Bool):=
  (vh k a0 (-1000000:Int) (1000000:Int)).bind fun r1=>some (!r1)
def ay {ρ:Type} (k:Nat) (p:List Int× Int) (v:Int) (next:Int→Option ρ) (x0:Unit→Option ρ) (xret:Int→Option ρ):Option ρ:=
  cond (decide (v<p.2)) ((idx p.1 v).bind fun e1=>(dW k e1).bind fun r2=>cond (r2) (xret v) (next (IntKind.i64.wrap (v+(1:Int))))) (x0 ())
def aP (k:Nat) (a0:List Int):Option (Int):=
  iter (fun u5 n5=>ay k (a0,(a0.length:Int)) u5 n5 (fun y3=>some (-1:Int)) (fun y4=>some y4)) k (0:Int)
def aB (k:Nat) (a0:List Int):Option (Bool):=
  (aP k a0).bind fun r1=>some (decide (r1≥(0:Int)))
def cU (k:Nat) (a0:ag) (a1:Int):Option (Bool):=
  (vh k a0.out (1:Int) (8:Int)).bind fun r1=>cond (r1) ((vh k a0.mult (0:Int) (2147483647:Int)).bind fun r2=>cond (r2) ((vh k a0.shift (0:Int) (31:Int)).bind fun r3=>cond (r3) ((vh k a0.zero (-128:Int) (127:Int)).bind fun r4=>cond (r4) (cond ((a0.weights.length:Int)==(IntKind.i64.wrap (a0.out*a1))) ((iY k a0.weights).bind fun r5=>cond (r5) (cond ((a0.fX.length:Int)==a0.out) ((aB k a0.fX).bind fun r6=>some (!r6)) (some false)) (some false)) (some false)) (some false)) (some false)) (some false)) (some false)
def cf (k:Nat) (a0:ag) (a1:Shape):Option (Bool):=
  (vh k a0.size (1:Int) (if a1.w<(if a1.h<(3:Int)then a1.h else(3:Int))then a1.w else(if a1.h<(3:Int)then a1.h else(3:Int)))).bind fun r1=>cond (r1) ((vh k a0.step (1:Int) (2:Int)).bind fun r2=>some r2) (some false)
def cK (k:Nat) (a0:ag) (a1:Shape) (a2:Int):Option (Shape):=
  cond (decide (a0.step=0)) none (cond (decide (a0.step=0)) none (some (⟨(IntKind.i64.wrap ((IntKind.i64.wrap ((IntKind.i64.wrap (a1.h-a0.size)).tdiv a0.step))+(1:Int))),(IntKind.i64.wrap ((IntKind.i64.wrap ((IntKind.i64.wrap (a1.w-a0.size)).tdiv a0.step))+(1:Int))),a2⟩:Shape)))
def cu (k:Nat) (a0:ag):Option (Bool):=
  cond (a0.out==(0:Int)) (cond (a0.mult==(0:Int)) (cond (a0.shift==(0:Int)) (cond ((a0.weights.length:Int)==(0:Int)) (some ((a0.fX.length:Int)==(0:Int))) (some false)) (some false)) (some false)) (some false)
def gx (k:Nat) (a0:Shape) (a1:ag):Option (Shape× Bool):=
  (iX k a0).bind fun r1=>cond (!r1) (some ((⟨(0:Int),(0:Int),(0:Int)⟩:Shape),false)) ((fF k a0).bind fun r2=>cond (a1.kind==(0:Int)) (cond (decide (r2≤(64:Int))) ((cJ k a1).bind fun r3=>cond (r3) ((cU k a1 r2).bind fun r4=>cond (r4) (some ((⟨(1:Int),(1:Int),a1.out⟩:Shape),true)) (some ((⟨(0:Int),(0:Int),(0:Int)⟩:Shape),false))) (some ((⟨(0:Int),(0:Int),(0:Int)⟩:Shape),false))) (some ((⟨(0:Int),(0:Int),(0:Int)⟩:Shape),false))) (cond (a1.kind==(1:Int)) ((cf k a1 a0).bind fun r5=>cond (r5) (cond (decide ((a1.weights.length:Int)≤(600:Int))) ((cU k a1 (IntKind.i64.wrap ((IntKind.i64.wrap (a1.size*a1.size))*a0.c))).bind fun r6=>cond (r6) ((cK k a1 a0 a1.out).bind fun r7=>some (r7,true)) (some ((⟨(0:Int),(0:Int),(0:Int)⟩:Shape),false))) (some ((⟨(0:Int),(0:Int),(0:Int)⟩:Shape),false))) (some ((⟨(0:Int),(0:Int),(0:Int)⟩:Shape),false))) (cond (a1.kind==(2:Int)) ((cf k a1 a0).bind fun r8=>cond (r8) ((cu k a1).bind fun r9=>cond (r9) (cond (a1.zero==(0:Int)) ((cK k a1 a0 a0.c).bind fun r10=>some (r10,true)) (some ((⟨(0:Int),(0:Int),(0:Int)⟩:Shape),false))) (some ((⟨(0:Int),(0:Int),(0:Int)⟩:Shape),false))) (some ((⟨(0:Int),(0:Int),(0:Int)⟩:Shape),false))) (cond (a1.kind==(3:Int)) ((cf k a1 a0).bind fun r11=>cond (r11) ((cu k a1).bind fun r12=>cond (r12) (cond (a1.zero==(0:Int)) ((cK k a1 a0 a0.c).bind fun r13=>some (r13,true)) (some ((⟨(0:Int),(0:Int),(0:Int)⟩:Shape),false))) (some ((⟨(0:Int),(0:Int),(0:Int)⟩:Shape),false))) (some ((⟨(0:Int),(0:Int),(0:Int)⟩:Shape),false))) (cond (a1.kind==(4:Int)) ((cJ k a1).bind fun r14=>cond (r14) ((cu k a1).bind fun r15=>cond (r15) ((vh k a1.zero (-128:Int) (127:Int)).bind fun r16=>cond (r16) (some (a0,true)) (some ((⟨(0:Int),(0:Int),(0:Int)⟩:Shape),false))) (some ((⟨(0:Int),(0:Int),(0:Int)⟩:Shape),false))) (some ((⟨(0:Int),(0:Int),(0:Int)⟩:Shape),false))) (cond (a1.kind==(5:Int)) ((cJ k a1).bind fun r17=>cond (r17) ((cu k a1).bind fun r18=>cond (r18) (cond (a1.zero==(0:Int)) (cond (decide (r2≤(8:Int))) (some ((⟨(1:Int),(1:Int),r2⟩:Shape),true)) (some ((⟨(0:Int),(0:Int),(0:Int)⟩:Shape),false))) (some ((⟨(0:Int),(0:Int),(0:Int)⟩:Shape),false))) (some ((⟨(0:Int),(0:Int),(0:Int)⟩:Shape),false))) (some ((⟨(0:Int),(0:Int),(0:Int)⟩:Shape),false))) (some ((⟨(0:Int),(0:Int),(0:Int)⟩:Shape),false))))))))
def bO {ρ:Type} (k:Nat) (p:List ag× Int) (v:Int× List Shape× Int× Int× Int) (next:(Int× List Shape× Int× Int× Int)→Option ρ) (x0:(List Shape)→Option ρ) (xret:Bool→Option ρ):Option ρ:=
  cond (decide (v.1<p.2)) ((idx p.1 v.1).bind fun e1=>(gx k (⟨v.2.2.1,v.2.2.2.1,v.2.2.2.2⟩:Shape) e1).bind fun r2=>cond (!r2.2) (xret false) (cond (Nat.ble (v.2.1.length+[r2.1].length) b7) (next (IntKind.i64.wrap (v.1+(1:Int)),v.2.1++[r2.1],r2.1.h,r2.1.w,r2.1.c)) none)) (x0 v.2.1)
def dN (k:Nat) (a0:Model):Option (List Shape× Bool):=
  iter (fun u5 n5=>bO k (a0.ai,(a0.ai.length:Int)) u5 n5 (fun y3=>some (y3,true)) (fun y4=>some (([]:List Shape),y4))) k ((0:Int),[a0.inp],a0.inp.h,a0.inp.w,a0.inp.c)
def kJ (k:Nat) (a0:Model):Option (Bool):=
  (vh k (a0.ai.length:Int) (1:Int) (6:Int)).bind fun r1=>cond (!r1) (some false) ((dN k a0).bind fun r2=>some r2.2)
def iZ (k:Nat) (a0:Model):Option (List Shape):=
  (kJ k a0).bind fun r1=>cond (!r1) (some ([]:List Shape)) ((dN k a0).bind fun r2=>some r2.1)
def pt (k:Nat) (a0:Shape) (a1:ag):Option (Int):=
  (gx k a0 a1).bind fun r1=>cond (!r1.2) (some (0:Int)) ((fF k a0).bind fun r2=>cond (a1.kind==(0:Int)) ((fF k r1.1).bind fun r3=>some (IntKind.i64.wrap ((1:Int)+(IntKind.i64.wrap ((IntKind.i64.wrap (r2*r3)).tdiv (16:Int)))))) (cond (a1.kind==(1:Int)) ((fF k r1.1).bind fun r4=>some (IntKind.i64.wrap ((1:Int)+(IntKind.i64.wrap ((IntKind.i64.wrap ((IntKind.i64.wrap ((IntKind.i64.wrap (r4*a1.size))*a1.size))*a0.c)).tdiv (16:Int)))))) (cond (a1.kind==(2:Int)) ((fF k r1.1).bind fun r5=>some (IntKind.i64.wrap ((1:Int)+(IntKind.i64.wrap ((IntKind.i64.wrap ((IntKind.i64.wrap (r5*a1.size))*a1.size)).tdiv (16:Int)))))) (cond (a1.kind==(3:Int)) ((fF k r1.1).bind fun r6=>some (IntKind.i64.wrap ((1:Int)+(IntKind.i64.wrap ((IntKind.i64.wrap ((IntKind.i64.wrap (r6*a1.size))*a1.size)).tdiv (16:Int)))))) (some (IntKind.i64.wrap ((1:Int)+(IntKind.i64.wrap (r2.tdiv (16:Int))))))))))
def dk {ρ:Type} (k:Nat) (p:Int× Int× Int× Int× List ag× List Shape) (v:Int× List Int) (next:(Int× List Int)→Option ρ) (x0:(List Int)→Option ρ):Option ρ:=
  cond (decide (v.1<p.1)) (cond (decide (0≤v.1∧v.1<(p.2.2.2.2.2.length:Int))) ((p.2.2.2.2.2[v.1.toNat]?).bind fun e2=>cond (decide (v.1<(p.2.2.2.2.1.length:Int))) ((idx p.2.2.2.2.1 v.1).bind fun e3=>(pt k e2 e3).bind fun r4=>cond (Nat.ble (v.2.length+[r4].length) b7) (next (IntKind.i64.wrap (v.1+(1:Int)),v.2++[r4])) none) (next (IntKind.i64.wrap (v.1+(1:Int)),v.2))) none) (x0 v.2)
def ja (k:Nat) (a0:Model):Option (List Int):=
  (iZ k a0).bind fun r1=>iter (fun u6 n6=>dk k ((r1.length:Int),a0.inp.h,a0.inp.w,a0.inp.c,a0.ai,r1) u6 n6 (fun y5=>some y5)) k ((0:Int),([]:List Int))
def jJ {ρ:Type} (k:Nat) (p:List Int× Int) (v:Int× Int) (next:(Int× Int)→Option ρ) (x0:Int→Option ρ):Option ρ:=
  cond (decide (v.2<p.2)) ((idx p.1 v.2).bind fun e1=>next (IntKind.i64.wrap (v.1+e1),IntKind.i64.wrap (v.2+(1:Int)))) (x0 v.1)
def DH (k:Nat) (a0:List Int):Option (Int):=
  iter (fun u3 n3=>jJ k (a0,(a0.length:Int)) u3 n3 (fun y2=>some y2)) k ((0:Int),(0:Int))
def jK (k:Nat) (a0:Model):Option (Int):=
  (ja k a0).bind fun r1=>(DH k r1).bind fun r2=>some r2
end
end Go.Proofs.Ev
set_option linter.unusedVariables false
set_option linter.unusedSimpArgs false
set_option maxRecDepth 100000
namespace Go.Proofs.Ev
noncomputable section
def fG (k:Nat) (a0:ag):Option (ag):=
  (bB k a0.weights).bind fun r1=>(bB k a0.fX).bind fun r2=>some (⟨a0.kind,a0.out,a0.size,a0.step,a0.mult,a0.shift,a0.zero,r1,r2⟩:ag)
def bP {ρ:Type} (k:Nat) (p:List ag× Int) (v:Int× List ag) (next:(Int× List ag)→Option ρ) (x0:(List ag)→Option ρ):Option ρ:=
  cond (decide (v.1<p.2)) ((idx p.1 v.1).bind fun e1=>(fG k e1).bind fun r2=>cond (Nat.ble (v.2.length+1) b7) (next (IntKind.i64.wrap (v.1+(1:Int)),v.2++[r2])) none) (x0 v.2)
def iB (k:Nat) (a0:List ag):Option (List ag):=
  iter (fun u4 n4=>bP k (a0,(a0.length:Int)) u4 n4 (fun y3=>some y3)) k ((0:Int),([]:List ag))
def fu {ρ:Type} (k:Nat) (p:Int× Int× Int× List ag× Int× Int× Int× Int× List Int× Int× List Int) (v:Int× Int) (next:(Int× Int)→Option ρ) (x0:Int→Option ρ):Option ρ:=
  cond (decide (v.2<p.2.2.2.2.1)) (cond (decide (0≤v.2∧v.2<(p.2.2.2.2.2.2.2.2.2.2.length:Int))) ((p.2.2.2.2.2.2.2.2.2.2[v.2.toNat]?).bind fun e6=>next (IntKind.i64.wrap (v.1+e6),IntKind.i64.wrap (v.2+(1:Int)))) none) (x0 v.1)
def tv (k:Nat) (a0:Job):Option (Bool):=
  (ft k a0.model).bind fun r1=>cond (!r1.2) (some false) ((bI k a0.at_ (0:Int) (a0.model.ai.length:Int)).bind fun r2=>cond (!r2) (some false) ((fo k a0.act).bind fun r3=>cond (!r3) (some false) (cond (decide (0≤a0.at_∧a0.at_<(r1.1.length:Int))) ((r1.1[a0.at_.toNat]?).bind fun e4=>cond (!(cond (a0.act.sh.h==e4.h) (cond (a0.act.sh.w==e4.w) (cond (a0.act.sh.c==e4.c) (true) false) false) false)) (some false) ((mV k a0.model).bind fun r5=>iter (fun u8 n8=>fu k (a0.model.inp.h,a0.model.inp.w,a0.model.inp.c,a0.model.ai,a0.at_,a0.act.sh.h,a0.act.sh.w,a0.act.sh.c,a0.act.data,a0.cS,r5) u8 n8 (fun y7=>some (a0.cS==y7))) k ((0:Int),(0:Int)))) none)))
def jL (k:Nat) (a0:Job):Option (Bool):=
  (kJ k a0.model).bind fun r1=>cond (r1) ((vh k a0.at_ (0:Int) (a0.model.ai.length:Int)).bind fun r2=>cond (r2) ((gw k a0.act).bind fun r3=>cond (r3) ((iZ k a0.model).bind fun r4=>cond (decide (0≤a0.at_∧a0.at_<(r4.length:Int))) ((r4[a0.at_.toNat]?).bind fun e5=>cond (cond (a0.act.sh.h==e5.h) (cond (a0.act.sh.w==e5.w) (cond (a0.act.sh.c==e5.c) (true) false) false) false) ((ja k a0.model).bind fun r6=>cond (decide (0≤a0.at_∧a0.at_≤(r6.length:Int))) ((DH k (((r6).drop 0).take (a0.at_.toNat-0))).bind fun r7=>some (a0.cS==r7)) none) (some false)) none) (some false)) (some false)) (some false)
def fH (k:Nat) (a0:Model):Option (Model):=
  (iB k a0.ai).bind fun r1=>some (⟨a0.inp,r1⟩:Model)
def dm (k:Nat) (a0:Job):Option (Job):=
  (fH k a0.model).bind fun r1=>(eR k a0.act).bind fun r2=>some (⟨r1,a0.at_,r2,a0.cS⟩:Job)
def lj (k:Nat) (a0:Model) (a1:al):Option (Job× Bool):=
  (jL k (⟨a0,(0:Int),a1,(0:Int)⟩:Job)).bind fun r1=>cond (!r1) (some ((⟨(⟨(⟨(0:Int),(0:Int),(0:Int)⟩:Shape),([]:List ag)⟩:Model),(0:Int),(⟨(⟨(0:Int),(0:Int),(0:Int)⟩:Shape),([]:List Int)⟩:al),(0:Int)⟩:Job),false)) ((dm k (⟨a0,(0:Int),a1,(0:Int)⟩:Job)).bind fun r2=>some (r2,true))
end
end Go.Proofs.Ev
set_option linter.unusedVariables false
set_option linter.unusedSimpArgs false
set_option maxRecDepth 100000
namespace Go.Proofs.Ev
noncomputable section
def jb (k:Nat) (a0:Int) (a1:Int) (a2:Int):Option (Int):=
  cond (decide (a0<a1)) (some a1) (cond (decide (a1>a2)) (some a1) (cond (decide (a0>a2)) (some a2) (some a0)))
def qp (k:Nat) (a0:Int):Option (Int):=
  (jb k a0 (-128:Int) (127:Int)).bind fun r1=>some r1
def iC (k:Nat) (a0:Int):Option (Int):=
  (jb k a0 (-2147483648:Int) (2147483647:Int)).bind fun r1=>some r1
def ib (k:Nat) (a0:Int) (a1:Int):Option (Int):=
  (iC k a0).bind fun r1=>(iC k a1).bind fun r2=>(iC k (IntKind.i64.wrap (r1+r2))).bind fun r3=>some r3
def gy {ρ:Type} (k:Nat) (p:List Int× List Int) (v:Int× Int) (next:(Int× Int)→Option ρ) (x0:Int→Option ρ):Option ρ:=
  cond (decide (v.2<(p.1.length:Int))) (cond (decide (v.2<(p.2.length:Int))) ((idx p.1 v.2).bind fun e1=>(qp k e1).bind fun r2=>(idx p.2 v.2).bind fun e3=>(qp k e3).bind fun r4=>(ib k v.1 (IntKind.i64.wrap (r2*r4))).bind fun r5=>next (r5,IntKind.i64.wrap (v.2+(1:Int)))) (x0 v.1)) (x0 v.1)
def tw (k:Nat) (a0:List Int) (a1:List Int):Option (Int):=
  iter (fun u7 n7=>gy k (a0,a1) u7 n7 (fun y6=>some y6)) k ((0:Int),(0:Int))
def mW (k:Nat) (a0:Int) (a1:Int):Option (Int):=
  cond (decide (a1=0)) none (cond (decide (a1=0)) none (cond (decide ((a0.tmod a1)<(0:Int))) (some (IntKind.i64.wrap ((IntKind.i64.wrap (a0.tdiv a1))-(1:Int)))) (some (IntKind.i64.wrap (a0.tdiv a1)))))
def mX (k:Nat) (a0:Int) (a1:Int):Option (Int):=
  (iC k a0).bind fun r1=>(iC k a1).bind fun r2=>(mW k (IntKind.i64.wrap ((IntKind.i64.wrap (r1*r2))+(1073741824:Int))) (2147483648:Int)).bind fun r3=>(iC k r3).bind fun r4=>some r4
def ic (k:Nat) (a0:Int) (a1:Int):Option (Int):=
  (iC k a0).bind fun r1=>(jb k a1 (0:Int) (31:Int)).bind fun r2=>cond (decide ((IntKind.u64.wrap (r2))<0)) none (cond (decide (r1<(0:Int))) (cond (decide ((IntKind.i64.wrap ((1:Int)*2^(min (IntKind.u64.wrap (r2)).toNat IntKind.i64.bits)))=0)) none (some (IntKind.i64.wrap (0-(IntKind.i64.wrap ((IntKind.i64.wrap ((IntKind.i64.wrap (0-r1))+(IntKind.i64.wrap ((IntKind.i64.wrap ((1:Int)*2^(min (IntKind.u64.wrap (r2)).toNat IntKind.i64.bits))).tdiv (2:Int))))).tdiv (IntKind.i64.wrap ((1:Int)*2^(min (IntKind.u64.wrap (r2)).toNat IntKind.i64.bits))))))))) (cond (decide ((IntKind.i64.wrap ((1:Int)*2^(min (IntKind.u64.wrap (r2)).toNat IntKind.i64.bits)))=0)) none (some (IntKind.i64.wrap ((IntKind.i64.wrap (r1+(IntKind.i64.wrap ((IntKind.i64.wrap ((1:Int)*2^(min (IntKind.u64.wrap (r2)).toNat IntKind.i64.bits))).tdiv (2:Int))))).tdiv (IntKind.i64.wrap ((1:Int)*2^(min (IntKind.u64.wrap (r2)).toNat IntKind.i64.bits))))))))
def jc (k:Nat) (a0:Int) (a1:Int) (a2:Int) (a3:Int):Option (Int):=
  (mX k a0 a1).bind fun r1=>(ic k r1 a2).bind fun r2=>(qp k a3).bind fun r3=>(qp k (IntKind.i64.wrap (r2+r3))).bind fun r4=>some r4
def qq (k:Nat) (a0:Shape) (a1:Int) (a2:Int) (a3:Int):Option (Int):=
  (fQ k a0).bind fun r1=>cond (!r1) (some (-1:Int)) ((bI k a1 (0:Int) (IntKind.i64.wrap (a0.h-(1:Int)))).bind fun r2=>cond (!r2) (some (-1:Int)) ((bI k a2 (0:Int) (IntKind.i64.wrap (a0.w-(1:Int)))).bind fun r3=>cond (!r3) (some (-1:Int)) ((bI k a3 (0:Int) (IntKind.i64.wrap (a0.c-(1:Int)))).bind fun r4=>cond (!r4) (some (-1:Int)) (some (IntKind.i64.wrap ((IntKind.i64.wrap ((IntKind.i64.wrap ((IntKind.i64.wrap (a1*a0.w))+a2))*a0.c))+a3))))))
def jM (k:Nat) (a0:al) (a1:Int) (a2:Int) (a3:Int):Option (Int× Bool):=
  (qq k a0.sh a1 a2 a3).bind fun r1=>(fo k a0).bind fun r2=>cond (!r2) (some ((0:Int),false)) (cond (decide (r1<(0:Int))) (some ((0:Int),false)) ((idx a0.data r1).bind fun e3=>some (e3,true)))
def eu {ρ:Type} (k:Nat) (p:Int× Int× Int× Int× Int× Int× Int× List Int× Int× Int× Int× Int× Int× Int× Int× List Int× List Int) (v:Int× List Int) (next:(Int× List Int)→Option ρ) (x2:(List Int)→Option ρ):Option ρ:=
  cond (decide (v.1<p.2.2.2.2.2.2.2.2.2.2.1)) ((jM k (⟨(⟨p.2.2.2.2.1,p.2.2.2.2.2.1,p.2.2.2.2.2.2.1⟩:Shape),p.2.2.2.2.2.2.2.1⟩:al) (IntKind.i64.wrap ((IntKind.i64.wrap (p.1*p.2.2.2.2.2.2.2.2.2.2.2.1))+p.2.2.2.1)) (IntKind.i64.wrap ((IntKind.i64.wrap (p.2.1*p.2.2.2.2.2.2.2.2.2.2.2.1))+v.1)) p.2.2.1).bind fun r1=>cond (Nat.ble (v.2.length+[r1.1].length) b7) (next (IntKind.i64.wrap (v.1+(1:Int)),v.2++[r1.1])) none) (x2 v.2)
def ey {ρ:Type} (k:Nat) (p:Int× Int× Int× Int× Int× Int× List Int× Int× Int× Int× Int× Int× Int× Int× List Int× List Int) (v:Int× List Int) (next:(Int× List Int)→Option ρ) (x0:(List Int)→Option ρ):Option ρ:=
  cond (decide (v.1<p.2.2.2.2.2.2.2.2.2.1)) (iter (fun u3 n3=>eu k (p.1,p.2.1,p.2.2.1,v.1,p.2.2.2.1,p.2.2.2.2.1,p.2.2.2.2.2.1,p.2.2.2.2.2.2.1,p.2.2.2.2.2.2.2.1,p.2.2.2.2.2.2.2.2.1,p.2.2.2.2.2.2.2.2.2.1,p.2.2.2.2.2.2.2.2.2.2.1,p.2.2.2.2.2.2.2.2.2.2.2.1,p.2.2.2.2.2.2.2.2.2.2.2.2.1,p.2.2.2.2.2.2.2.2.2.2.2.2.2.1,p.2.2.2.2.2.2.2.2.2.2.2.2.2.2.1,p.2.2.2.2.2.2.2.2.2.2.2.2.2.2.2) u3 n3 (fun y2=>next (IntKind.i64.wrap (v.1+(1:Int)),y2))) k ((0:Int),v.2)) (x0 v.2)
def gN (k:Nat) (a0:al) (a1:ag) (a2:Int) (a3:Int) (a4:Int):Option (List Int):=
  iter (fun u5 n5=>ey k (a2,a3,a4,a0.sh.h,a0.sh.w,a0.sh.c,a0.data,a1.kind,a1.out,a1.size,a1.step,a1.mult,a1.shift,a1.zero,a1.weights,a1.fX) u5 n5 (fun y4=>some y4)) k ((0:Int),([]:List Int))
def ez {ρ:Type} (k:Nat) (p:Int× Int× Int× Int× Int× Int× Int× Int× List Int× Int× Int× Int× Int× Int× Int× Int× List Int× List Int× Int× Int× Int) (v:Int× Int) (next:(Int× Int)→Option ρ) (x5:Int→Option ρ):Option ρ:=
  cond (decide (v.2<p.2.2.2.2.2.2.2.2.2.2.2.2.2.2.2.2.2.2.2.2)) ((jM k (⟨(⟨p.2.2.2.2.2.1,p.2.2.2.2.2.2.1,p.2.2.2.2.2.2.2.1⟩:Shape),p.2.2.2.2.2.2.2.2.1⟩:al) (IntKind.i64.wrap ((IntKind.i64.wrap (p.1*p.2.2.2.2.2.2.2.2.2.2.2.2.1))+p.2.2.2.1)) (IntKind.i64.wrap ((IntKind.i64.wrap (p.2.1*p.2.2.2.2.2.2.2.2.2.2.2.2.1))+p.2.2.2.2.1)) v.2).bind fun r6=>(idx p.2.2.2.2.2.2.2.2.2.2.2.2.2.2.2.2.1 (IntKind.i64.wrap ((IntKind.i64.wrap ((IntKind.i64.wrap ((IntKind.i64.wrap ((IntKind.i64.wrap ((IntKind.i64.wrap (p.2.2.1*p.2.2.2.2.2.2.2.2.2.2.2.1))+p.2.2.2.1))*p.2.2.2.2.2.2.2.2.2.2.2.1))+p.2.2.2.2.1))*p.2.2.2.2.2.2.2.2.2.2.2.2.2.2.2.2.2.2.2.2))+v.2))).bind fun e7=>(ib k v.1 (IntKind.i64.wrap (r6.1*e7))).bind fun r8=>next (r8,IntKind.i64.wrap (v.2+(1:Int)))) (x5 v.1)
def eA {ρ:Type} (k:Nat) (p:Int× Int× Int× Int× Int× Int× Int× List Int× Int× Int× Int× Int× Int× Int× Int× List Int× List Int× Int× Int× Int) (v:Int× Int) (next:(Int× Int)→Option ρ) (x3:Int→Option ρ):Option ρ:=
  cond (decide (v.2<p.2.2.2.2.2.2.2.2.2.2.1)) (iter (fun u10 n10=>ez k (p.1,p.2.1,p.2.2.1,p.2.2.2.1,v.2,p.2.2.2.2.1,p.2.2.2.2.2.1,p.2.2.2.2.2.2.1,p.2.2.2.2.2.2.2.1,p.2.2.2.2.2.2.2.2.1,p.2.2.2.2.2.2.2.2.2.1,p.2.2.2.2.2.2.2.2.2.2.1,p.2.2.2.2.2.2.2.2.2.2.2.1,p.2.2.2.2.2.2.2.2.2.2.2.2.1,p.2.2.2.2.2.2.2.2.2.2.2.2.2.1,p.2.2.2.2.2.2.2.2.2.2.2.2.2.2.1,p.2.2.2.2.2.2.2.2.2.2.2.2.2.2.2.1,p.2.2.2.2.2.2.2.2.2.2.2.2.2.2.2.2.1,p.2.2.2.2.2.2.2.2.2.2.2.2.2.2.2.2.2.1,p.2.2.2.2.2.2.2.2.2.2.2.2.2.2.2.2.2.2.1,p.2.2.2.2.2.2.2.2.2.2.2.2.2.2.2.2.2.2.2) u10 n10 (fun y9=>next (y9,IntKind.i64.wrap (v.2+(1:Int))))) k (v.1,(0:Int))) (x3 v.1)
def eB {ρ:Type} (k:Nat) (p:Int× Int× Int× Int× Int× Int× List Int× Int× Int× Int× Int× Int× Int× Int× List Int× List Int× Int× Int× Int) (v:Int× Int) (next:(Int× Int)→Option ρ) (x1:Int→Option ρ):Option ρ:=
  cond (decide (v.2<p.2.2.2.2.2.2.2.2.2.1)) (iter (fun u12 n12=>eA k (p.1,p.2.1,p.2.2.1,v.2,p.2.2.2.1,p.2.2.2.2.1,p.2.2.2.2.2.1,p.2.2.2.2.2.2.1,p.2.2.2.2.2.2.2.1,p.2.2.2.2.2.2.2.2.1,p.2.2.2.2.2.2.2.2.2.1,p.2.2.2.2.2.2.2.2.2.2.1,p.2.2.2.2.2.2.2.2.2.2.2.1,p.2.2.2.2.2.2.2.2.2.2.2.2.1,p.2.2.2.2.2.2.2.2.2.2.2.2.2.1,p.2.2.2.2.2.2.2.2.2.2.2.2.2.2.1,p.2.2.2.2.2.2.2.2.2.2.2.2.2.2.2.1,p.2.2.2.2.2.2.2.2.2.2.2.2.2.2.2.2.1,p.2.2.2.2.2.2.2.2.2.2.2.2.2.2.2.2.2.1,p.2.2.2.2.2.2.2.2.2.2.2.2.2.2.2.2.2.2) u12 n12 (fun y11=>next (y11,IntKind.i64.wrap (v.2+(1:Int))))) k (v.1,(0:Int))) (x1 v.1)
def eC {ρ:Type} (k:Nat) (p:List Int) (v:Int× Int) (next:(Int× Int)→Option ρ) (x7:Int→Option ρ):Option ρ:=
  cond (decide (v.2<(p.length:Int))) (cond (decide (0≤v.2∧v.2<(p.length:Int))) ((p[v.2.toNat]?).bind fun e20=>cond (decide (e20>v.1)) (cond (decide (0≤v.2∧v.2<(p.length:Int))) ((p[v.2.toNat]?).bind fun e21=>next (e21,IntKind.i64.wrap (v.2+(1:Int)))) none) (next (v.1,IntKind.i64.wrap (v.2+(1:Int))))) none) (x7 v.1)
def eD {ρ:Type} (k:Nat) (p:List Int) (v:Int× Int) (next:(Int× Int)→Option ρ) (x9:Int→Option ρ):Option ρ:=
  cond (decide (v.2<(p.length:Int))) (cond (decide (0≤v.2∧v.2<(p.length:Int))) ((p[v.2.toNat]?).bind fun e25=>next (IntKind.i64.wrap (v.1+e25),IntKind.i64.wrap (v.2+(1:Int)))) none) (x9 v.1)
def mY (k:Nat) (a0:al) (a1:ag) (a2:Int) (a3:Int) (a4:Int):Option (Int):=
  cond (a1.kind==(0:Int)) ((bg k a0.sh).bind fun r1=>cond (decide (0≤(IntKind.i64.wrap ((IntKind.i64.wrap (a4*r1))+r1))∧(IntKind.i64.wrap ((IntKind.i64.wrap (a4*r1))+r1))≤(a1.weights.length:Int))) (cond (decide (0≤(IntKind.i64.wrap (a4*r1))∧(IntKind.i64.wrap (a4*r1))≤((IntKind.i64.wrap ((IntKind.i64.wrap (a4*r1))+r1)).toNat:Int))) ((tw k a0.data ((a1.weights.take ((IntKind.i64.wrap ((IntKind.i64.wrap (a4*r1))+r1)).toNat)).drop ((IntKind.i64.wrap (a4*r1)).toNat))).bind fun r2=>(idx a1.fX a4).bind fun e3=>(ib k r2 e3).bind fun r4=>(jc k r4 a1.mult a1.shift a1.zero).bind fun r5=>some r5) none) none) (cond (a1.kind==(1:Int)) (iter (fun u17 n17=>eB k (a2,a3,a4,a0.sh.h,a0.sh.w,a0.sh.c,a0.data,a1.kind,a1.out,a1.size,a1.step,a1.mult,a1.shift,a1.zero,a1.weights,a1.fX,a0.sh.h,a0.sh.w,a0.sh.c) u17 n17 (fun y13=>(idx a1.fX a4).bind fun e14=>(ib k y13 e14).bind fun r15=>(jc k r15 a1.mult a1.shift a1.zero).bind fun r16=>some r16)) k ((0:Int),(0:Int))) (cond (a1.kind==(2:Int)) ((gN k a0 a1 a2 a3 a4).bind fun r18=>cond (decide (0≤(0:Int)∧(0:Int)<(r18.length:Int))) ((r18[(0:Int).toNat]?).bind fun e19=>iter (fun u23 n23=>eC k r18 u23 n23 (fun y22=>some y22)) k (e19,(1:Int))) none) (cond (a1.kind==(3:Int)) ((gN k a0 a1 a2 a3 a4).bind fun r24=>iter (fun u27 n27=>eD k r24 u27 n27 (fun y26=>cond (decide (y26<(0:Int))) (cond (decide ((IntKind.i64.wrap ((2:Int)*(r24.length:Int)))=0)) none (some (IntKind.i64.wrap (0-(IntKind.i64.wrap ((IntKind.i64.wrap ((IntKind.i64.wrap ((-2:Int)*y26))+(r24.length:Int))).tdiv (IntKind.i64.wrap ((2:Int)*(r24.length:Int))))))))) (cond (decide ((IntKind.i64.wrap ((2:Int)*(r24.length:Int)))=0)) none (some (IntKind.i64.wrap ((IntKind.i64.wrap ((IntKind.i64.wrap ((2:Int)*y26))+(r24.length:Int))).tdiv (IntKind.i64.wrap ((2:Int)*(r24.length:Int))))))))) k ((0:Int),(0:Int))) (cond (a1.kind==(4:Int)) ((jM k a0 a2 a3 a4).bind fun r28=>cond (decide (r28.1<a1.zero)) (some a1.zero) (some r28.1)) ((idx a0.data a4).bind fun e29=>some e29)))))
def dz {ρ:Type} (k:Nat) (p:Int× Int× Int× Int× Int× List Int× Int× Int× Int× Int× Int× Int× Int× List Int× List Int× Int× Int× Int× Int× Int× Int× Int× Int× Int) (v:Int× List Int) (next:(Int× List Int)→Option ρ) (x4:(List Int)→Option ρ):Option ρ:=
  cond (decide (v.1<p.2.2.2.2.2.2.2.2.2.2.2.2.2.2.2.2.2.2.2.2.1)) ((mY k (⟨(⟨p.2.2.1,p.2.2.2.1,p.2.2.2.2.1⟩:Shape),p.2.2.2.2.2.1⟩:al) (⟨p.2.2.2.2.2.2.1,p.2.2.2.2.2.2.2.1,p.2.2.2.2.2.2.2.2.1,p.2.2.2.2.2.2.2.2.2.1,p.2.2.2.2.2.2.2.2.2.2.1,p.2.2.2.2.2.2.2.2.2.2.2.1,p.2.2.2.2.2.2.2.2.2.2.2.2.1,p.2.2.2.2.2.2.2.2.2.2.2.2.2.1,p.2.2.2.2.2.2.2.2.2.2.2.2.2.2.1⟩:ag) p.1 p.2.1 v.1).bind fun r3=>cond (Nat.ble (v.2.length+[r3].length) b7) (next (IntKind.i64.wrap (v.1+(1:Int)),v.2++[r3])) none) (x4 v.2)
def dA {ρ:Type} (k:Nat) (p:Int× Int× Int× Int× List Int× Int× Int× Int× Int× Int× Int× Int× List Int× List Int× Int× Int× Int× Int× Int× Int× Int× Int× Int) (v:Int× List Int) (next:(Int× List Int)→Option ρ) (x2:(List Int)→Option ρ):Option ρ:=
  cond (decide (v.1<p.2.2.2.2.2.2.2.2.2.2.2.2.2.2.2.2.2.2.1)) (iter (fun u5 n5=>dz k (p.1,v.1,p.2.1,p.2.2.1,p.2.2.2.1,p.2.2.2.2.1,p.2.2.2.2.2.1,p.2.2.2.2.2.2.1,p.2.2.2.2.2.2.2.1,p.2.2.2.2.2.2.2.2.1,p.2.2.2.2.2.2.2.2.2.1,p.2.2.2.2.2.2.2.2.2.2.1,p.2.2.2.2.2.2.2.2.2.2.2.1,p.2.2.2.2.2.2.2.2.2.2.2.2.1,p.2.2.2.2.2.2.2.2.2.2.2.2.2.1,p.2.2.2.2.2.2.2.2.2.2.2.2.2.2.1,p.2.2.2.2.2.2.2.2.2.2.2.2.2.2.2.1,p.2.2.2.2.2.2.2.2.2.2.2.2.2.2.2.2.1,p.2.2.2.2.2.2.2.2.2.2.2.2.2.2.2.2.2.1,p.2.2.2.2.2.2.2.2.2.2.2.2.2.2.2.2.2.2.1,p.2.2.2.2.2.2.2.2.2.2.2.2.2.2.2.2.2.2.2.1,p.2.2.2.2.2.2.2.2.2.2.2.2.2.2.2.2.2.2.2.2.1,p.2.2.2.2.2.2.2.2.2.2.2.2.2.2.2.2.2.2.2.2.2.1,p.2.2.2.2.2.2.2.2.2.2.2.2.2.2.2.2.2.2.2.2.2.2) u5 n5 (fun y4=>next (IntKind.i64.wrap (v.1+(1:Int)),y4))) k ((0:Int),v.2)) (x2 v.2)
def dB {ρ:Type} (k:Nat) (p:Int× Int× Int× List Int× Int× Int× Int× Int× Int× Int× Int× List Int× List Int× Int× Int× Int× Int× Int× Int× Int× Int× Int) (v:Int× List Int) (next:(Int× List Int)→Option ρ) (x0:(List Int)→Option ρ):Option ρ:=
  cond (decide (v.1<p.2.2.2.2.2.2.2.2.2.2.2.2.2.2.2.2.1)) (iter (fun u7 n7=>dA k (v.1,p.1,p.2.1,p.2.2.1,p.2.2.2.1,p.2.2.2.2.1,p.2.2.2.2.2.1,p.2.2.2.2.2.2.1,p.2.2.2.2.2.2.2.1,p.2.2.2.2.2.2.2.2.1,p.2.2.2.2.2.2.2.2.2.1,p.2.2.2.2.2.2.2.2.2.2.1,p.2.2.2.2.2.2.2.2.2.2.2.1,p.2.2.2.2.2.2.2.2.2.2.2.2.1,p.2.2.2.2.2.2.2.2.2.2.2.2.2.1,p.2.2.2.2.2.2.2.2.2.2.2.2.2.2.1,p.2.2.2.2.2.2.2.2.2.2.2.2.2.2.2.1,p.2.2.2.2.2.2.2.2.2.2.2.2.2.2.2.2.1,p.2.2.2.2.2.2.2.2.2.2.2.2.2.2.2.2.2.1,p.2.2.2.2.2.2.2.2.2.2.2.2.2.2.2.2.2.2.1,p.2.2.2.2.2.2.2.2.2.2.2.2.2.2.2.2.2.2.2.1,p.2.2.2.2.2.2.2.2.2.2.2.2.2.2.2.2.2.2.2.2.1,p.2.2.2.2.2.2.2.2.2.2.2.2.2.2.2.2.2.2.2.2.2) u7 n7 (fun y6=>next (IntKind.i64.wrap (v.1+(1:Int)),y6))) k ((0:Int),v.2)) (x0 v.2)
def lk (k:Nat) (a0:al) (a1:ag):Option (al× Bool):=
  (fo k a0).bind fun r1=>cond (!r1) (some ((⟨(⟨(0:Int),(0:Int),(0:Int)⟩:Shape),([]:List Int)⟩:al),false)) ((fq k a0.sh a1).bind fun r2=>cond (!r2.2) (some ((⟨(⟨(0:Int),(0:Int),(0:Int)⟩:Shape),([]:List Int)⟩:al),false)) (iter (fun u9 n9=>dB k (a0.sh.h,a0.sh.w,a0.sh.c,a0.data,a1.kind,a1.out,a1.size,a1.step,a1.mult,a1.shift,a1.zero,a1.weights,a1.fX,(0:Int),(0:Int),(0:Int),r2.1.h,r2.1.w,r2.1.c,r2.1.h,r2.1.w,r2.1.c) u9 n9 (fun y8=>some ((⟨r2.1,y8⟩:al),true))) k ((0:Int),([]:List Int))))
def bq (k:Nat) (a0:Job):Option (Bool):=
  some (a0.at_==(a0.model.ai.length:Int))
def mZ (k:Nat) (a0:Job):Option (List Int):=
  (jL k a0).bind fun r1=>cond (!r1) (some ([]:List Int)) ((ja k a0.model).bind fun r2=>cond (decide (0≤a0.at_∧a0.at_≤(r2.length:Int))) (some (((r2).drop a0.at_.toNat).take (r2.length-a0.at_.toNat))) none)
def dC (k:Nat) (a0:Job):Option (Int):=
  (mZ k a0).bind fun r1=>cond ((r1.length:Int)==(0:Int)) (some (0:Int)) ((idx r1 (0:Int)).bind fun e2=>some e2)
def zZ (k:Nat) (a0:Int) (a1:Int) (a2:Int):Option (Int):=
  some (if(if a2<a0 then a2 else a0)>a1 then(if a2<a0 then a2 else a0)else a1)
def qt (k:Nat) (a0:Int):Option (Int):=
  (zZ k a0 (-128:Int) (127:Int)).bind fun r1=>some r1
def iD (k:Nat) (a0:Int):Option (Int):=
  (zZ k a0 (-2147483648:Int) (2147483647:Int)).bind fun r1=>some r1
def m7 (k:Nat) (a0:Int) (a1:Int):Option (Int):=
  (iD k a0).bind fun r1=>(iD k a1).bind fun r2=>(iD k (IntKind.i64.wrap (r1+r2))).bind fun r3=>some r3
def gz {ρ:Type} (k:Nat) (p:List Int× List Int× Int) (v:Int× Int) (next:(Int× Int)→Option ρ) (x0:Int→Option ρ):Option ρ:=
  cond (decide (v.2<p.2.2)) ((idx p.1 v.2).bind fun e1=>(qt k e1).bind fun r2=>(idx p.2.1 v.2).bind fun e3=>(qt k e3).bind fun r4=>(m7 k v.1 (IntKind.i64.wrap (r2*r4))).bind fun r5=>next (r5,IntKind.i64.wrap (v.2+(1:Int)))) (x0 v.1)
def tx (k:Nat) (a0:List Int) (a1:List Int):Option (Int):=
  iter (fun u7 n7=>gz k (a0,a1,if(a1.length:Int)<(a0.length:Int)then(a1.length:Int)else(a0.length:Int)) u7 n7 (fun y6=>some y6)) k ((0:Int),(0:Int))
def m8 (k:Nat) (a0:Int) (a1:Int):Option (Int):=
  (iD k a0).bind fun r1=>(iD k a1).bind fun r2=>(iD k ((IntKind.i64.wrap ((IntKind.i64.wrap (r1*r2))+(1073741824:Int))).fdiv (2^(min (31:Int).toNat IntKind.i64.bits)))).bind fun r3=>some r3
def jN (k:Nat) (a0:Int) (a1:Int):Option (Int):=
  cond (decide (a0<(0:Int))) (none) (cond (decide ((IntKind.i64.wrap ((2:Int)*a1))=0)) none (some (IntKind.i64.wrap ((IntKind.i64.wrap ((IntKind.i64.wrap ((2:Int)*a0))+a1)).tdiv (IntKind.i64.wrap ((2:Int)*a1))))))
def jd (k:Nat) (a0:Int) (a1:Int):Option (Int):=
  cond (decide (a0<(0:Int))) ((jN k (IntKind.i64.wrap (0-a0)) a1).bind fun r1=>some (IntKind.i64.wrap (0-r1))) (cond (decide ((IntKind.i64.wrap ((2:Int)*a1))=0)) none (some (IntKind.i64.wrap ((IntKind.i64.wrap ((IntKind.i64.wrap ((2:Int)*a0))+a1)).tdiv (IntKind.i64.wrap ((2:Int)*a1))))))
def ie (k:Nat) (a0:Int) (a1:Int):Option (Int):=
  (iD k a0).bind fun r1=>(zZ k a1 (0:Int) (31:Int)).bind fun r2=>cond (decide (r2<0)) none ((jd k r1 (IntKind.i64.wrap ((1:Int)*2^(min r2.toNat IntKind.i64.bits)))).bind fun r3=>some r3)
def m9 (k:Nat) (a0:Int) (a1:Int) (a2:Int) (a3:Int):Option (Int):=
  (m8 k a0 a1).bind fun r1=>(ie k r1 a2).bind fun r2=>(qt k a3).bind fun r3=>(qt k (IntKind.i64.wrap (r2+r3))).bind fun r4=>some r4
def cZ (k:Nat) (a0:ag) (a1:List Int) (a2:Int):Option (Int):=
  cond (decide (0≤(IntKind.i64.wrap ((IntKind.i64.wrap (a2+(1:Int)))*(a1.length:Int)))∧(IntKind.i64.wrap ((IntKind.i64.wrap (a2+(1:Int)))*(a1.length:Int)))≤(a0.weights.length:Int))) (cond (decide (0≤(IntKind.i64.wrap (a2*(a1.length:Int)))∧(IntKind.i64.wrap (a2*(a1.length:Int)))≤((IntKind.i64.wrap ((IntKind.i64.wrap (a2+(1:Int)))*(a1.length:Int))).toNat:Int))) ((tx k a1 ((a0.weights.take ((IntKind.i64.wrap ((IntKind.i64.wrap (a2+(1:Int)))*(a1.length:Int))).toNat)).drop ((IntKind.i64.wrap (a2*(a1.length:Int))).toNat))).bind fun r1=>(idx a0.fX a2).bind fun e2=>(m7 k r1 e2).bind fun r3=>(m9 k r3 a0.mult a0.shift a0.zero).bind fun r4=>some r4) none) none
def eS (k:Nat) (a0:Shape) (a1:Int) (a2:Int) (a3:Int):Option (Int):=
  some (IntKind.i64.wrap ((IntKind.i64.wrap ((IntKind.i64.wrap ((IntKind.i64.wrap (a1*a0.w))+a2))*a0.c))+a3))
def bC {ρ:Type} (k:Nat) (p:Int× Int× Int× Int× Int× Int× Int× Int× Int× Int× Int× Int× Int× Int× List Int× List Int× Int× Int× Int× List Int) (v:Int× List Int) (next:(Int× List Int)→Option ρ) (x2:(List Int)→Option ρ):Option ρ:=
  cond (decide (v.1<p.2.2.2.2.2.2.1)) ((eS k (⟨p.2.2.2.2.2.2.2.2.2.2.2.2.2.2.2.2.1,p.2.2.2.2.2.2.2.2.2.2.2.2.2.2.2.2.2.1,p.2.2.2.2.2.2.2.2.2.2.2.2.2.2.2.2.2.2.1⟩:Shape) (IntKind.i64.wrap ((IntKind.i64.wrap (p.1*p.2.2.2.2.2.2.2.2.2.2.1))+p.2.2.2.1)) (IntKind.i64.wrap ((IntKind.i64.wrap (p.2.1*p.2.2.2.2.2.2.2.2.2.2.1))+v.1)) (0:Int)).bind fun r1=>cond (decide (p.2.2.1<(0:Int))) (cond (decide (0≤(IntKind.i64.wrap (r1+p.2.2.2.2.2.2.2.2.2.2.2.2.2.2.2.2.2.2.1))∧(IntKind.i64.wrap (r1+p.2.2.2.2.2.2.2.2.2.2.2.2.2.2.2.2.2.2.1))≤(p.2.2.2.2.2.2.2.2.2.2.2.2.2.2.2.2.2.2.2.length:Int))) (cond (decide (0≤r1∧r1≤((IntKind.i64.wrap (r1+p.2.2.2.2.2.2.2.2.2.2.2.2.2.2.2.2.2.2.1)).toNat:Int))) (cond (Nat.ble (v.2.length+((p.2.2.2.2.2.2.2.2.2.2.2.2.2.2.2.2.2.2.2.take ((IntKind.i64.wrap (r1+p.2.2.2.2.2.2.2.2.2.2.2.2.2.2.2.2.2.2.1)).toNat)).drop r1.toNat).length) b7) (next (IntKind.i64.wrap (v.1+(1:Int)),v.2++((p.2.2.2.2.2.2.2.2.2.2.2.2.2.2.2.2.2.2.2.take ((IntKind.i64.wrap (r1+p.2.2.2.2.2.2.2.2.2.2.2.2.2.2.2.2.2.2.1)).toNat)).drop r1.toNat))) none) none) none) ((idx p.2.2.2.2.2.2.2.2.2.2.2.2.2.2.2.2.2.2.2 (IntKind.i64.wrap (r1+p.2.2.1))).bind fun e2=>cond (Nat.ble (v.2.length+[e2].length) b7) (next (IntKind.i64.wrap (v.1+(1:Int)),v.2++[e2])) none)) (x2 v.2)
def bD {ρ:Type} (k:Nat) (p:Int× Int× Int× Int× Int× Int× Int× Int× Int× Int× Int× List Int× List Int× Int× Int× Int× List Int) (v:Int× List Int) (next:(Int× List Int)→Option ρ) (x0:(List Int)→Option ρ):Option ρ:=
  cond (decide (v.1<p.2.2.2.1)) (iter (fun u4 n4=>bC k (p.1,p.2.1,p.2.2.1,v.1,p.2.2.2.1,v.1,p.2.2.2.2.2.2.1,p.2.2.2.2.1,p.2.2.2.2.2.1,p.2.2.2.2.2.2.1,p.2.2.2.2.2.2.2.1,p.2.2.2.2.2.2.2.2.1,p.2.2.2.2.2.2.2.2.2.1,p.2.2.2.2.2.2.2.2.2.2.1,p.2.2.2.2.2.2.2.2.2.2.2.1,p.2.2.2.2.2.2.2.2.2.2.2.2.1,p.2.2.2.2.2.2.2.2.2.2.2.2.2.1,p.2.2.2.2.2.2.2.2.2.2.2.2.2.2.1,p.2.2.2.2.2.2.2.2.2.2.2.2.2.2.2.1,p.2.2.2.2.2.2.2.2.2.2.2.2.2.2.2.2) u4 n4 (fun y3=>next (IntKind.i64.wrap (v.1+(1:Int)),y3))) k ((0:Int),v.2)) (x0 v.2)
def bu (k:Nat) (a0:ag) (a1:al) (a2:Int) (a3:Int) (a4:Int):Option (List Int):=
  iter (fun u6 n6=>bD k (a2,a3,a4,a0.size,a0.kind,a0.out,a0.size,a0.step,a0.mult,a0.shift,a0.zero,a0.weights,a0.fX,a1.sh.h,a1.sh.w,a1.sh.c,a1.data) u6 n6 (fun y5=>some y5)) k ((0:Int),([]:List Int))
def br {ρ:Type} (k:Nat) (p:List Int) (v:Int× Int) (next:(Int× Int)→Option ρ) (x0:Int→Option ρ):Option ρ:=
  cond (decide (v.2<(p.length:Int))) ((idx p v.2).bind fun e2=>next (if e2>v.1 then e2 else v.1,IntKind.i64.wrap (v.2+(1:Int)))) (x0 v.1)
def cR (k:Nat) (a0:List Int):Option (Int):=
  cond (decide ((a0.length:Int)<(1:Int))) (none) ((idx a0 (0:Int)).bind fun e1=>iter (fun u4 n4=>br k a0 u4 n4 (fun y3=>some y3)) k (e1,(1:Int)))
def cL {ρ:Type} (k:Nat) (p:Int× Int× Int× Int× Int× Int× Int× Int× List Int× List Int× List Int) (v:Int× Int) (next:(Int× Int)→Option ρ) (x1:Int→Option ρ):Option ρ:=
  cond (decide (v.2<p.1)) (cond (decide (0≤v.2∧v.2<(p.2.2.2.2.2.2.2.2.2.2.length:Int))) ((p.2.2.2.2.2.2.2.2.2.2[v.2.toNat]?).bind fun e7=>next (IntKind.i64.wrap (v.1+e7),IntKind.i64.wrap (v.2+(1:Int)))) none) (x1 v.1)
def ig (k:Nat) (a0:ag) (a1:al) (a2:Int) (a3:Int) (a4:Int):Option (Int):=
  cond (a0.kind==(0:Int)) ((cZ k a0 a1.data a4).bind fun r1=>some r1) (cond (a0.kind==(1:Int)) ((bu k a0 a1 a2 a3 (-1:Int)).bind fun r2=>(cZ k a0 r2 a4).bind fun r3=>some r3) (cond (a0.kind==(2:Int)) ((bu k a0 a1 a2 a3 a4).bind fun r4=>(cR k r4).bind fun r5=>some r5) (cond (a0.kind==(3:Int)) ((bu k a0 a1 a2 a3 a4).bind fun r6=>iter (fun u10 n10=>cL k ((r6.length:Int),a0.kind,a0.out,a0.size,a0.step,a0.mult,a0.shift,a0.zero,a0.weights,a0.fX,r6) u10 n10 (fun y8=>(jd k y8 (IntKind.i64.wrap (a0.size*a0.size))).bind fun r9=>some r9)) k ((0:Int),(0:Int))) (cond (a0.kind==(4:Int)) ((eS k a1.sh a2 a3 a4).bind fun r11=>(idx a1.data r11).bind fun e12=>some (if a0.zero>e12 then a0.zero else e12)) ((idx a1.data a4).bind fun e13=>some e13)))))
def dD {ρ:Type} (k:Nat) (p:Int× Int× Int× Int× Int× Int× Int× Int× Int× Int× List Int× Int× Int× Int× Int× Int× Int× Int× List Int× List Int× Int× Int× Int× Int× Int× Int× Int× Int× Int) (v:Int× List Int) (next:(Int× List Int)→Option ρ) (x4:(List Int)→Option ρ):Option ρ:=
  cond (decide (v.1<p.2.2.2.2.2.2.1)) ((ig k (⟨p.2.2.2.2.2.2.2.2.2.2.2.1,p.2.2.2.2.2.2.2.2.2.2.2.2.1,p.2.2.2.2.2.2.2.2.2.2.2.2.2.1,p.2.2.2.2.2.2.2.2.2.2.2.2.2.2.1,p.2.2.2.2.2.2.2.2.2.2.2.2.2.2.2.1,p.2.2.2.2.2.2.2.2.2.2.2.2.2.2.2.2.1,p.2.2.2.2.2.2.2.2.2.2.2.2.2.2.2.2.2.1,p.2.2.2.2.2.2.2.2.2.2.2.2.2.2.2.2.2.2.1,p.2.2.2.2.2.2.2.2.2.2.2.2.2.2.2.2.2.2.2.1⟩:ag) (⟨(⟨p.2.2.2.2.2.2.2.1,p.2.2.2.2.2.2.2.2.1,p.2.2.2.2.2.2.2.2.2.1⟩:Shape),p.2.2.2.2.2.2.2.2.2.2.1⟩:al) p.1 p.2.1 v.1).bind fun r3=>cond (Nat.ble (v.2.length+[r3].length) b7) (next (IntKind.i64.wrap (v.1+(1:Int)),v.2++[r3])) none) (x4 v.2)
def dE {ρ:Type} (k:Nat) (p:Int× Int× Int× Int× Int× Int× Int× List Int× Int× Int× Int× Int× Int× Int× Int× List Int× List Int× Int× Int× Int× Int× Int× Int× Int× Int× Int) (v:Int× List Int) (next:(Int× List Int)→Option ρ) (x2:(List Int)→Option ρ):Option ρ:=
  cond (decide (v.1<p.2.2.2.1)) (iter (fun u5 n5=>dD k (p.1,v.1,p.2.1,p.2.2.1,p.2.2.2.1,v.1,p.2.2.2.2.2.2.2.2.2.2.2.2.2.2.2.2.2.2.2.2.2.2.1,p.2.2.2.2.1,p.2.2.2.2.2.1,p.2.2.2.2.2.2.1,p.2.2.2.2.2.2.2.1,p.2.2.2.2.2.2.2.2.1,p.2.2.2.2.2.2.2.2.2.1,p.2.2.2.2.2.2.2.2.2.2.1,p.2.2.2.2.2.2.2.2.2.2.2.1,p.2.2.2.2.2.2.2.2.2.2.2.2.1,p.2.2.2.2.2.2.2.2.2.2.2.2.2.1,p.2.2.2.2.2.2.2.2.2.2.2.2.2.2.1,p.2.2.2.2.2.2.2.2.2.2.2.2.2.2.2.1,p.2.2.2.2.2.2.2.2.2.2.2.2.2.2.2.2.1,p.2.2.2.2.2.2.2.2.2.2.2.2.2.2.2.2.2.1,p.2.2.2.2.2.2.2.2.2.2.2.2.2.2.2.2.2.2.1,p.2.2.2.2.2.2.2.2.2.2.2.2.2.2.2.2.2.2.2.1,p.2.2.2.2.2.2.2.2.2.2.2.2.2.2.2.2.2.2.2.2.1,p.2.2.2.2.2.2.2.2.2.2.2.2.2.2.2.2.2.2.2.2.2.1,p.2.2.2.2.2.2.2.2.2.2.2.2.2.2.2.2.2.2.2.2.2.2.1,p.2.2.2.2.2.2.2.2.2.2.2.2.2.2.2.2.2.2.2.2.2.2.2.1,p.2.2.2.2.2.2.2.2.2.2.2.2.2.2.2.2.2.2.2.2.2.2.2.2.1,p.2.2.2.2.2.2.2.2.2.2.2.2.2.2.2.2.2.2.2.2.2.2.2.2.2) u5 n5 (fun y4=>next (IntKind.i64.wrap (v.1+(1:Int)),y4))) k ((0:Int),v.2)) (x2 v.2)
def dF {ρ:Type} (k:Nat) (p:Int× Int× Int× Int× List Int× Int× Int× Int× Int× Int× Int× Int× List Int× List Int× Int× Int× Int× Int× Int× Int× Int× Int× Int) (v:Int× List Int) (next:(Int× List Int)→Option ρ) (x0:(List Int)→Option ρ):Option ρ:=
  cond (decide (v.1<p.1)) (iter (fun u7 n7=>dE k (v.1,p.1,v.1,p.2.2.2.2.2.2.2.2.2.2.2.2.2.2.2.2.2.2.1,p.2.1,p.2.2.1,p.2.2.2.1,p.2.2.2.2.1,p.2.2.2.2.2.1,p.2.2.2.2.2.2.1,p.2.2.2.2.2.2.2.1,p.2.2.2.2.2.2.2.2.1,p.2.2.2.2.2.2.2.2.2.1,p.2.2.2.2.2.2.2.2.2.2.1,p.2.2.2.2.2.2.2.2.2.2.2.1,p.2.2.2.2.2.2.2.2.2.2.2.2.1,p.2.2.2.2.2.2.2.2.2.2.2.2.2.1,p.2.2.2.2.2.2.2.2.2.2.2.2.2.2.1,p.2.2.2.2.2.2.2.2.2.2.2.2.2.2.2.1,p.2.2.2.2.2.2.2.2.2.2.2.2.2.2.2.2.1,p.2.2.2.2.2.2.2.2.2.2.2.2.2.2.2.2.2.1,p.2.2.2.2.2.2.2.2.2.2.2.2.2.2.2.2.2.2.1,p.2.2.2.2.2.2.2.2.2.2.2.2.2.2.2.2.2.2.2.1,p.2.2.2.2.2.2.2.2.2.2.2.2.2.2.2.2.2.2.2.2.1,p.2.2.2.2.2.2.2.2.2.2.2.2.2.2.2.2.2.2.2.2.2.1,p.2.2.2.2.2.2.2.2.2.2.2.2.2.2.2.2.2.2.2.2.2.2) u7 n7 (fun y6=>next (IntKind.i64.wrap (v.1+(1:Int)),y6))) k ((0:Int),v.2)) (x0 v.2)
def ll (k:Nat) (a0:al) (a1:ag):Option (al× Bool):=
  (gx k a0.sh a1).bind fun r1=>cond (!r1.2) (some ((⟨(⟨(0:Int),(0:Int),(0:Int)⟩:Shape),([]:List Int)⟩:al),false)) ((gw k a0).bind fun r2=>cond (!r2) (some ((⟨(⟨(0:Int),(0:Int),(0:Int)⟩:Shape),([]:List Int)⟩:al),false)) (iter (fun u9 n9=>dF k (r1.1.h,a0.sh.h,a0.sh.w,a0.sh.c,a0.data,a1.kind,a1.out,a1.size,a1.step,a1.mult,a1.shift,a1.zero,a1.weights,a1.fX,(0:Int),(0:Int),(0:Int),r1.1.h,r1.1.w,r1.1.c,r1.1.h,r1.1.w,r1.1.c) u9 n9 (fun y8=>some ((⟨r1.1,y8⟩:al),true))) k ((0:Int),([]:List Int))))
def bZ (k:Nat) (a0:Job):Option (Int× Int× Int× Int× List Int× Int):=
  (dC k a0).bind fun r1=>cond (decide (0≤a0.at_∧a0.at_<(a0.model.ai.length:Int))) ((a0.model.ai[a0.at_.toNat]?).bind fun e2=>(ll k a0.act e2).bind fun r3=>cond (decide (a0.model.inp.h=a0.model.inp.h)) (cond (decide (a0.model.inp.w=a0.model.inp.w)) (cond (decide (a0.model.inp.c=a0.model.inp.c)) (cond (decide (a0.model.ai=a0.model.ai)) (cond (decide (a0.act.data=a0.act.data)) (some (IntKind.i64.wrap (a0.at_+(1:Int)),r3.1.sh.h,r3.1.sh.w,r3.1.sh.c,r3.1.data,IntKind.i64.wrap (a0.cS+r1))) none) none) none) none) none) none
def cw {ρ:Type} (k:Nat) (p:Int× Int× Int× Int× Int× Int× List ag) (v:Int× Int× Int× Int× Int× List Int) (next:(Int× Int× Int× Int× Int× List Int)→Option ρ) (x0:(Int× Int× Int× Int× Int× List Int)→Option ρ):Option ρ:=
  (bq k (⟨(⟨(⟨p.2.2.2.1,p.2.2.2.2.1,p.2.2.2.2.2.1⟩:Shape),p.2.2.2.2.2.2⟩:Model),v.1,(⟨(⟨v.2.1,v.2.2.1,v.2.2.2.1⟩:Shape),v.2.2.2.2.2⟩:al),v.2.2.2.2.1⟩:Job)).bind fun r3=>cond (!r3) ((bZ k (⟨(⟨(⟨p.2.2.2.1,p.2.2.2.2.1,p.2.2.2.2.2.1⟩:Shape),p.2.2.2.2.2.2⟩:Model),v.1,(⟨(⟨v.2.1,v.2.2.1,v.2.2.2.1⟩:Shape),v.2.2.2.2.2⟩:al),v.2.2.2.2.1⟩:Job)).bind fun r4=>next (r4.1,r4.2.1,r4.2.2.1,r4.2.2.2.1,r4.2.2.2.2.2,r4.2.2.2.2.1)) (x0 (v.1,v.2.1,v.2.2.1,v.2.2.2.1,v.2.2.2.2.1,v.2.2.2.2.2))
def dX (k:Nat) (a0:Job):Option (al× Bool):=
  (jL k a0).bind fun r1=>cond (!r1) (some ((⟨(⟨(0:Int),(0:Int),(0:Int)⟩:Shape),([]:List Int)⟩:al),false)) ((dm k a0).bind fun r2=>iter (fun u6 n6=>cw k ((0:Int),(0:Int),(0:Int),r2.model.inp.h,r2.model.inp.w,r2.model.inp.c,r2.model.ai) u6 n6 (fun y5=>some ((⟨(⟨y5.2.1,y5.2.2.1,y5.2.2.2.1⟩:Shape),y5.2.2.2.2.2⟩:al),true))) k (r2.at_,r2.act.sh.h,r2.act.sh.w,r2.act.sh.c,r2.cS,r2.act.data))
def na (k:Nat) (a0:Job):Option (Job× Bool):=
  (dm k a0).bind fun r1=>(jL k a0).bind fun r2=>cond (!r2) (some (r1,false)) ((bq k a0).bind fun r3=>cond (r3) (some (r1,false)) ((bZ k r1).bind fun r4=>some ((⟨r1.model,r4.1,(⟨(⟨r4.2.1,r4.2.2.1,r4.2.2.2.1⟩:Shape),r4.2.2.2.2.1⟩:al),r4.2.2.2.2.2⟩:Job),true)))
def dY {ρ:Type} (k:Nat) (p:Int× Int× Int× Int× Int× Int× Int× Int× Int× Int× Int× List ag) (v:Int× Int× Int× Int× Int× Int× List Int) (next:(Int× Int× Int× Int× Int× Int× List Int)→Option ρ) (x0:(Int× Int× Int× Int× Int× Int× List Int)→Option ρ):Option ρ:=
  (bq k (⟨(⟨(⟨p.2.2.2.2.2.2.2.2.1,p.2.2.2.2.2.2.2.2.2.1,p.2.2.2.2.2.2.2.2.2.2.1⟩:Shape),p.2.2.2.2.2.2.2.2.2.2.2⟩:Model),v.2.1,(⟨(⟨v.2.2.1,v.2.2.2.1,v.2.2.2.2.1⟩:Shape),v.2.2.2.2.2.2⟩:al),v.2.2.2.2.2.1⟩:Job)).bind fun r3=>cond (!r3) ((dC k (⟨(⟨(⟨p.2.2.2.2.2.2.2.2.1,p.2.2.2.2.2.2.2.2.2.1,p.2.2.2.2.2.2.2.2.2.2.1⟩:Shape),p.2.2.2.2.2.2.2.2.2.2.2⟩:Model),v.2.1,(⟨(⟨v.2.2.1,v.2.2.2.1,v.2.2.2.2.1⟩:Shape),v.2.2.2.2.2.2⟩:al),v.2.2.2.2.2.1⟩:Job)).bind fun r4=>cond (decide (r4≤v.1)) ((dC k (⟨(⟨(⟨p.2.2.2.2.2.2.2.2.1,p.2.2.2.2.2.2.2.2.2.1,p.2.2.2.2.2.2.2.2.2.2.1⟩:Shape),p.2.2.2.2.2.2.2.2.2.2.2⟩:Model),v.2.1,(⟨(⟨v.2.2.1,v.2.2.2.1,v.2.2.2.2.1⟩:Shape),v.2.2.2.2.2.2⟩:al),v.2.2.2.2.2.1⟩:Job)).bind fun r5=>(bZ k (⟨(⟨(⟨p.2.2.2.2.2.2.2.2.1,p.2.2.2.2.2.2.2.2.2.1,p.2.2.2.2.2.2.2.2.2.2.1⟩:Shape),p.2.2.2.2.2.2.2.2.2.2.2⟩:Model),v.2.1,(⟨(⟨v.2.2.1,v.2.2.2.1,v.2.2.2.2.1⟩:Shape),v.2.2.2.2.2.2⟩:al),v.2.2.2.2.2.1⟩:Job)).bind fun r6=>next (IntKind.i64.wrap (v.1-r5),r6.1,r6.2.1,r6.2.2.1,r6.2.2.2.1,r6.2.2.2.2.2,r6.2.2.2.2.1)) (x0 (v.1,v.2.1,v.2.2.1,v.2.2.2.1,v.2.2.2.2.1,v.2.2.2.2.2.1,v.2.2.2.2.2.2))) (x0 (v.1,v.2.1,v.2.2.1,v.2.2.2.1,v.2.2.2.2.1,v.2.2.2.2.2.1,v.2.2.2.2.2.2))
def pw (k:Nat) (a0:Job) (a1:Int):Option (Job× Int):=
  (dm k a0).bind fun r1=>(jL k a0).bind fun r2=>cond (!r2) (some (r1,a1)) (iter (fun u8 n8=>dY k ((0:Int),(0:Int),(0:Int),(0:Int),(0:Int),(0:Int),(0:Int),(0:Int),r1.model.inp.h,r1.model.inp.w,r1.model.inp.c,r1.model.ai) u8 n8 (fun y7=>some ((⟨r1.model,y7.2.1,(⟨(⟨y7.2.2.1,y7.2.2.2.1,y7.2.2.2.2.1⟩:Shape),y7.2.2.2.2.2.2⟩:al),y7.2.2.2.2.2.1⟩:Job),y7.1))) k (if(0:Int)>a1 then(0:Int)else a1,r1.at_,r1.act.sh.h,r1.act.sh.w,r1.act.sh.c,r1.cS,r1.act.data))
end
end Go.Proofs.Ev
set_option linter.unusedVariables false
set_option linter.unusedSimpArgs false
set_option maxRecDepth 100000
set_option maxHeartbeats 4000000
namespace Go.Proofs.Ev
noncomputable section
def cy {ρ:Type} (k:Nat) (p:Int× Int× Int× List ag× Int× Int× Int) (v:Int× Int× Int× Int× List Int) (next:(Int× Int× Int× Int× List Int)→Option ρ) (x0:(Int× Int× Int× List Int)→Option ρ):Option ρ:=
  cond (decide (v.1<(p.2.2.2.1.length:Int))) ((idx p.2.2.2.1 v.1).bind fun e4=>(lk k (⟨(⟨v.2.1,v.2.2.1,v.2.2.2.1⟩:Shape),v.2.2.2.2⟩:al) e4).bind fun r5=>next (IntKind.i64.wrap (v.1+(1:Int)),r5.1.sh.h,r5.1.sh.w,r5.1.sh.c,r5.1.data)) (x0 (v.2.1,v.2.2.1,v.2.2.2.1,v.2.2.2.2))
def jO (k:Nat) (a0:Model) (a1:al):Option (al× Bool):=
  (mU k a0).bind fun r1=>cond (!r1) (some ((⟨(⟨(0:Int),(0:Int),(0:Int)⟩:Shape),([]:List Int)⟩:al),false)) ((fo k a1).bind fun r2=>cond (!r2) (some ((⟨(⟨(0:Int),(0:Int),(0:Int)⟩:Shape),([]:List Int)⟩:al),false)) (cond (!(cond (a1.sh.h==a0.inp.h) (cond (a1.sh.w==a0.inp.w) (cond (a1.sh.c==a0.inp.c) (true) false) false) false)) (some ((⟨(⟨(0:Int),(0:Int),(0:Int)⟩:Shape),([]:List Int)⟩:al),false)) ((mT k a1).bind fun r3=>iter (fun u7 n7=>cy k (a0.inp.h,a0.inp.w,a0.inp.c,a0.ai,(0:Int),(0:Int),(0:Int)) u7 n7 (fun y6=>some ((⟨(⟨y6.1,y6.2.1,y6.2.2.1⟩:Shape),y6.2.2.2⟩:al),true))) k ((0:Int),r3.sh.h,r3.sh.w,r3.sh.c,r3.data))))
end
end Go.Proofs.Ev
set_option linter.unusedVariables false
set_option linter.unusedSimpArgs false
set_option maxRecDepth 100000
namespace Go.Proofs.Ev
noncomputable section
end
end Go.Proofs.Ev
set_option linter.unusedVariables false
set_option linter.unusedSimpArgs false
set_option maxRecDepth 100000
namespace Go.Proofs.Ev
noncomputable section
end
end Go.Proofs.Ev
set_option linter.unusedVariables false
set_option linter.unusedSimpArgs false
set_option maxRecDepth 100000
namespace Go.Proofs.Ev
noncomputable section
end
end Go.Proofs.Ev
set_option linter.unusedVariables false
set_option linter.unusedSimpArgs false
set_option maxRecDepth 100000
set_option maxHeartbeats 4000000
namespace Go.Proofs.Ev
noncomputable section
def EY (k:Nat) (a0:List Int):Option (Bool):=
  some (decide ((a0.length:Int)>(1048576:Int)))
def eT {ρ:Type} (k:Nat) (p:List Int) (v:Int× Int) (next:(Int× Int)→Option ρ) (x0:Int→Option ρ):Option ρ:=
  cond (decide (v.2<(p.length:Int))) (cond (decide (v.2<(4000:Int))) ((idx p v.2).bind fun e1=>next (IntKind.i64.wrap (((BitVec.ofInt IntKind.i64.bits (IntKind.i64.wrap ((IntKind.i64.wrap ((IntKind.i64.wrap (v.1*(149:Int)))+(IntKind.i64.wrap (e1))))+(11:Int)))&&& BitVec.ofInt IntKind.i64.bits (1073741823:Int)).toNat:Int)),IntKind.i64.wrap (v.2+(1:Int)))) (x0 v.1)) (x0 v.1)
def ln (k:Nat) (a0:List Int):Option (Int× Int):=
  iter (fun u3 n3=>eT k a0 u3 n3 (fun y2=>cond (decide (a0=a0)) (some ((0:Int),y2)) none)) k (IntKind.i64.wrap ((778778:Int)+(a0.length:Int)),(0:Int))
def dZ (k:Nat) (a0_0:List Int) (a0_1:Int) (a0_2:Int):Option (Int× Int× Int):=
  cond (decide (a0_1<(a0_0.length:Int))) ((idx a0_0 a0_1).bind fun e1=>cond (decide (a0_0=a0_0)) (some (IntKind.i64.wrap (((BitVec.ofInt IntKind.i64.bits (IntKind.i64.wrap ((IntKind.i64.wrap (((BitVec.ofInt IntKind.i64.bits (IntKind.i64.wrap (((BitVec.ofInt IntKind.i64.bits ((IntKind.i64.wrap ((IntKind.i64.wrap (a0_2*(6364136223846793005:Int)))+(1442695040888963407:Int))).fdiv (2^(min (33:Int).toNat IntKind.i64.bits)))^^^ BitVec.ofInt IntKind.i64.bits ((IntKind.i64.wrap ((IntKind.i64.wrap (a0_2*(6364136223846793005:Int)))+(1442695040888963407:Int))).fdiv (2^(min (45:Int).toNat IntKind.i64.bits)))).toNat:Int)))&&& BitVec.ofInt IntKind.i64.bits (255:Int)).toNat:Int)))+(IntKind.i64.wrap (e1))))&&& BitVec.ofInt IntKind.i64.bits (255:Int)).toNat:Int)),IntKind.i64.wrap (a0_1+(1:Int)),IntKind.i64.wrap ((IntKind.i64.wrap (a0_2*(6364136223846793005:Int)))+(1442695040888963407:Int)))) none) (cond (decide (a0_0=a0_0)) (some (IntKind.i64.wrap (((BitVec.ofInt IntKind.i64.bits (IntKind.i64.wrap (((BitVec.ofInt IntKind.i64.bits ((IntKind.i64.wrap ((IntKind.i64.wrap (a0_2*(6364136223846793005:Int)))+(1442695040888963407:Int))).fdiv (2^(min (33:Int).toNat IntKind.i64.bits)))^^^ BitVec.ofInt IntKind.i64.bits ((IntKind.i64.wrap ((IntKind.i64.wrap (a0_2*(6364136223846793005:Int)))+(1442695040888963407:Int))).fdiv (2^(min (45:Int).toNat IntKind.i64.bits)))).toNat:Int)))&&& BitVec.ofInt IntKind.i64.bits (255:Int)).toNat:Int)),a0_1,IntKind.i64.wrap ((IntKind.i64.wrap (a0_2*(6364136223846793005:Int)))+(1442695040888963407:Int)))) none)
def ab (k:Nat) (a0_0:List Int) (a0_1:Int) (a0_2:Int) (a1:Int):Option (Int× Int× Int):=
  cond (decide (a1≤(0:Int))) (cond (decide (a0_0=a0_0)) (some ((0:Int),a0_1,a0_2)) none) (cond (decide (a1≤(256:Int))) ((dZ k a0_0 a0_1 a0_2).bind fun r1=>cond (decide (a1=0)) none (cond (decide (a0_0=a0_0)) (some (r1.1.tmod a1,r1.2.1,r1.2.2)) none)) ((dZ k a0_0 a0_1 a0_2).bind fun r2=>(dZ k a0_0 r2.2.1 r2.2.2).bind fun r3=>(dZ k a0_0 r3.2.1 r3.2.2).bind fun r4=>cond (decide (a1=0)) none (cond (decide (a0_0=a0_0)) (some ((IntKind.i64.wrap ((IntKind.i64.wrap ((IntKind.i64.wrap (r2.1*(65536:Int)))+(IntKind.i64.wrap (r3.1*(256:Int)))))+r4.1)).tmod a1,r4.2.1,r4.2.2)) none)))
def aR (k:Nat) (a0_0:List Int) (a0_1:Int) (a0_2:Int) (a1:List Int):Option (Int× Int× Int):=
  (ab k a0_0 a0_1 a0_2 (a1.length:Int)).bind fun r1=>(idx a1 r1.1).bind fun e2=>cond (decide (a0_0=a0_0)) (some (e2,r1.2.1,r1.2.2)) none
def fv (k:Nat) (a0_0:List Int) (a0_1:Int) (a0_2:Int) (a1:Int):Option (Bool× Int× Int):=
  (ab k a0_0 a0_1 a0_2 a1).bind fun r1=>cond (decide (a0_0=a0_0)) (some (r1.1==(0:Int),r1.2.1,r1.2.2)) none
end
end Go.Proofs.Ev
set_option linter.unusedVariables false
set_option linter.unusedSimpArgs false
set_option maxRecDepth 100000
set_option maxHeartbeats 4000000
namespace Go.Proofs.Ev
noncomputable section
def F9 (k:Nat) (a0:List Int) (a1:Int):Option (Int):=
  cond (decide (a1<(a0.length:Int))) ((idx a0 a1).bind fun e1=>some (IntKind.i64.wrap (e1))) (some ((IntKind.i64.wrap ((IntKind.i64.wrap (a1*(13:Int)))+(IntKind.i64.wrap ((a0.length:Int)*(5:Int))))).tmod (256:Int)))
end
end Go.Proofs.Ev
set_option linter.unusedVariables false
set_option linter.unusedSimpArgs false
set_option maxRecDepth 100000
set_option maxHeartbeats 4000000
namespace Go.Proofs.Ev
noncomputable section
end
end Go.Proofs.Ev
set_option linter.unusedVariables false
set_option linter.unusedSimpArgs false
set_option maxRecDepth 100000
set_option maxHeartbeats 4000000
namespace Go.Proofs.Ev
noncomputable section
def cV (k:Nat) (a0_0:List Int) (a0_1:Int) (a0_2:Int) (a1:Int):Option (Shape× Int× Int):=
  (ab k a0_0 a0_1 a0_2 a1).bind fun r1=>(ab k a0_0 r1.2.1 r1.2.2 a1).bind fun r2=>(ab k a0_0 r2.2.1 r2.2.2 (3:Int)).bind fun r3=>cond (decide (a0_0=a0_0)) (some ((⟨(IntKind.i64.wrap ((1:Int)+r1.1)),(IntKind.i64.wrap ((1:Int)+r2.1)),(IntKind.i64.wrap ((1:Int)+r3.1))⟩:Shape),r3.2.1,r3.2.2)) none
def dn (k:Nat) (a0_0:List Int) (a0_1:Int) (a0_2:Int):Option (Int× Int× Int):=
  (ab k a0_0 a0_1 a0_2 (256:Int)).bind fun r1=>(ab k a0_0 r1.2.1 r1.2.2 (256:Int)).bind fun r2=>(aR k a0_0 r2.2.1 r2.2.2 [(IntKind.i64.wrap (r1.1-(128:Int))),(IntKind.i64.wrap (r2.1-(128:Int))),(127:Int),(-128:Int),(0:Int)]).bind fun r3=>cond (decide (a0_0=a0_0)) (some (r3.1,r3.2.1,r3.2.2)) none
def aY {ρ:Type} (k:Nat) (p:Int× List Int× Int× Int× Int× Int× Int× Int× Int× Int× Int× Int× Int× Int× Int× Int) (v:Int× Int× Int× List Int) (next:(Int× Int× Int× List Int)→Option ρ) (x0:(Int× Int× List Int)→Option ρ):Option ρ:=
  cond (decide (v.1<p.1)) ((dn k p.2.1 v.2.1 v.2.2.1).bind fun r32=>cond (Nat.ble (v.2.2.2.length+[r32.1].length) b7) (next (IntKind.i64.wrap (v.1+(1:Int)),r32.2.1,r32.2.2,v.2.2.2++[r32.1])) none) (x0 (v.2.1,v.2.2.1,v.2.2.2))
def aZ {ρ:Type} (k:Nat) (p:List Int× Int× Int× Int× Int× Int× Int× Int× Int× Int× Int× Int× Int× Int× Int× List Int) (v:Int× Int× Int× List Int) (next:(Int× Int× Int× List Int)→Option ρ) (x2:(Int× Int× List Int)→Option ρ):Option ρ:=
  cond (decide (v.1<p.2.2.2.2.2.2.2.2.2.1)) ((ab k p.1 v.2.1 v.2.2.1 (400:Int)).bind fun r34=>cond (Nat.ble (v.2.2.2.length+[(IntKind.i64.wrap (r34.1-(200:Int)))].length) b7) (next (IntKind.i64.wrap (v.1+(1:Int)),r34.2.1,r34.2.2,v.2.2.2++[(IntKind.i64.wrap (r34.1-(200:Int)))])) none) (x2 (v.2.1,v.2.2.1,v.2.2.2))
def dQ (k:Nat) (a0_0:List Int) (a0_1:Int) (a0_2:Int) (a1:Shape):Option (ag× Int× Int):=
  (aR k a0_0 a0_1 a0_2 [(0:Int),(1:Int),(1:Int),(2:Int),(3:Int),(4:Int),(5:Int)]).bind fun r1=>cond (r1.1==(5:Int)) ((bg k a1).bind fun r2=>cond (decide (r2>(8:Int))) ((bI k (4:Int) (1:Int) (3:Int)).bind fun r3=>bej (fun(j12:Int→Int→Int→Int→Option _)=>cond (r3) (bej (fun(j4:Int→Option _)=>cond (decide (a1.h<(3:Int))) ((j4 a1.h)) ((j4 (3:Int)))) (fun(j4_0:Int)=>cond (decide (a1.w<j4_0)) ((ab k a0_0 r1.2.1 r1.2.2 a1.w).bind fun r8=>(ab k a0_0 r8.2.1 r8.2.2 (2:Int)).bind fun r9=>(j12 r9.2.1 r9.2.2 (IntKind.i64.wrap ((1:Int)+r8.1)) (IntKind.i64.wrap ((1:Int)+r9.1)))) ((ab k a0_0 r1.2.1 r1.2.2 j4_0).bind fun r10=>(ab k a0_0 r10.2.1 r10.2.2 (2:Int)).bind fun r11=>(j12 r11.2.1 r11.2.2 (IntKind.i64.wrap ((1:Int)+r10.1)) (IntKind.i64.wrap ((1:Int)+r11.1)))))) ((j12 r1.2.1 r1.2.2 (0:Int) (0:Int)))) (fun(j12_1:Int) (j12_2:Int) (j12_15:Int) (j12_16:Int)=>(ab k a0_0 j12_1 j12_2 (20:Int)).bind fun r13=>cond (decide (a0_0=a0_0)) (some ((⟨(4:Int),(0:Int),j12_15,j12_16,(0:Int),(0:Int),(IntKind.i64.wrap (r13.1-(10:Int))),([]:List Int),([]:List Int)⟩:ag),r13.2.1,r13.2.2)) none)) (cond (r1.1==(0:Int)) ((bg k a1).bind fun r14=>bej (fun(j15:Int→Option _)=>cond (decide (r14>(64:Int))) ((j15 (4:Int))) ((j15 r1.1))) (fun(j15_13:Int)=>(bI k j15_13 (1:Int) (3:Int)).bind fun r16=>bej (fun(j25:Int→Int→Int→Int→Option _)=>cond (r16) (bej (fun(j17:Int→Option _)=>cond (decide (a1.h<(3:Int))) ((j17 a1.h)) ((j17 (3:Int)))) (fun(j17_0:Int)=>cond (decide (a1.w<j17_0)) ((ab k a0_0 r1.2.1 r1.2.2 a1.w).bind fun r21=>(ab k a0_0 r21.2.1 r21.2.2 (2:Int)).bind fun r22=>(j25 r22.2.1 r22.2.2 (IntKind.i64.wrap ((1:Int)+r21.1)) (IntKind.i64.wrap ((1:Int)+r22.1)))) ((ab k a0_0 r1.2.1 r1.2.2 j17_0).bind fun r23=>(ab k a0_0 r23.2.1 r23.2.2 (2:Int)).bind fun r24=>(j25 r24.2.1 r24.2.2 (IntKind.i64.wrap ((1:Int)+r23.1)) (IntKind.i64.wrap ((1:Int)+r24.1)))))) ((j25 r1.2.1 r1.2.2 (0:Int) (0:Int)))) (fun(j25_1:Int) (j25_2:Int) (j25_15:Int) (j25_16:Int)=>cond (decide (j15_13≤(1:Int))) ((ab k a0_0 j25_1 j25_2 (3:Int)).bind fun r26=>(ab k a0_0 r26.2.1 r26.2.2 (16777216:Int)).bind fun r27=>(ab k a0_0 r27.2.1 r27.2.2 (10:Int)).bind fun r28=>(ab k a0_0 r28.2.1 r28.2.2 (9:Int)).bind fun r29=>(bg k a1).bind fun r30=>bej (fun(j31:Int→Option _)=>cond (j15_13==(1:Int)) ((j31 (IntKind.i64.wrap ((IntKind.i64.wrap ((IntKind.i64.wrap ((IntKind.i64.wrap ((1:Int)+r26.1))*j25_15))*j25_15))*a1.c)))) ((j31 (IntKind.i64.wrap ((IntKind.i64.wrap ((1:Int)+r26.1))*r30))))) (fun(j31_0:Int)=>iter (fun u37 n37=>aY k (j31_0,a0_0,(0:Int),(0:Int),(0:Int),(0:Int),(0:Int),(0:Int),(0:Int),j15_13,IntKind.i64.wrap ((1:Int)+r26.1),j25_15,j25_16,IntKind.i64.wrap ((1073741824:Int)+(IntKind.i64.wrap (r27.1*(60:Int)))),r28.1,IntKind.i64.wrap (r29.1-(4:Int))) u37 n37 (fun y33=>iter (fun u36 n36=>aZ k (a0_0,(0:Int),(0:Int),(0:Int),(0:Int),(0:Int),(0:Int),(0:Int),j15_13,IntKind.i64.wrap ((1:Int)+r26.1),j25_15,j25_16,IntKind.i64.wrap ((1073741824:Int)+(IntKind.i64.wrap (r27.1*(60:Int)))),r28.1,IntKind.i64.wrap (r29.1-(4:Int)),y33.2.2) u36 n36 (fun y35=>bej (fun(j39:Int→Int→Int→Option _)=>cond (j15_13==(4:Int)) ((ab k a0_0 y35.1 y35.2.1 (20:Int)).bind fun r38=>(j39 (IntKind.i64.wrap (r38.1-(10:Int))) r38.2.1 r38.2.2)) ((j39 (IntKind.i64.wrap (r29.1-(4:Int))) y35.1 y35.2.1))) (fun(j39_13:Int) (j39_15:Int) (j39_16:Int)=>cond (decide (a0_0=a0_0)) (some ((⟨j15_13,(IntKind.i64.wrap ((1:Int)+r26.1)),j25_15,j25_16,(IntKind.i64.wrap ((1073741824:Int)+(IntKind.i64.wrap (r27.1*(60:Int))))),r28.1,j39_13,y33.2.2,y35.2.2⟩:ag),j39_15,j39_16)) none))) k ((0:Int),y33.1,y33.2.1,([]:List Int)))) k ((0:Int),r29.2.1,r29.2.2,([]:List Int)))) (cond (j15_13==(4:Int)) ((ab k a0_0 j25_1 j25_2 (20:Int)).bind fun r40=>cond (decide (a0_0=a0_0)) (some ((⟨j15_13,(0:Int),j25_15,j25_16,(0:Int),(0:Int),(IntKind.i64.wrap (r40.1-(10:Int))),([]:List Int),([]:List Int)⟩:ag),r40.2.1,r40.2.2)) none) (cond (decide (a0_0=a0_0)) (some ((⟨j15_13,(0:Int),j25_15,j25_16,(0:Int),(0:Int),(0:Int),([]:List Int),([]:List Int)⟩:ag),j25_1,j25_2)) none))))) ((bI k r1.1 (1:Int) (3:Int)).bind fun r42=>bej (fun(j51:Int→Int→Int→Int→Option _)=>cond (r42) (bej (fun(j43:Int→Option _)=>cond (decide (a1.h<(3:Int))) ((j43 a1.h)) ((j43 (3:Int)))) (fun(j43_0:Int)=>cond (decide (a1.w<j43_0)) ((ab k a0_0 r1.2.1 r1.2.2 a1.w).bind fun r47=>(ab k a0_0 r47.2.1 r47.2.2 (2:Int)).bind fun r48=>(j51 r48.2.1 r48.2.2 (IntKind.i64.wrap ((1:Int)+r47.1)) (IntKind.i64.wrap ((1:Int)+r48.1)))) ((ab k a0_0 r1.2.1 r1.2.2 j43_0).bind fun r49=>(ab k a0_0 r49.2.1 r49.2.2 (2:Int)).bind fun r50=>(j51 r50.2.1 r50.2.2 (IntKind.i64.wrap ((1:Int)+r49.1)) (IntKind.i64.wrap ((1:Int)+r50.1)))))) ((j51 r1.2.1 r1.2.2 (0:Int) (0:Int)))) (fun(j51_1:Int) (j51_2:Int) (j51_15:Int) (j51_16:Int)=>cond (decide (r1.1≤(1:Int))) ((ab k a0_0 j51_1 j51_2 (3:Int)).bind fun r52=>(ab k a0_0 r52.2.1 r52.2.2 (16777216:Int)).bind fun r53=>(ab k a0_0 r53.2.1 r53.2.2 (10:Int)).bind fun r54=>(ab k a0_0 r54.2.1 r54.2.2 (9:Int)).bind fun r55=>(bg k a1).bind fun r56=>bej (fun(j57:Int→Option _)=>cond (r1.1==(1:Int)) ((j57 (IntKind.i64.wrap ((IntKind.i64.wrap ((IntKind.i64.wrap ((IntKind.i64.wrap ((1:Int)+r52.1))*j51_15))*j51_15))*a1.c)))) ((j57 (IntKind.i64.wrap ((IntKind.i64.wrap ((1:Int)+r52.1))*r56))))) (fun(j57_0:Int)=>iter (fun u63 n63=>aY k (j57_0,a0_0,(0:Int),(0:Int),(0:Int),(0:Int),(0:Int),(0:Int),(0:Int),r1.1,IntKind.i64.wrap ((1:Int)+r52.1),j51_15,j51_16,IntKind.i64.wrap ((1073741824:Int)+(IntKind.i64.wrap (r53.1*(60:Int)))),r54.1,IntKind.i64.wrap (r55.1-(4:Int))) u63 n63 (fun y59=>iter (fun u62 n62=>aZ k (a0_0,(0:Int),(0:Int),(0:Int),(0:Int),(0:Int),(0:Int),(0:Int),r1.1,IntKind.i64.wrap ((1:Int)+r52.1),j51_15,j51_16,IntKind.i64.wrap ((1073741824:Int)+(IntKind.i64.wrap (r53.1*(60:Int)))),r54.1,IntKind.i64.wrap (r55.1-(4:Int)),y59.2.2) u62 n62 (fun y61=>bej (fun(j65:Int→Int→Int→Option _)=>cond (r1.1==(4:Int)) ((ab k a0_0 y61.1 y61.2.1 (20:Int)).bind fun r64=>(j65 (IntKind.i64.wrap (r64.1-(10:Int))) r64.2.1 r64.2.2)) ((j65 (IntKind.i64.wrap (r55.1-(4:Int))) y61.1 y61.2.1))) (fun(j65_13:Int) (j65_15:Int) (j65_16:Int)=>cond (decide (a0_0=a0_0)) (some ((⟨r1.1,(IntKind.i64.wrap ((1:Int)+r52.1)),j51_15,j51_16,(IntKind.i64.wrap ((1073741824:Int)+(IntKind.i64.wrap (r53.1*(60:Int))))),r54.1,j65_13,y59.2.2,y61.2.2⟩:ag),j65_15,j65_16)) none))) k ((0:Int),y59.1,y59.2.1,([]:List Int)))) k ((0:Int),r55.2.1,r55.2.2,([]:List Int)))) (cond (r1.1==(4:Int)) ((ab k a0_0 j51_1 j51_2 (20:Int)).bind fun r66=>cond (decide (a0_0=a0_0)) (some ((⟨r1.1,(0:Int),j51_15,j51_16,(0:Int),(0:Int),(IntKind.i64.wrap (r66.1-(10:Int))),([]:List Int),([]:List Int)⟩:ag),r66.2.1,r66.2.2)) none) (cond (decide (a0_0=a0_0)) (some ((⟨r1.1,(0:Int),j51_15,j51_16,(0:Int),(0:Int),(0:Int),([]:List Int),([]:List Int)⟩:ag),j51_1,j51_2)) none)))))) (cond (r1.1==(0:Int)) ((bg k a1).bind fun r68=>bej (fun(j69:Int→Option _)=>cond (decide (r68>(64:Int))) ((j69 (4:Int))) ((j69 r1.1))) (fun(j69_13:Int)=>(bI k j69_13 (1:Int) (3:Int)).bind fun r70=>bej (fun(j79:Int→Int→Int→Int→Option _)=>cond (r70) (bej (fun(j71:Int→Option _)=>cond (decide (a1.h<(3:Int))) ((j71 a1.h)) ((j71 (3:Int)))) (fun(j71_0:Int)=>cond (decide (a1.w<j71_0)) ((ab k a0_0 r1.2.1 r1.2.2 a1.w).bind fun r75=>(ab k a0_0 r75.2.1 r75.2.2 (2:Int)).bind fun r76=>(j79 r76.2.1 r76.2.2 (IntKind.i64.wrap ((1:Int)+r75.1)) (IntKind.i64.wrap ((1:Int)+r76.1)))) ((ab k a0_0 r1.2.1 r1.2.2 j71_0).bind fun r77=>(ab k a0_0 r77.2.1 r77.2.2 (2:Int)).bind fun r78=>(j79 r78.2.1 r78.2.2 (IntKind.i64.wrap ((1:Int)+r77.1)) (IntKind.i64.wrap ((1:Int)+r78.1)))))) ((j79 r1.2.1 r1.2.2 (0:Int) (0:Int)))) (fun(j79_1:Int) (j79_2:Int) (j79_15:Int) (j79_16:Int)=>cond (decide (j69_13≤(1:Int))) ((ab k a0_0 j79_1 j79_2 (3:Int)).bind fun r80=>(ab k a0_0 r80.2.1 r80.2.2 (16777216:Int)).bind fun r81=>(ab k a0_0 r81.2.1 r81.2.2 (10:Int)).bind fun r82=>(ab k a0_0 r82.2.1 r82.2.2 (9:Int)).bind fun r83=>(bg k a1).bind fun r84=>bej (fun(j85:Int→Option _)=>cond (j69_13==(1:Int)) ((j85 (IntKind.i64.wrap ((IntKind.i64.wrap ((IntKind.i64.wrap ((IntKind.i64.wrap ((1:Int)+r80.1))*j79_15))*j79_15))*a1.c)))) ((j85 (IntKind.i64.wrap ((IntKind.i64.wrap ((1:Int)+r80.1))*r84))))) (fun(j85_0:Int)=>iter (fun u91 n91=>aY k (j85_0,a0_0,(0:Int),(0:Int),(0:Int),(0:Int),(0:Int),(0:Int),(0:Int),j69_13,IntKind.i64.wrap ((1:Int)+r80.1),j79_15,j79_16,IntKind.i64.wrap ((1073741824:Int)+(IntKind.i64.wrap (r81.1*(60:Int)))),r82.1,IntKind.i64.wrap (r83.1-(4:Int))) u91 n91 (fun y87=>iter (fun u90 n90=>aZ k (a0_0,(0:Int),(0:Int),(0:Int),(0:Int),(0:Int),(0:Int),(0:Int),j69_13,IntKind.i64.wrap ((1:Int)+r80.1),j79_15,j79_16,IntKind.i64.wrap ((1073741824:Int)+(IntKind.i64.wrap (r81.1*(60:Int)))),r82.1,IntKind.i64.wrap (r83.1-(4:Int)),y87.2.2) u90 n90 (fun y89=>bej (fun(j93:Int→Int→Int→Option _)=>cond (j69_13==(4:Int)) ((ab k a0_0 y89.1 y89.2.1 (20:Int)).bind fun r92=>(j93 (IntKind.i64.wrap (r92.1-(10:Int))) r92.2.1 r92.2.2)) ((j93 (IntKind.i64.wrap (r83.1-(4:Int))) y89.1 y89.2.1))) (fun(j93_13:Int) (j93_15:Int) (j93_16:Int)=>cond (decide (a0_0=a0_0)) (some ((⟨j69_13,(IntKind.i64.wrap ((1:Int)+r80.1)),j79_15,j79_16,(IntKind.i64.wrap ((1073741824:Int)+(IntKind.i64.wrap (r81.1*(60:Int))))),r82.1,j93_13,y87.2.2,y89.2.2⟩:ag),j93_15,j93_16)) none))) k ((0:Int),y87.1,y87.2.1,([]:List Int)))) k ((0:Int),r83.2.1,r83.2.2,([]:List Int)))) (cond (j69_13==(4:Int)) ((ab k a0_0 j79_1 j79_2 (20:Int)).bind fun r94=>cond (decide (a0_0=a0_0)) (some ((⟨j69_13,(0:Int),j79_15,j79_16,(0:Int),(0:Int),(IntKind.i64.wrap (r94.1-(10:Int))),([]:List Int),([]:List Int)⟩:ag),r94.2.1,r94.2.2)) none) (cond (decide (a0_0=a0_0)) (some ((⟨j69_13,(0:Int),j79_15,j79_16,(0:Int),(0:Int),(0:Int),([]:List Int),([]:List Int)⟩:ag),j79_1,j79_2)) none))))) ((bI k r1.1 (1:Int) (3:Int)).bind fun r96=>bej (fun(j105:Int→Int→Int→Int→Option _)=>cond (r96) (bej (fun(j97:Int→Option _)=>cond (decide (a1.h<(3:Int))) ((j97 a1.h)) ((j97 (3:Int)))) (fun(j97_0:Int)=>cond (decide (a1.w<j97_0)) ((ab k a0_0 r1.2.1 r1.2.2 a1.w).bind fun r101=>(ab k a0_0 r101.2.1 r101.2.2 (2:Int)).bind fun r102=>(j105 r102.2.1 r102.2.2 (IntKind.i64.wrap ((1:Int)+r101.1)) (IntKind.i64.wrap ((1:Int)+r102.1)))) ((ab k a0_0 r1.2.1 r1.2.2 j97_0).bind fun r103=>(ab k a0_0 r103.2.1 r103.2.2 (2:Int)).bind fun r104=>(j105 r104.2.1 r104.2.2 (IntKind.i64.wrap ((1:Int)+r103.1)) (IntKind.i64.wrap ((1:Int)+r104.1)))))) ((j105 r1.2.1 r1.2.2 (0:Int) (0:Int)))) (fun(j105_1:Int) (j105_2:Int) (j105_15:Int) (j105_16:Int)=>cond (decide (r1.1≤(1:Int))) ((ab k a0_0 j105_1 j105_2 (3:Int)).bind fun r106=>(ab k a0_0 r106.2.1 r106.2.2 (16777216:Int)).bind fun r107=>(ab k a0_0 r107.2.1 r107.2.2 (10:Int)).bind fun r108=>(ab k a0_0 r108.2.1 r108.2.2 (9:Int)).bind fun r109=>(bg k a1).bind fun r110=>bej (fun(j111:Int→Option _)=>cond (r1.1==(1:Int)) ((j111 (IntKind.i64.wrap ((IntKind.i64.wrap ((IntKind.i64.wrap ((IntKind.i64.wrap ((1:Int)+r106.1))*j105_15))*j105_15))*a1.c)))) ((j111 (IntKind.i64.wrap ((IntKind.i64.wrap ((1:Int)+r106.1))*r110))))) (fun(j111_0:Int)=>iter (fun u117 n117=>aY k (j111_0,a0_0,(0:Int),(0:Int),(0:Int),(0:Int),(0:Int),(0:Int),(0:Int),r1.1,IntKind.i64.wrap ((1:Int)+r106.1),j105_15,j105_16,IntKind.i64.wrap ((1073741824:Int)+(IntKind.i64.wrap (r107.1*(60:Int)))),r108.1,IntKind.i64.wrap (r109.1-(4:Int))) u117 n117 (fun y113=>iter (fun u116 n116=>aZ k (a0_0,(0:Int),(0:Int),(0:Int),(0:Int),(0:Int),(0:Int),(0:Int),r1.1,IntKind.i64.wrap ((1:Int)+r106.1),j105_15,j105_16,IntKind.i64.wrap ((1073741824:Int)+(IntKind.i64.wrap (r107.1*(60:Int)))),r108.1,IntKind.i64.wrap (r109.1-(4:Int)),y113.2.2) u116 n116 (fun y115=>bej (fun(j119:Int→Int→Int→Option _)=>cond (r1.1==(4:Int)) ((ab k a0_0 y115.1 y115.2.1 (20:Int)).bind fun r118=>(j119 (IntKind.i64.wrap (r118.1-(10:Int))) r118.2.1 r118.2.2)) ((j119 (IntKind.i64.wrap (r109.1-(4:Int))) y115.1 y115.2.1))) (fun(j119_13:Int) (j119_15:Int) (j119_16:Int)=>cond (decide (a0_0=a0_0)) (some ((⟨r1.1,(IntKind.i64.wrap ((1:Int)+r106.1)),j105_15,j105_16,(IntKind.i64.wrap ((1073741824:Int)+(IntKind.i64.wrap (r107.1*(60:Int))))),r108.1,j119_13,y113.2.2,y115.2.2⟩:ag),j119_15,j119_16)) none))) k ((0:Int),y113.1,y113.2.1,([]:List Int)))) k ((0:Int),r109.2.1,r109.2.2,([]:List Int)))) (cond (r1.1==(4:Int)) ((ab k a0_0 j105_1 j105_2 (20:Int)).bind fun r120=>cond (decide (a0_0=a0_0)) (some ((⟨r1.1,(0:Int),j105_15,j105_16,(0:Int),(0:Int),(IntKind.i64.wrap (r120.1-(10:Int))),([]:List Int),([]:List Int)⟩:ag),r120.2.1,r120.2.2)) none) (cond (decide (a0_0=a0_0)) (some ((⟨r1.1,(0:Int),j105_15,j105_16,(0:Int),(0:Int),(0:Int),([]:List Int),([]:List Int)⟩:ag),j105_1,j105_2)) none)))))
def cq {ρ:Type} (k:Nat) (p:Int× List Int× Int× Int× Int× Int× Int× Int) (v:Int× Int× Int× Int× Int× Int× List ag) (next:(Int× Int× Int× Int× Int× Int× List ag)→Option ρ) (x0:(Int× Int× List ag)→Option ρ):Option ρ:=
  cond (decide (v.1<p.1)) ((dQ k p.2.1 v.2.1 v.2.2.1 (⟨v.2.2.2.1,v.2.2.2.2.1,v.2.2.2.2.2.1⟩:Shape)).bind fun r1=>(fq k (⟨v.2.2.2.1,v.2.2.2.2.1,v.2.2.2.2.2.1⟩:Shape) r1.1).bind fun r2=>cond (!r2.2) (x0 (r1.2.1,r1.2.2,v.2.2.2.2.2.2)) (cond (Nat.ble (v.2.2.2.2.2.2.length+1) b7) (next (IntKind.i64.wrap (v.1+(1:Int)),r1.2.1,r1.2.2,r2.1.h,r2.1.w,r2.1.c,v.2.2.2.2.2.2++[r1.1])) none)) (x0 (v.2.1,v.2.2.1,v.2.2.2.2.2.2))
def eU (k:Nat) (a0_0:List Int) (a0_1:Int) (a0_2:Int) (a1:Shape) (a2:Int):Option (Model× Int× Int):=
  iter (fun u4 n4=>cq k (a2,a0_0,(0:Int),(0:Int),(0:Int),a1.h,a1.w,a1.c) u4 n4 (fun y3=>cond (decide (a0_0=a0_0)) (some ((⟨a1,y3.2.2⟩:Model),y3.1,y3.2.1)) none)) k ((0:Int),a0_1,a0_2,a1.h,a1.w,a1.c,([]:List ag))
def dR (k:Nat) (a0_0:List Int) (a0_1:Int) (a0_2:Int):Option (Model× Int× Int):=
  (cV k a0_0 a0_1 a0_2 (4:Int)).bind fun r1=>(ab k a0_0 r1.2.1 r1.2.2 (4:Int)).bind fun r2=>(eU k a0_0 r2.2.1 r2.2.2 r1.1 (IntKind.i64.wrap ((1:Int)+r2.1))).bind fun r3=>cond (decide (a0_0=a0_0)) (some (r3.1,r3.2.1,r3.2.2)) none
def ij (k:Nat) (a0_0:List Int) (a0_1:Int) (a0_2:Int) (a1:ag):Option (ag× Int× Int):=
  (ab k a0_0 a0_1 a0_2 (9:Int)).bind fun r1=>cond (r1.1==(0:Int)) ((aR k a0_0 r1.2.1 r1.2.2 [(-1:Int),(0:Int),(2:Int),(5:Int),(6:Int)]).bind fun r2=>cond (decide (a0_0=a0_0)) (some ((⟨r2.1,a1.out,a1.size,a1.step,a1.mult,a1.shift,a1.zero,a1.weights,a1.fX⟩:ag),r2.2.1,r2.2.2)) none) (cond (r1.1==(1:Int)) ((aR k a0_0 r1.2.1 r1.2.2 [(0:Int),(8:Int),(9:Int)]).bind fun r3=>cond (decide (a0_0=a0_0)) (some ((⟨a1.kind,r3.1,a1.size,a1.step,a1.mult,a1.shift,a1.zero,a1.weights,a1.fX⟩:ag),r3.2.1,r3.2.2)) none) (cond (r1.1==(2:Int)) ((aR k a0_0 r1.2.1 r1.2.2 [(0:Int),(3:Int),(4:Int)]).bind fun r4=>cond (decide (a0_0=a0_0)) (some ((⟨a1.kind,a1.out,r4.1,a1.step,a1.mult,a1.shift,a1.zero,a1.weights,a1.fX⟩:ag),r4.2.1,r4.2.2)) none) (cond (r1.1==(3:Int)) ((aR k a0_0 r1.2.1 r1.2.2 [(0:Int),(2:Int),(3:Int)]).bind fun r5=>cond (decide (a0_0=a0_0)) (some ((⟨a1.kind,a1.out,a1.size,r5.1,a1.mult,a1.shift,a1.zero,a1.weights,a1.fX⟩:ag),r5.2.1,r5.2.2)) none) (cond (r1.1==(4:Int)) ((aR k a0_0 r1.2.1 r1.2.2 [(-1:Int),(2147483647:Int),(2147483648:Int)]).bind fun r6=>cond (decide (a0_0=a0_0)) (some ((⟨a1.kind,a1.out,a1.size,a1.step,r6.1,a1.shift,a1.zero,a1.weights,a1.fX⟩:ag),r6.2.1,r6.2.2)) none) (cond (r1.1==(5:Int)) ((aR k a0_0 r1.2.1 r1.2.2 [(-1:Int),(31:Int),(32:Int)]).bind fun r7=>cond (decide (a0_0=a0_0)) (some ((⟨a1.kind,a1.out,a1.size,a1.step,a1.mult,r7.1,a1.zero,a1.weights,a1.fX⟩:ag),r7.2.1,r7.2.2)) none) (cond (r1.1==(6:Int)) ((aR k a0_0 r1.2.1 r1.2.2 [(-128:Int),(-129:Int),(127:Int),(128:Int)]).bind fun r8=>cond (decide (a0_0=a0_0)) (some ((⟨a1.kind,a1.out,a1.size,a1.step,a1.mult,a1.shift,r8.1,a1.weights,a1.fX⟩:ag),r8.2.1,r8.2.2)) none) (cond (r1.1==(7:Int)) ((aR k a0_0 r1.2.1 r1.2.2 [(0:Int),(128:Int)]).bind fun r9=>cond (Nat.ble (a1.weights.length+[r9.1].length) b7) (cond (decide (a0_0=a0_0)) (some ((⟨a1.kind,a1.out,a1.size,a1.step,a1.mult,a1.shift,a1.zero,(a1.weights++[r9.1]),a1.fX⟩:ag),r9.2.1,r9.2.2)) none) none) (cond (r1.1==(8:Int)) ((aR k a0_0 r1.2.1 r1.2.2 [(0:Int),(1000001:Int)]).bind fun r10=>cond (Nat.ble (a1.fX.length+[r10.1].length) b7) (cond (decide (a0_0=a0_0)) (some ((⟨a1.kind,a1.out,a1.size,a1.step,a1.mult,a1.shift,a1.zero,a1.weights,(a1.fX++[r10.1])⟩:ag),r10.2.1,r10.2.2)) none) none) (cond (decide (a0_0=a0_0)) (some (a1,r1.2.1,r1.2.2)) none)))))))))
def ca {ρ:Type} (k:Nat) (p:List Int× Int× Int× Int× Int× Int× Int) (v:Int× Int× List ag) (next:(Int× Int× List ag)→Option ρ) (x1:(Int× Int× List ag)→Option ρ):Option ρ:=
  (ab k p.1 v.1 v.2.1 (2:Int)).bind fun r9=>cond (decide ((v.2.2.length:Int)<(IntKind.i64.wrap ((6:Int)+r9.1)))) (cond (Nat.ble (v.2.2.length+1) b7) (next (r9.2.1,r9.2.2,v.2.2++[(⟨(4:Int),(0:Int),(0:Int),(0:Int),(0:Int),(0:Int),(0:Int),([]:List Int),([]:List Int)⟩:ag)])) none) (x1 (r9.2.1,r9.2.2,v.2.2))
def dS (k:Nat) (a0_0:List Int) (a0_1:Int) (a0_2:Int):Option (Model× Int× Int):=
  (dR k a0_0 a0_1 a0_2).bind fun r1=>(fv k a0_0 r1.2.1 r1.2.2 (10:Int)).bind fun r2=>cond (r2.1) (cond (decide ((r1.1.ai.length:Int)>(0:Int))) ((ab k a0_0 r2.2.1 r2.2.2 (4:Int)).bind fun r3=>cond (r3.1==(0:Int)) ((aR k a0_0 r3.2.1 r3.2.2 [(0:Int),(9:Int),(IntKind.i64.wrap (r1.1.inp.c+(1:Int)))]).bind fun r4=>cond (decide (a0_0=a0_0)) (some ((⟨(⟨r1.1.inp.h,r1.1.inp.w,r4.1⟩:Shape),r1.1.ai⟩:Model),r4.2.1,r4.2.2)) none) (cond (r3.1==(1:Int)) ((ab k a0_0 r3.2.1 r3.2.2 (r1.1.ai.length:Int)).bind fun r5=>cond (decide (0≤r5.1∧r5.1<(r1.1.ai.length:Int))) ((r1.1.ai[r5.1.toNat]?).bind fun e6=>(ij k a0_0 r5.2.1 r5.2.2 e6).bind fun r7=>cond (decide (0≤r5.1∧r5.1<((iH r1.1.ai r5.1.toNat).length:Int))) ((mq ((iH r1.1.ai r5.1.toNat).set r5.1.toNat (some r7.1))).bind fun z8=>cond (decide (a0_0=a0_0)) (some ((⟨r1.1.inp,z8⟩:Model),r7.2.1,r7.2.2)) none) none) none) (cond (r3.1==(2:Int)) (cond (decide (a0_0=a0_0)) (some ((⟨r1.1.inp,([]:List ag)⟩:Model),r3.2.1,r3.2.2)) none) (cond (r3.1==(3:Int)) (iter (fun u11 n11=>ca k (a0_0,(0:Int),(0:Int),(0:Int),r1.1.inp.h,r1.1.inp.w,r1.1.inp.c) u11 n11 (fun y10=>cond (decide (a0_0=a0_0)) (some ((⟨r1.1.inp,y10.2.2⟩:Model),y10.1,y10.2.1)) none)) k (r3.2.1,r3.2.2,r1.1.ai)) (cond (decide (a0_0=a0_0)) (some (r1.1,r3.2.1,r3.2.2)) none))))) (cond (decide (a0_0=a0_0)) (some (r1.1,r2.2.1,r2.2.2)) none)) (cond (decide (a0_0=a0_0)) (some (r1.1,r2.2.1,r2.2.2)) none)
def bX {ρ:Type} (k:Nat) (p:List Int× Int× Int× Int× Int× Int× Int× Int× Int× Int) (v:Int× Int× Int× List Int) (next:(Int× Int× Int× List Int)→Option ρ) (x0:(Int× Int× List Int)→Option ρ):Option ρ:=
  (bg k (⟨p.2.1,p.2.2.1,p.2.2.2.1⟩:Shape)).bind fun r1=>cond (decide (v.1<r1)) ((dn k p.1 v.2.1 v.2.2.1).bind fun r2=>cond (Nat.ble (v.2.2.2.length+[r2.1].length) b7) (next (IntKind.i64.wrap (v.1+(1:Int)),r2.2.1,r2.2.2,v.2.2.2++[r2.1])) none) (x0 (v.2.1,v.2.2.1,v.2.2.2))
def b6 (k:Nat) (a0_0:List Int) (a0_1:Int) (a0_2:Int) (a1:Shape):Option (al× Int× Int):=
  iter (fun u4 n4=>bX k (a0_0,a1.h,a1.w,a1.c,(0:Int),(0:Int),(0:Int),a1.h,a1.w,a1.c) u4 n4 (fun y3=>cond (decide (a0_0=a0_0)) (some ((⟨a1,y3.2.2⟩:al),y3.1,y3.2.1)) none)) k ((0:Int),a0_1,a0_2,([]:List Int))
def dT (k:Nat) (a0_0:List Int) (a0_1:Int) (a0_2:Int):Option (al× Int× Int):=
  (cV k a0_0 a0_1 a0_2 (4:Int)).bind fun r1=>(b6 k a0_0 r1.2.1 r1.2.2 r1.1).bind fun r2=>(fv k a0_0 r2.2.1 r2.2.2 (8:Int)).bind fun r3=>cond (r3.1) ((ab k a0_0 r3.2.1 r3.2.2 (4:Int)).bind fun r4=>cond (r4.1==(0:Int)) ((aR k a0_0 r4.2.1 r4.2.2 [(0:Int),(8:Int),(9:Int)]).bind fun r5=>cond (decide (a0_0=a0_0)) (some ((⟨(⟨r5.1,r2.1.sh.w,r2.1.sh.c⟩:Shape),r2.1.data⟩:al),r5.2.1,r5.2.2)) none) (cond (r4.1==(1:Int)) (cond (Nat.ble (r2.1.data.length+[(0:Int)].length) b7) (cond (decide (a0_0=a0_0)) (some ((⟨r2.1.sh,(r2.1.data++[(0:Int)])⟩:al),r4.2.1,r4.2.2)) none) none) (cond (r4.1==(2:Int)) ((ab k a0_0 r4.2.1 r4.2.2 (r2.1.data.length:Int)).bind fun r6=>(aR k a0_0 r6.2.1 r6.2.2 [(128:Int),(-129:Int)]).bind fun r7=>cond (decide (0≤r6.1∧r6.1<(r2.1.data.length:Int))) (cond (decide (a0_0=a0_0)) (some ((⟨r2.1.sh,(r2.1.data.set r6.1.toNat r7.1)⟩:al),r7.2.1,r7.2.2)) none) none) (cond (r4.1==(3:Int)) ((b6 k a0_0 r4.2.1 r4.2.2 (⟨(8:Int),(8:Int),(8:Int)⟩:Shape)).bind fun r8=>cond (decide (a0_0=a0_0)) (some (r8.1,r8.2.1,r8.2.2)) none) (cond (decide (a0_0=a0_0)) (some (r2.1,r4.2.1,r4.2.2)) none))))) (cond (decide (a0_0=a0_0)) (some (r2.1,r3.2.1,r3.2.2)) none)
def eV (k:Nat) (a0:List Int):Option (Model× al):=
  (ln k a0).bind fun r1=>(dS k a0 r1.1 r1.2).bind fun r2=>(b6 k a0 r2.2.1 r2.2.2 r2.1.inp).bind fun r3=>(fv k a0 r3.2.1 r3.2.2 (15:Int)).bind fun r4=>cond (r4.1) ((dT k a0 r4.2.1 r4.2.2).bind fun r5=>some (r2.1,r5.1)) (some (r2.1,r3.1))
def dp (k:Nat) (a0:al) (a1:al):Option (Bool):=
  (gw k a0).bind fun r1=>cond (r1) ((gd k a0 a1).bind fun r2=>some r2) (some false)
end
end Go.Proofs.Ev
set_option linter.unusedVariables false
set_option linter.unusedSimpArgs false
set_option maxRecDepth 100000
set_option maxHeartbeats 4000000
namespace Go.Proofs.Ev
noncomputable section
def iE (k:Nat) (a0:List Int):Option (Model× al):=
  (eV k a0).bind fun r1=>some (r1.1,r1.2)
def nc (k:Nat) (a0:Job):Option (Bool):=
  (jL k a0).bind fun r1=>cond (r1) ((bq k a0).bind fun r2=>some r2) (some false)
def cz {ρ:Type} (k:Nat) (p:List Int× Int× List Int× Int× Int× Int× Int× Int× Int× Int× Int× Int× Int× Int× Int× Int× Int× List ag× List ag× List Int× List Int) (v:Int× Int) (next:(Int× Int)→Option ρ) (x2:Int→Option ρ):Option ρ:=
  cond (decide (v.2<(p.2.2.1.length:Int))) ((idx p.2.2.1 v.2).bind fun e7=>next (IntKind.i64.wrap (v.1+e7),IntKind.i64.wrap (v.2+(1:Int)))) (x2 v.1)
def fw {ρ:Type} (k:Nat) (p:List Int× Int× Int× Int× Int× Int× Int× List ag× List Int) (v:Int× Int× Int× Int× Int× Int× Int× Int× Int× List ag× List Int) (next:(Int× Int× Int× Int× Int× Int× Int× Int× Int× List ag× List Int)→Option ρ) (x0:(Int× Int× Int× Int× Int× Int× Int× Int× List ag× List Int)→Option ρ) (xret:Bool→Option ρ):Option ρ:=
  cond (decide (v.1<(20:Int))) ((nc k (⟨(⟨(⟨v.2.1,v.2.2.1,v.2.2.2.1⟩:Shape),v.2.2.2.2.2.2.2.2.2.1⟩:Model),v.2.2.2.2.1,(⟨(⟨v.2.2.2.2.2.1,v.2.2.2.2.2.2.1,v.2.2.2.2.2.2.2.1⟩:Shape),v.2.2.2.2.2.2.2.2.2.2⟩:al),v.2.2.2.2.2.2.2.2.1⟩:Job)).bind fun r5=>cond (!r5) ((mZ k (⟨(⟨(⟨v.2.1,v.2.2.1,v.2.2.2.1⟩:Shape),v.2.2.2.2.2.2.2.2.2.1⟩:Model),v.2.2.2.2.1,(⟨(⟨v.2.2.2.2.2.1,v.2.2.2.2.2.2.1,v.2.2.2.2.2.2.2.1⟩:Shape),v.2.2.2.2.2.2.2.2.2.2⟩:al),v.2.2.2.2.2.2.2.2.1⟩:Job)).bind fun r6=>iter (fun u17 n17=>cz k (p.1,v.1,r6,p.2.1,p.2.2.1,p.2.2.2.1,v.2.1,v.2.2.1,v.2.2.2.1,v.2.2.2.2.1,v.2.2.2.2.2.1,v.2.2.2.2.2.2.1,v.2.2.2.2.2.2.2.1,v.2.2.2.2.2.2.2.2.1,p.2.2.2.2.1,p.2.2.2.2.2.1,p.2.2.2.2.2.2.1,p.2.2.2.2.2.2.2.1,v.2.2.2.2.2.2.2.2.2.1,v.2.2.2.2.2.2.2.2.2.2,p.2.2.2.2.2.2.2.2) u17 n17 (fun y8=>(dX k (⟨(⟨(⟨v.2.1,v.2.2.1,v.2.2.2.1⟩:Shape),v.2.2.2.2.2.2.2.2.2.1⟩:Model),v.2.2.2.2.1,(⟨(⟨v.2.2.2.2.2.1,v.2.2.2.2.2.2.1,v.2.2.2.2.2.2.2.1⟩:Shape),v.2.2.2.2.2.2.2.2.2.2⟩:al),v.2.2.2.2.2.2.2.2.1⟩:Job)).bind fun r9=>cond (!r9.2) (xret false) ((dp k r9.1 (⟨(⟨p.2.2.2.2.1,p.2.2.2.2.2.1,p.2.2.2.2.2.2.1⟩:Shape),p.2.2.2.2.2.2.2.2⟩:al)).bind fun r10=>cond (!r10) (xret false) ((jK k (⟨(⟨p.2.1,p.2.2.1,p.2.2.2.1⟩:Shape),p.2.2.2.2.2.2.2.1⟩:Model)).bind fun r11=>cond ((IntKind.i64.wrap (v.2.2.2.2.2.2.2.2.1+y8)) !=r11) (xret false) ((tv k (⟨(⟨(⟨v.2.1,v.2.2.1,v.2.2.2.1⟩:Shape),v.2.2.2.2.2.2.2.2.2.1⟩:Model),v.2.2.2.2.1,(⟨(⟨v.2.2.2.2.2.1,v.2.2.2.2.2.2.1,v.2.2.2.2.2.2.2.1⟩:Shape),v.2.2.2.2.2.2.2.2.2.2⟩:al),v.2.2.2.2.2.2.2.2.1⟩:Job)).bind fun r12=>cond (!r12) (xret false) ((F9 k p.1 v.1).bind fun r13=>(pw k (⟨(⟨(⟨v.2.1,v.2.2.1,v.2.2.2.1⟩:Shape),v.2.2.2.2.2.2.2.2.2.1⟩:Model),v.2.2.2.2.1,(⟨(⟨v.2.2.2.2.2.1,v.2.2.2.2.2.2.1,v.2.2.2.2.2.2.2.1⟩:Shape),v.2.2.2.2.2.2.2.2.2.2⟩:al),v.2.2.2.2.2.2.2.2.1⟩:Job) (r13.tmod (12:Int))).bind fun r14=>cond (decide (r14.2<(0:Int))) (xret false) (cond ((IntKind.i64.wrap (r14.1.cS-v.2.2.2.2.2.2.2.2.1)) !=(IntKind.i64.wrap ((r13.tmod (12:Int))-r14.2))) (xret false) (cond (r14.2==(r13.tmod (12:Int))) ((na k r14.1).bind fun r15=>cond (!r15.2) (xret false) ((dC k r14.1).bind fun r16=>cond (r15.1.cS !=(IntKind.i64.wrap (r14.1.cS+r16))) (xret false) (next (IntKind.i64.wrap (v.1+(1:Int)),r15.1.model.inp.h,r15.1.model.inp.w,r15.1.model.inp.c,r15.1.at_,r15.1.act.sh.h,r15.1.act.sh.w,r15.1.act.sh.c,r15.1.cS,r15.1.model.ai,r15.1.act.data)))) (next (IntKind.i64.wrap (v.1+(1:Int)),r14.1.model.inp.h,r14.1.model.inp.w,r14.1.model.inp.c,r14.1.at_,r14.1.act.sh.h,r14.1.act.sh.w,r14.1.act.sh.c,r14.1.cS,r14.1.model.ai,r14.1.act.data)))))))))) k ((0:Int),(0:Int))) (x0 (v.2.1,v.2.2.1,v.2.2.2.1,v.2.2.2.2.1,v.2.2.2.2.2.1,v.2.2.2.2.2.2.1,v.2.2.2.2.2.2.2.1,v.2.2.2.2.2.2.2.2.1,v.2.2.2.2.2.2.2.2.2.1,v.2.2.2.2.2.2.2.2.2.2))) (x0 (v.2.1,v.2.2.1,v.2.2.2.1,v.2.2.2.2.1,v.2.2.2.2.2.1,v.2.2.2.2.2.2.1,v.2.2.2.2.2.2.2.1,v.2.2.2.2.2.2.2.2.1,v.2.2.2.2.2.2.2.2.2.1,v.2.2.2.2.2.2.2.2.2.2))
def nd (k:Nat) (a0:List Int):Option (Bool):=
  (EY k a0).bind fun r1=>cond (r1) (some true) ((iE k a0).bind fun r2=>(lj k r2.1 r2.2).bind fun r3=>(jO k r2.1 r2.2).bind fun r4=>cond (!(r3.2==r4.2)) (some false) (cond (!r4.2) (some true) (iter (fun u22 n22=>fw k (a0,r2.1.inp.h,r2.1.inp.w,r2.1.inp.c,r4.1.sh.h,r4.1.sh.w,r4.1.sh.c,r2.1.ai,r4.1.data) u22 n22 (fun y18=>(dX k (⟨(⟨(⟨y18.1,y18.2.1,y18.2.2.1⟩:Shape),y18.2.2.2.2.2.2.2.2.1⟩:Model),y18.2.2.2.1,(⟨(⟨y18.2.2.2.2.1,y18.2.2.2.2.2.1,y18.2.2.2.2.2.2.1⟩:Shape),y18.2.2.2.2.2.2.2.2.2⟩:al),y18.2.2.2.2.2.2.2.1⟩:Job)).bind fun r19=>cond (r19.2) ((dp k r19.1 r4.1).bind fun r20=>some r20) (some false)) (fun y21=>some y21)) k ((0:Int),r3.1.model.inp.h,r3.1.model.inp.w,r3.1.model.inp.c,r3.1.at_,r3.1.act.sh.h,r3.1.act.sh.w,r3.1.act.sh.c,r3.1.cS,r3.1.model.ai,r3.1.act.data))))
end
end Go.Proofs.Ev
set_option linter.unusedVariables false
set_option linter.unusedSimpArgs false
set_option maxRecDepth 100000
namespace Go.Proofs.Ev
noncomputable section
end
end Go.Proofs.Ev
set_option linter.unusedVariables false
namespace Go.Proofs.Ev
theorem EZ (a b:Nat):((a:Int) !=(b:Int))=decide (a≠b):=by
  rw[Ce];congr 1;rw[eq_iff_iff];omega
theorem E0 {R:Type} {xs:List Int} (a:Option R) (yes:Option R):(cond (decide ((xs.length:Int)<(xs.length:Int))) a yes)=yes:=by
  rw[ae,if_neg (by omega)]
theorem E1 {xs ys:List Int} {r:Option Bool} (h:xs.length=ys.length→r=if xs=ys then some true else some false):(cond ((xs.length:Int) !=(ys.length:Int)) (some false) r)=some (decide (xs=ys)):=by
  rw[EZ,ae]
  by_cases c:xs.length=ys.length
  · rw[if_neg (by simp[c]),h c];split<;>simp[*]
  · rw[if_pos c,decide_eq_false (fun e=>c (by rw[e]))]
theorem Aa {R:Type} {xs ys:List Int} {i n:Nat} (hi:i<xs.length) (hi':i<ys.length) (hn:i<n) (hx:xs.length≤pn) (next:Int→Option R) (no yes:Option R):
    (cond (decide ((i:Int)<(n:Int))) ((idx xs i).bind fun e1=>(idx ys i).bind fun e2=>cond (e1 !=e2) no (next (IntKind.i64.wrap ((i:Int)+(1:Int))))) yes)=if xs[i]=ys[i]then next ((i+1:Nat):Int)else no:=by
  unfold pn at hx
  rw[ae,if_pos (by omega),bF,bF,aK hi,aK hi',Option.bind_some,Option.bind_some,aU hi (by omega)]
  rw[tq]
theorem je {k:Nat} {xs ys:List Int} (hk:xs.length<k) (hx:xs.length≤pn):di k xs ys=some (decide (xs=ys)):=
  E1 fun c=>Cf xs ys c (fun i hi hi' next=>Aa hi hi' hi hx next _ _) (fun next=>E0 _ _) hk
theorem o5 {k:Nat} {a b:al} (hk:a.data.length<k) (ha:a.data.length≤pn):gd k a b=some (decide (a=b)):=by
  obtain⟨⟨s1,s2,s3⟩,d⟩:=a
  obtain⟨⟨t1,t2,t3⟩,d'⟩:=b
  simp only at hk ha
  unfold gd
  simp only[Option.bind_some,je hk ha]
  by_cases h1:s1=t1<;>by_cases h2:s2=t2<;>by_cases h3:s3=t3<;>by_cases h4:d=d'<;>simp[h1,h2,h3,h4,tq,yQ]
end Go.Proofs.Ev
set_option linter.unusedVariables false
set_option linter.unusedSimpArgs false
namespace Go.Proofs.Ev
def marked (m:Int) (n:Nat):List Int:=(List.range n).map fun(i:Nat)=>m+(i:Int)
@[simp] theorem DI (m:Int) (n:Nat):(marked m n).length=n:=by simp[marked]
def inB (x a b:Int):Bool:=decide (a≤x∧x≤b)
theorem c7 (k:Nat) (x a b:Int):bI k x a b=some (inB x a b):=by
  unfold bI inB
  rw[ae]
  by_cases h:a≤x<;>simp[h]
theorem kK (k:Nat) (x a b:Int):vh k x a b=some (inB x a b):=by
  unfold vh inB
  rw[ae]
  by_cases h:a≤x<;>simp[h]
def Shape.okB (s:Shape):Bool:=inB s.h 1 8&&(inB s.w 1 8&&inB s.c 1 8)
theorem fR (k:Nat) (s:Shape):fQ k s=some s.okB:=by
  unfold fQ Shape.okB
  simp only[c7,aa]
  cases inB s.h 1 8<;>cases inB s.w 1 8<;>rfl
theorem kL (k:Nat) (s:Shape):iX k s=some s.okB:=by
  unfold iX Shape.okB
  simp only[kK,aa]
  cases inB s.h 1 8<;>cases inB s.w 1 8<;>rfl
theorem Shape.ng {s:Shape} (h:s.okB=true):1≤s.h∧s.h≤8∧1≤s.w∧s.w≤8∧1≤s.c∧s.c≤8:=by
  simp only[Shape.okB,inB,Bool.and_eq_true,decide_eq_true_eq]at h
  omega
def Shape.size (s:Shape):Int:=cond s.okB (s.h*s.w*s.c) 0
theorem Shape.xj (s:Shape):0≤s.size∧s.size≤512:=by
  unfold Shape.size
  cases h:s.okB
  · simp
  · obtain⟨h1,h2,h3,h4,h5,h6⟩:=Shape.ng h
    have:=kI (show 0≤s.h by omega) h2 (show 0≤s.w by omega) h4
    have:=kI this.1 this.2 (show 0≤s.c by omega) h6
    simpa using this
theorem vi {s:Shape} (h:s.okB=true):IntKind.i64.wrap (IntKind.i64.wrap (s.h*s.w)*s.c)=s.h*s.w*s.c:=by
  obtain⟨h1,h2,h3,h4,h5,h6⟩:=Shape.ng h
  have a:=kI (show 0≤s.h by omega) h2 (show 0≤s.w by omega) h4
  have b:=kI a.1 a.2 (show 0≤s.c by omega) h6
  rw[aN (n:=s.h*s.w) (by omega) (by omega),aN (by omega) (by omega)]
theorem ed (k:Nat) (s:Shape):bg k s=some s.size:=by
  unfold bg Shape.size
  simp only[fR,aa,cond_not]
  cases h:s.okB
  · rfl
  · simp only[cond_true,vi h]
theorem l6 (k:Nat) (s:Shape):fF k s=some s.size:=by
  unfold fF Shape.size
  simp only[kL,aa,cond_not]
  cases h:s.okB
  · rfl
  · simp only[cond_true,vi h]
def kM (xs:List Int):Bool:=xs.all fun x=>inB x (-128) 127
def al.okB (t:al):Bool:=t.sh.okB&&(decide ((t.data.length:Int)=t.sh.size)&&kM t.data)
theorem gf {k:Nat} {t:al} (hk:t.data.length<k) (hx:t.data.length≤pn):fo k t=some t.okB:=by
  unfold pn at hx
  unfold fo al.okB
  simp only[fR,ed,aa,cond_not,tq]
  cases t.sh.okB
  · rfl
  simp only[cond_true,Bool.true_and]
  by_cases h:(t.data.length:Int)=t.sh.size
  · rw[if_pos h,decide_eq_true h,Bool.true_and]
    rw[tr t.data (fun x=>inB x (-128) 127) (fun i hi next=>by
      simp only[dy,ae,dM,c7,aa,cond_not]
      rw[if_pos (by omega),bF,aK hi,aa,aU hi (by omega)]) (fun next=>by
      simp only[dy,ae];rw[if_neg (by omega)]) hk]
    show _=some (t.data.all _)
    cases t.data.all fun x=>inB x (-128) 127<;>rfl
  · rw[if_neg h,decide_eq_false h];rfl
theorem oL {α:Type} {p:α→Bool} (xs:List α):((xs.findIdx? p).elim (some (-1:Int)) fun i=>some (i:Int))=some ((xs.findIdx? p).elim (-1) fun i=>(i:Int)):=by
  cases xs.findIdx? p<;>rfl
theorem rY {α:Type} {p:α→Bool} (xs:List α):decide (((xs.findIdx? p).elim (-1:Int) fun i=>(i:Int))≥0)=xs.any p:=by
  cases h:xs.findIdx? p with
  | none =>
    rw[List.findIdx?_eq_none_iff]at h
    have:xs.any p=false:=by simpa using h
    rw[this];rfl
  | some i =>
    have:xs.any p=true:=by
      have:=List.findIdx?_eq_some_iff_getElem.1 h
      obtain⟨hi,hp,_⟩:=this
      exact List.any_eq_true.2 ⟨_,List.getElem_mem hi,hp⟩
    rw[this];simp
theorem nh {k:Nat} {xs:List Int} (hk:xs.length<k) (hx:xs.length≤pn):iY k xs=some (kM xs):=by
  unfold pn at hx
  unfold iY aQ aV
  rw[vf xs (fun x=>!inB x (-128) 127) (fun i hi next=>by
    simp only[aA,ae,jI,kK,aa]
    rw[if_pos (by omega),bF,aK hi,aa,aU hi (by omega)]) (fun next=>by
    simp only[aA,ae];rw[if_neg (by omega)]) hk]
  rw[oL]
  simp only[aa,rY]
  unfold kM
  rw[List.any_eq_not_all_not];simp
theorem jP {k:Nat} {t:al} (hk:t.data.length<k) (hx:t.data.length≤pn):gw k t=some t.okB:=by
  unfold gw al.okB
  simp only[kL,l6,aa,yQ,nh hk hx]
  cases t.sh.okB
  · rfl
  simp only[cond_true,Bool.true_and]
  by_cases h:(t.data.length:Int)=t.sh.size
  · rw[if_pos h,decide_eq_true h,Bool.true_and]
  · rw[if_neg h,decide_eq_false h];rfl
theorem j1 {a b:Nat} {α:Type} {x y:α} (h:a≤b):cond (Nat.ble a b) x y=x:=by rw[Nat.ble_eq_true_of_le h];rfl
theorem vj {k:Nat} {xs:List Int} (hk:xs.length<k) (hx:xs.length≤b7):mS k xs=some xs:=by
  rw[bm]at hx
  unfold mS
  have:=yR xs (fun x=>x) (g:=fun u next=>dh k xs u next (fun y=>some y)) (fin:=some) (fun i ys hi next hl=>by
    simp only[dh,ae]
    rw[if_pos (by omega),bF,aK hi,aa,j1 (by rw[bm,hl];simp;omega),aU hi (by omega)]) (fun ys next=>by
    simp only[dh,ae];rw[if_neg (by omega)]) hk
  simpa using this
theorem Ci {ρ:Type} (x:Option ρ):both x x=x:=by unfold both;simp
theorem cM {k:Nat} {xs:List Int} (hx:xs.length≤b7):bB k xs=some xs:=by
  unfold bB
  rw[j1 (by simpa using hx)]
  cases xs with
  |nil=>simp only[isNil,cond_true,List.append_nil];exact Ci _
  |cons x l=>rfl
theorem ni {k:Nat} {t:al} (hx:t.data.length≤b7):eR k t=some t:=by
  unfold eR
  rw[cM hx];rfl
theorem vk {k:Nat} {t:al} (hk:t.data.length<k) (hx:t.data.length≤b7):mT k t=some t:=by
  unfold mT
  rw[vj hk hx];rfl
end Go.Proofs.Ev
set_option linter.unusedVariables false
set_option linter.unusedSimpArgs false
namespace Go.Proofs.Ev
def al.tot (x:al):Nat:=x.data.length+(0)
def ag.tot (x:ag):Nat:=x.weights.length+(x.fX.length+(0))
def Model.tot (x:Model):Nat:=oK ag.tot x.ai+(0)
def Job.tot (x:Job):Nat:=x.model.tot+(x.act.tot+(0))
def Task.tot (x:Task):Nat:=x.CG.length+(0)
def CH.tot (x:CH):Nat:=oK Task.tot x.tasks+(0)
def Request.tot (x:Request):Nat:=x.job.tot+(0)
def Runtime.tot (x:Runtime):Nat:=x.sched.tot+(oK Model.tot x.Fk+(x.Fl.length+(oK Request.tot x.CI+(0))))
def Step.tot (x:Step):Nat:=x.data.length+(x.input.tot+(0))
def Event.tot (x:Event):Nat:=x.out.tot+(0)
def Entry.tot (x:Entry):Nat:=x.model.tot+(x.input.tot+(0))
end Go.Proofs.Ev
set_option linter.unusedVariables false
set_option linter.unusedSimpArgs false
namespace Go.Proofs.Ev
end Go.Proofs.Ev
set_option linter.unusedVariables false
set_option linter.unusedSimpArgs false
namespace Go.Proofs.Ev
theorem Cj {β R:Type} (n:Nat) (f:Nat→β) {g:Int× List β→(Int× List β→Option R)→Option R} {fin:List β→Option R}
    (h:∀(i:Nat) (ys:List β) (hi:i<n) (next:Int× List β→Option R),ys.length=i→g ((i:Int),ys) next=next (((i+1:Nat):Int),ys++[f i]))
    (hn:∀ys next,g ((n:Int),ys) next=fin ys) {k:Nat} (hk:n<k):iter g k (0,[])=fin ((List.range n).map f):=by
  have:=fE (g:=g) (st:=fun i=>((i:Int),(List.range i).map f)) (n:=n) (r:=fin ((List.range n).map f)) (fun i hi next=>by
    rw[h i _ hi next (by simp),List.range_succ,List.map_append];rfl) (fun next=>hn _ _) hk
  simpa using this
def takes (x:Step):Int:=cond (inB x.kind 4 5&&inB x.a 0 200) x.a 0
end Go.Proofs.Ev
