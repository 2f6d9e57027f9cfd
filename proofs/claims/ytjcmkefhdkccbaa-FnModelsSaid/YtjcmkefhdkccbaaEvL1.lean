/- Typed functions and what holds of them: part 1. -/
import Derived.Test.YtjcmkefhdkccbaaEvK6
import Derived.Test.YtjcmkefhdkccbaaEvK7
set_option linter.unusedVariables false
set_option linter.unusedSimpArgs false
set_option linter.unusedVariables false
set_option linter.unusedSimpArgs false
set_option maxRecDepth 100000
namespace Go.Proofs.Ev
noncomputable section
def dk {ρ:Type} (k:Nat) (p:List Int) (v:Int× List Int) (next:(Int× List Int)→Option ρ) (x0:(List Int)→Option ρ):Option ρ:=
  cond (decide (v.1<(p.length:Int))) ((idx p v.1).bind fun e1=>cond (Nat.ble (v.2.length+[e1].length) cK) (next (IntKind.i64.wrap (v.1+(1:Int)),v.2++[e1])) none) (x0 v.2)
def mQ (k:Nat) (a0:List Int):Option (List Int):=
  iter (fun u3 n3=>dk k a0 u3 n3 (fun y2=>some y2)) k ((0:Int),([]:List Int))
def mR (k:Nat) (a0:aA):Option (aA):=
  (mQ k a0.data).bind fun r1=>some (⟨a0.sh,r1⟩:aA)
def bQ (k:Nat) (a0:Int) (a1:Int) (a2:Int):Option (Bool):=
  cond (decide (a1≤a0)) (some (decide (a0≤a2))) (some false)
def fS (k:Nat) (a0:Shape):Option (Bool):=
  (bQ k a0.h (1:Int) (8:Int)).bind fun r1=>cond (r1) ((bQ k a0.w (1:Int) (8:Int)).bind fun r2=>cond (r2) ((bQ k a0.c (1:Int) (8:Int)).bind fun r3=>some r3) (some false)) (some false)
def bK (k:Nat) (a0:Shape):Option (Int):=
  (fS k a0).bind fun r1=>cond (!r1) (some (0:Int)) (some (IntKind.i64.wrap ((IntKind.i64.wrap (a0.h*a0.w))*a0.c)))
def dN (k:Nat) (a0:Int):Option (Bool):=
  (bQ k a0 (-128:Int) (127:Int)).bind fun r1=>some r1
def dy {ρ:Type} (k:Nat) (p:Int× Int× Int× List Int) (v:Int) (next:Int→Option ρ) (x0:Unit→Option ρ) (xret:Bool→Option ρ):Option ρ:=
  cond (decide (v<(p.2.2.2.length:Int))) ((idx p.2.2.2 v).bind fun e3=>(dN k e3).bind fun r4=>cond (!r4) (xret false) (next (IntKind.i64.wrap (v+(1:Int))))) (x0 ())
def gx (k:Nat) (a0:aA):Option (Bool):=
  (fS k a0.sh).bind fun r1=>cond (!r1) (some false) ((bK k a0.sh).bind fun r2=>cond ((a0.data.length:Int) !=r2) (some false) (iter (fun u7 n7=>dy k (a0.sh.h,a0.sh.w,a0.sh.c,a0.data) u7 n7 (fun y5=>some true) (fun y6=>some y6)) k (0:Int)))
def bZ (k:Nat) (a0:List Int):Option (List Int):=
  cond (isNil a0) (both (some ([]:List Int)) (cond (Nat.ble (([]:List Int).length+a0.length) cK) (some (([]:List Int)++a0)) none)) (cond (Nat.ble (([]:List Int).length+a0.length) cK) (some (([]:List Int)++a0)) none)
def vq (k:Nat) (a0:Int) (a1:Int) (a2:Int):Option (Bool):=
  cond (decide (a1≤a0)) (some (decide (a0≤a2))) (some false)
def iX (k:Nat) (a0:Shape):Option (Bool):=
  (vq k a0.h (1:Int) (8:Int)).bind fun r1=>cond (r1) ((vq k a0.w (1:Int) (8:Int)).bind fun r2=>cond (r2) ((vq k a0.c (1:Int) (8:Int)).bind fun r3=>some r3) (some false)) (some false)
def cU (k:Nat) (a0:Shape):Option (Int):=
  (iX k a0).bind fun r1=>cond (!r1) (some (0:Int)) (some (IntKind.i64.wrap ((IntKind.i64.wrap (a0.h*a0.w))*a0.c)))
def jK (k:Nat) (a0:Int):Option (Bool):=
  (vq k a0 (-128:Int) (127:Int)).bind fun r1=>some (!r1)
def aD {ρ:Type} (k:Nat) (p:List Int× Int) (v:Int) (next:Int→Option ρ) (x0:Unit→Option ρ) (xret:Int→Option ρ):Option ρ:=
  cond (decide (v<p.2)) ((idx p.1 v).bind fun e1=>(jK k e1).bind fun r2=>cond (r2) (xret v) (next (IntKind.i64.wrap (v+(1:Int))))) (x0 ())
def aZ (k:Nat) (a0:List Int):Option (Int):=
  iter (fun u5 n5=>aD k (a0,(a0.length:Int)) u5 n5 (fun y3=>some (-1:Int)) (fun y4=>some y4)) k (0:Int)
def aU (k:Nat) (a0:List Int):Option (Bool):=
  (aZ k a0).bind fun r1=>some (decide (r1≥(0:Int)))
def iY (k:Nat) (a0:List Int):Option (Bool):=
  (aU k a0).bind fun r1=>some (!r1)
def gy (k:Nat) (a0:aA):Option (Bool):=
  (iX k a0.sh).bind fun r1=>cond (r1) ((cU k a0.sh).bind fun r2=>cond ((a0.data.length:Int)==r2) ((iY k a0.data).bind fun r3=>some r3) (some false)) (some false)
def b6 {ρ:Type} (k:Nat) (p:List Int× List Int× Int) (v:Int) (next:Int→Option ρ) (x0:Unit→Option ρ) (xret:Bool→Option ρ):Option ρ:=
  cond (decide (v<p.2.2)) ((idx p.1 v).bind fun e1=>(idx p.2.1 v).bind fun e2=>cond (e1 !=e2) (xret false) (next (IntKind.i64.wrap (v+(1:Int))))) (x0 ())
def bD (k:Nat) (a0:List Int) (a1:List Int):Option (Bool):=
  cond ((a0.length:Int) !=(a1.length:Int)) (some false) (iter (fun u5 n5=>b6 k (a0,a1,(a0.length:Int)) u5 n5 (fun y3=>some true) (fun y4=>some y4)) k (0:Int))
def gg (k:Nat) (a0:aA) (a1:aA):Option (Bool):=
  cond (cond (a0.sh.h==a1.sh.h) (cond (a0.sh.w==a1.sh.w) (cond (a0.sh.c==a1.sh.c) (true) false) false) false) ((bD k a0.data a1.data).bind fun r1=>some r1) (some false)
end
end Go.Proofs.Ev
set_option linter.unusedVariables false
set_option linter.unusedSimpArgs false
set_option maxRecDepth 100000
namespace Go.Proofs.Ev
noncomputable section
end
end Go.Proofs.Ev
set_option linter.unusedVariables false
set_option linter.unusedSimpArgs false
set_option maxRecDepth 100000
namespace Go.Proofs.Ev
noncomputable section
def cu {ρ:Type} (k:Nat) (p:Int× Int× Int× Int× Int× Int× Int× List Int× List Int) (v:Int) (next:Int→Option ρ) (x0:Unit→Option ρ) (xret:Bool→Option ρ):Option ρ:=
  cond (decide (v<(p.2.2.2.2.2.2.2.2.length:Int))) ((idx p.2.2.2.2.2.2.2.2 v).bind fun e7=>(bQ k e7 (-1000000:Int) (1000000:Int)).bind fun r8=>cond (!r8) (xret false) (next (IntKind.i64.wrap (v+(1:Int))))) (x0 ())
def cw {ρ:Type} (k:Nat) (p:Int× Int× Int× Int× Int× Int× Int× List Int× List Int) (v:Int) (next:Int→Option ρ) (x2:Unit→Option ρ) (xret:Bool→Option ρ):Option ρ:=
  cond (decide (v<(p.2.2.2.2.2.2.2.1.length:Int))) ((idx p.2.2.2.2.2.2.2.1 v).bind fun e10=>(dN k e10).bind fun r11=>cond (!r11) (xret false) (next (IntKind.i64.wrap (v+(1:Int))))) (x2 ())
def lf (k:Nat) (a0:ai) (a1:Bool) (a2:Bool):Option (Bool):=
  cond (a1) ((bQ k a0.size (1:Int) (3:Int)).bind fun r1=>cond (!r1) (some false) ((bQ k a0.step (1:Int) (2:Int)).bind fun r2=>cond (!r2) (some false) (cond (a2) ((bQ k a0.out (1:Int) (8:Int)).bind fun r3=>cond (!r3) (some false) ((bQ k a0.mult (0:Int) (2147483647:Int)).bind fun r4=>cond (!r4) (some false) ((bQ k a0.shift (0:Int) (31:Int)).bind fun r5=>cond (!r5) (some false) ((dN k a0.zero).bind fun r6=>cond (!r6) (some false) (cond ((a0.fK.length:Int) !=a0.out) (some false) (iter (fun u16 n16=>cu k (a0.kind,a0.out,a0.size,a0.step,a0.mult,a0.shift,a0.zero,a0.weights,a0.fK) u16 n16 (fun y9=>iter (fun u14 n14=>cw k (a0.kind,a0.out,a0.size,a0.step,a0.mult,a0.shift,a0.zero,a0.weights,a0.fK) u14 n14 (fun y12=>some true) (fun y13=>some y13)) k (0:Int)) (fun y15=>some y15)) k (0:Int))))))) (cond (a0.out !=(0:Int)) (some false) (cond (a0.mult !=(0:Int)) (some false) (cond (a0.shift !=(0:Int)) (some false) (cond (decide ((a0.weights.length:Int)>(0:Int))) (some false) (cond (decide ((a0.fK.length:Int)>(0:Int))) (some false) (cond (a0.kind==(4:Int)) ((dN k a0.zero).bind fun r17=>some r17) (some (a0.zero==(0:Int)))))))))))) (cond (a0.size !=(0:Int)) (some false) (cond (a0.step !=(0:Int)) (some false) (cond (a2) ((bQ k a0.out (1:Int) (8:Int)).bind fun r18=>cond (!r18) (some false) ((bQ k a0.mult (0:Int) (2147483647:Int)).bind fun r19=>cond (!r19) (some false) ((bQ k a0.shift (0:Int) (31:Int)).bind fun r20=>cond (!r20) (some false) ((dN k a0.zero).bind fun r21=>cond (!r21) (some false) (cond ((a0.fK.length:Int) !=a0.out) (some false) (iter (fun u31 n31=>cu k (a0.kind,a0.out,a0.size,a0.step,a0.mult,a0.shift,a0.zero,a0.weights,a0.fK) u31 n31 (fun y24=>iter (fun u29 n29=>cw k (a0.kind,a0.out,a0.size,a0.step,a0.mult,a0.shift,a0.zero,a0.weights,a0.fK) u29 n29 (fun y27=>some true) (fun y28=>some y28)) k (0:Int)) (fun y30=>some y30)) k (0:Int))))))) (cond (a0.out !=(0:Int)) (some false) (cond (a0.mult !=(0:Int)) (some false) (cond (a0.shift !=(0:Int)) (some false) (cond (decide ((a0.weights.length:Int)>(0:Int))) (some false) (cond (decide ((a0.fK.length:Int)>(0:Int))) (some false) (cond (a0.kind==(4:Int)) ((dN k a0.zero).bind fun r32=>some r32) (some (a0.zero==(0:Int))))))))))))
def gz (k:Nat) (a0:Shape) (a1:ai):Option (Shape× Bool):=
  (fS k a0).bind fun r1=>cond (!r1) (some ((⟨(0:Int),(0:Int),(0:Int)⟩:Shape),false)) ((bQ k a1.kind (0:Int) (5:Int)).bind fun r2=>cond (!r2) (some ((⟨(0:Int),(0:Int),(0:Int)⟩:Shape),false)) ((bQ k a1.kind (1:Int) (3:Int)).bind fun r3=>(lf k a1 r3 (decide (a1.kind≤(1:Int)))).bind fun r4=>cond (!r4) (some ((⟨(0:Int),(0:Int),(0:Int)⟩:Shape),false)) (cond (r3) (cond (decide (a1.size>a0.h)) (some ((⟨(0:Int),(0:Int),(0:Int)⟩:Shape),false)) (cond (decide (a1.size>a0.w)) (some ((⟨(0:Int),(0:Int),(0:Int)⟩:Shape),false)) (cond (decide (a1.step=0)) none (cond (decide (a1.step=0)) none (cond (a1.kind==(0:Int)) ((bK k a0).bind fun r5=>cond (decide (r5>(64:Int))) (some ((⟨(0:Int),(0:Int),(0:Int)⟩:Shape),false)) ((bK k a0).bind fun r6=>cond ((a1.weights.length:Int) !=(IntKind.i64.wrap (a1.out*r6))) (some ((⟨(0:Int),(0:Int),(0:Int)⟩:Shape),false)) (some ((⟨(1:Int),(1:Int),a1.out⟩:Shape),true)))) (cond (a1.kind==(1:Int)) (cond ((a1.weights.length:Int) !=(IntKind.i64.wrap ((IntKind.i64.wrap ((IntKind.i64.wrap (a1.out*a1.size))*a1.size))*a0.c))) (some ((⟨(0:Int),(0:Int),(0:Int)⟩:Shape),false)) (cond (decide ((a1.weights.length:Int)>(600:Int))) (some ((⟨(0:Int),(0:Int),(0:Int)⟩:Shape),false)) (some ((⟨(IntKind.i64.wrap ((IntKind.i64.wrap ((IntKind.i64.wrap (a0.h-a1.size)).tdiv a1.step))+(1:Int))),(IntKind.i64.wrap ((IntKind.i64.wrap ((IntKind.i64.wrap (a0.w-a1.size)).tdiv a1.step))+(1:Int))),a1.out⟩:Shape),true)))) (cond (a1.kind==(5:Int)) ((bK k a0).bind fun r7=>cond (decide (r7>(8:Int))) (some ((⟨(0:Int),(0:Int),(0:Int)⟩:Shape),false)) ((bK k a0).bind fun r8=>some ((⟨(1:Int),(1:Int),r8⟩:Shape),true))) (some ((⟨(IntKind.i64.wrap ((IntKind.i64.wrap ((IntKind.i64.wrap (a0.h-a1.size)).tdiv a1.step))+(1:Int))),(IntKind.i64.wrap ((IntKind.i64.wrap ((IntKind.i64.wrap (a0.w-a1.size)).tdiv a1.step))+(1:Int))),a0.c⟩:Shape),true))))))))) (cond (a1.kind==(0:Int)) ((bK k a0).bind fun r9=>cond (decide (r9>(64:Int))) (some ((⟨(0:Int),(0:Int),(0:Int)⟩:Shape),false)) ((bK k a0).bind fun r10=>cond ((a1.weights.length:Int) !=(IntKind.i64.wrap (a1.out*r10))) (some ((⟨(0:Int),(0:Int),(0:Int)⟩:Shape),false)) (some ((⟨(1:Int),(1:Int),a1.out⟩:Shape),true)))) (cond (a1.kind==(1:Int)) (cond ((a1.weights.length:Int) !=(IntKind.i64.wrap ((IntKind.i64.wrap ((IntKind.i64.wrap (a1.out*a1.size))*a1.size))*a0.c))) (some ((⟨(0:Int),(0:Int),(0:Int)⟩:Shape),false)) (cond (decide ((a1.weights.length:Int)>(600:Int))) (some ((⟨(0:Int),(0:Int),(0:Int)⟩:Shape),false)) (some ((⟨a0.h,a0.w,a1.out⟩:Shape),true)))) (cond (a1.kind==(5:Int)) ((bK k a0).bind fun r11=>cond (decide (r11>(8:Int))) (some ((⟨(0:Int),(0:Int),(0:Int)⟩:Shape),false)) ((bK k a0).bind fun r12=>some ((⟨(1:Int),(1:Int),r12⟩:Shape),true))) (some (a0,true))))))))
def cC {ρ:Type} (k:Nat) (p:Int× Int× Int× List ai) (v:Int× List Shape) (next:(Int× List Shape)→Option ρ) (x0:(List Shape)→Option ρ) (xret:Bool→Option ρ):Option ρ:=
  cond (decide (v.1<(p.2.2.2.length:Int))) (cond (decide (0≤v.1∧v.1<(v.2.length:Int))) ((v.2[v.1.toNat]?).bind fun e3=>(idx p.2.2.2 v.1).bind fun e4=>(gz k e3 e4).bind fun r5=>cond (!r5.2) (xret false) (cond (Nat.ble (v.2.length+[r5.1].length) cK) (next (IntKind.i64.wrap (v.1+(1:Int)),v.2++[r5.1])) none)) none) (x0 v.2)
def jL (k:Nat) (a0:Model):Option (List Shape× Bool):=
  (fS k a0.inp).bind fun r1=>cond (!r1) (some (([]:List Shape),false)) ((bQ k (a0.ab.length:Int) (1:Int) (6:Int)).bind fun r2=>cond (!r2) (some (([]:List Shape),false)) (iter (fun u8 n8=>cC k (a0.inp.h,a0.inp.w,a0.inp.c,a0.ab) u8 n8 (fun y6=>some (y6,true)) (fun y7=>some (([]:List Shape),y7))) k ((0:Int),[a0.inp])))
def iZ (k:Nat) (a0:Model):Option (Bool):=
  (jL k a0).bind fun r1=>some r1.2
def cQ (k:Nat) (a0:ai):Option (Bool):=
  cond (a0.size==(0:Int)) (some (a0.step==(0:Int))) (some false)
def dY (k:Nat) (a0:Int):Option (Bool):=
  (vq k a0 (-1000000:Int) (1000000:Int)).bind fun r1=>some (!r1)
def az {ρ:Type} (k:Nat) (p:List Int× Int) (v:Int) (next:Int→Option ρ) (x0:Unit→Option ρ) (xret:Int→Option ρ):Option ρ:=
  cond (decide (v<p.2)) ((idx p.1 v).bind fun e1=>(dY k e1).bind fun r2=>cond (r2) (xret v) (next (IntKind.i64.wrap (v+(1:Int))))) (x0 ())
def aS (k:Nat) (a0:List Int):Option (Int):=
  iter (fun u5 n5=>az k (a0,(a0.length:Int)) u5 n5 (fun y3=>some (-1:Int)) (fun y4=>some y4)) k (0:Int)
def aE (k:Nat) (a0:List Int):Option (Bool):=
  (aS k a0).bind fun r1=>some (decide (r1≥(0:Int)))
def cZ (k:Nat) (a0:ai) (a1:Int):Option (Bool):=
  (vq k a0.out (1:Int) (8:Int)).bind fun r1=>cond (r1) ((vq k a0.mult (0:Int) (2147483647:Int)).bind fun r2=>cond (r2) ((vq k a0.shift (0:Int) (31:Int)).bind fun r3=>cond (r3) ((vq k a0.zero (-128:Int) (127:Int)).bind fun r4=>cond (r4) (cond ((a0.weights.length:Int)==(IntKind.i64.wrap (a0.out*a1))) ((iY k a0.weights).bind fun r5=>cond (r5) (cond ((a0.fK.length:Int)==a0.out) ((aE k a0.fK).bind fun r6=>some (!r6)) (some false)) (some false)) (some false)) (some false)) (some false)) (some false)) (some false)
def cn (k:Nat) (a0:ai) (a1:Shape):Option (Bool):=
  (vq k a0.size (1:Int) (if a1.w<(if a1.h<(3:Int)then a1.h else(3:Int))then a1.w else(if a1.h<(3:Int)then a1.h else(3:Int)))).bind fun r1=>cond (r1) ((vq k a0.step (1:Int) (2:Int)).bind fun r2=>some r2) (some false)
def cR (k:Nat) (a0:ai) (a1:Shape) (a2:Int):Option (Shape):=
  cond (decide (a0.step=0)) none (cond (decide (a0.step=0)) none (some (⟨(IntKind.i64.wrap ((IntKind.i64.wrap ((IntKind.i64.wrap (a1.h-a0.size)).tdiv a0.step))+(1:Int))),(IntKind.i64.wrap ((IntKind.i64.wrap ((IntKind.i64.wrap (a1.w-a0.size)).tdiv a0.step))+(1:Int))),a2⟩:Shape)))
def cD (k:Nat) (a0:ai):Option (Bool):=
  cond (a0.out==(0:Int)) (cond (a0.mult==(0:Int)) (cond (a0.shift==(0:Int)) (cond ((a0.weights.length:Int)==(0:Int)) (some ((a0.fK.length:Int)==(0:Int))) (some false)) (some false)) (some false)) (some false)
def gA (k:Nat) (a0:Shape) (a1:ai):Option (Shape× Bool):=
  (iX k a0).bind fun r1=>cond (!r1) (some ((⟨(0:Int),(0:Int),(0:Int)⟩:Shape),false)) ((cU k a0).bind fun r2=>cond (a1.kind==(0:Int)) (cond (decide (r2≤(64:Int))) ((cQ k a1).bind fun r3=>cond (r3) ((cZ k a1 r2).bind fun r4=>cond (r4) (some ((⟨(1:Int),(1:Int),a1.out⟩:Shape),true)) (some ((⟨(0:Int),(0:Int),(0:Int)⟩:Shape),false))) (some ((⟨(0:Int),(0:Int),(0:Int)⟩:Shape),false))) (some ((⟨(0:Int),(0:Int),(0:Int)⟩:Shape),false))) (cond (a1.kind==(1:Int)) ((cn k a1 a0).bind fun r5=>cond (r5) (cond (decide ((a1.weights.length:Int)≤(600:Int))) ((cZ k a1 (IntKind.i64.wrap ((IntKind.i64.wrap (a1.size*a1.size))*a0.c))).bind fun r6=>cond (r6) ((cR k a1 a0 a1.out).bind fun r7=>some (r7,true)) (some ((⟨(0:Int),(0:Int),(0:Int)⟩:Shape),false))) (some ((⟨(0:Int),(0:Int),(0:Int)⟩:Shape),false))) (some ((⟨(0:Int),(0:Int),(0:Int)⟩:Shape),false))) (cond (a1.kind==(2:Int)) ((cn k a1 a0).bind fun r8=>cond (r8) ((cD k a1).bind fun r9=>cond (r9) (cond (a1.zero==(0:Int)) ((cR k a1 a0 a0.c).bind fun r10=>some (r10,true)) (some ((⟨(0:Int),(0:Int),(0:Int)⟩:Shape),false))) (some ((⟨(0:Int),(0:Int),(0:Int)⟩:Shape),false))) (some ((⟨(0:Int),(0:Int),(0:Int)⟩:Shape),false))) (cond (a1.kind==(3:Int)) ((cn k a1 a0).bind fun r11=>cond (r11) ((cD k a1).bind fun r12=>cond (r12) (cond (a1.zero==(0:Int)) ((cR k a1 a0 a0.c).bind fun r13=>some (r13,true)) (some ((⟨(0:Int),(0:Int),(0:Int)⟩:Shape),false))) (some ((⟨(0:Int),(0:Int),(0:Int)⟩:Shape),false))) (some ((⟨(0:Int),(0:Int),(0:Int)⟩:Shape),false))) (cond (a1.kind==(4:Int)) ((cQ k a1).bind fun r14=>cond (r14) ((cD k a1).bind fun r15=>cond (r15) ((vq k a1.zero (-128:Int) (127:Int)).bind fun r16=>cond (r16) (some (a0,true)) (some ((⟨(0:Int),(0:Int),(0:Int)⟩:Shape),false))) (some ((⟨(0:Int),(0:Int),(0:Int)⟩:Shape),false))) (some ((⟨(0:Int),(0:Int),(0:Int)⟩:Shape),false))) (cond (a1.kind==(5:Int)) ((cQ k a1).bind fun r17=>cond (r17) ((cD k a1).bind fun r18=>cond (r18) (cond (a1.zero==(0:Int)) (cond (decide (r2≤(8:Int))) (some ((⟨(1:Int),(1:Int),r2⟩:Shape),true)) (some ((⟨(0:Int),(0:Int),(0:Int)⟩:Shape),false))) (some ((⟨(0:Int),(0:Int),(0:Int)⟩:Shape),false))) (some ((⟨(0:Int),(0:Int),(0:Int)⟩:Shape),false))) (some ((⟨(0:Int),(0:Int),(0:Int)⟩:Shape),false))) (some ((⟨(0:Int),(0:Int),(0:Int)⟩:Shape),false))))))))
def bS {ρ:Type} (k:Nat) (p:List ai× Int) (v:Int× List Shape× Int× Int× Int) (next:(Int× List Shape× Int× Int× Int)→Option ρ) (x0:(List Shape)→Option ρ) (xret:Bool→Option ρ):Option ρ:=
  cond (decide (v.1<p.2)) ((idx p.1 v.1).bind fun e1=>(gA k (⟨v.2.2.1,v.2.2.2.1,v.2.2.2.2⟩:Shape) e1).bind fun r2=>cond (!r2.2) (xret false) (cond (Nat.ble (v.2.1.length+[r2.1].length) cK) (next (IntKind.i64.wrap (v.1+(1:Int)),v.2.1++[r2.1],r2.1.h,r2.1.w,r2.1.c)) none)) (x0 v.2.1)
def dO (k:Nat) (a0:Model):Option (List Shape× Bool):=
  iter (fun u5 n5=>bS k (a0.ab,(a0.ab.length:Int)) u5 n5 (fun y3=>some (y3,true)) (fun y4=>some (([]:List Shape),y4))) k ((0:Int),[a0.inp],a0.inp.h,a0.inp.w,a0.inp.c)
def eR (k:Nat) (a0:Model):Option (Bool):=
  (vq k (a0.ab.length:Int) (1:Int) (6:Int)).bind fun r1=>cond (!r1) (some false) ((dO k a0).bind fun r2=>some r2.2)
def dz (k:Nat) (a0:Model):Option (List Shape):=
  (eR k a0).bind fun r1=>cond (!r1) (some ([]:List Shape)) ((dO k a0).bind fun r2=>some r2.1)
def o6 (k:Nat) (a0:Shape) (a1:ai):Option (Int):=
  (gA k a0 a1).bind fun r1=>cond (!r1.2) (some (0:Int)) ((cU k a0).bind fun r2=>cond (a1.kind==(0:Int)) ((cU k r1.1).bind fun r3=>some (IntKind.i64.wrap ((1:Int)+(IntKind.i64.wrap ((IntKind.i64.wrap (r2*r3)).tdiv (16:Int)))))) (cond (a1.kind==(1:Int)) ((cU k r1.1).bind fun r4=>some (IntKind.i64.wrap ((1:Int)+(IntKind.i64.wrap ((IntKind.i64.wrap ((IntKind.i64.wrap ((IntKind.i64.wrap (r4*a1.size))*a1.size))*a0.c)).tdiv (16:Int)))))) (cond (a1.kind==(2:Int)) ((cU k r1.1).bind fun r5=>some (IntKind.i64.wrap ((1:Int)+(IntKind.i64.wrap ((IntKind.i64.wrap ((IntKind.i64.wrap (r5*a1.size))*a1.size)).tdiv (16:Int)))))) (cond (a1.kind==(3:Int)) ((cU k r1.1).bind fun r6=>some (IntKind.i64.wrap ((1:Int)+(IntKind.i64.wrap ((IntKind.i64.wrap ((IntKind.i64.wrap (r6*a1.size))*a1.size)).tdiv (16:Int)))))) (some (IntKind.i64.wrap ((1:Int)+(IntKind.i64.wrap (r2.tdiv (16:Int))))))))))
def dm {ρ:Type} (k:Nat) (p:Int× Int× Int× Int× List ai× List Shape) (v:Int× List Int) (next:(Int× List Int)→Option ρ) (x0:(List Int)→Option ρ):Option ρ:=
  cond (decide (v.1<p.1)) (cond (decide (0≤v.1∧v.1<(p.2.2.2.2.2.length:Int))) ((p.2.2.2.2.2[v.1.toNat]?).bind fun e2=>cond (decide (v.1<(p.2.2.2.2.1.length:Int))) ((idx p.2.2.2.2.1 v.1).bind fun e3=>(o6 k e2 e3).bind fun r4=>cond (Nat.ble (v.2.length+[r4].length) cK) (next (IntKind.i64.wrap (v.1+(1:Int)),v.2++[r4])) none) (next (IntKind.i64.wrap (v.1+(1:Int)),v.2))) none) (x0 v.2)
def mS (k:Nat) (a0:Model):Option (List Int):=
  (dz k a0).bind fun r1=>iter (fun u6 n6=>dm k ((r1.length:Int),a0.inp.h,a0.inp.w,a0.inp.c,a0.ab,r1) u6 n6 (fun y5=>some y5)) k ((0:Int),([]:List Int))
def jM {ρ:Type} (k:Nat) (p:List Int× Int) (v:Int× Int) (next:(Int× Int)→Option ρ) (x0:Int→Option ρ):Option ρ:=
  cond (decide (v.2<p.2)) ((idx p.1 v.2).bind fun e1=>next (IntKind.i64.wrap (v.1+e1),IntKind.i64.wrap (v.2+(1:Int)))) (x0 v.1)
def Ed (k:Nat) (a0:List Int):Option (Int):=
  iter (fun u3 n3=>jM k (a0,(a0.length:Int)) u3 n3 (fun y2=>some y2)) k ((0:Int),(0:Int))
def bT (k:Nat) (a0:Model):Option (Int):=
  (mS k a0).bind fun r1=>(Ed k r1).bind fun r2=>some r2
end
end Go.Proofs.Ev
set_option linter.unusedVariables false
set_option linter.unusedSimpArgs false
set_option maxRecDepth 100000
namespace Go.Proofs.Ev
noncomputable section
def fG (k:Nat) (a0:ai):Option (ai):=
  (bZ k a0.weights).bind fun r1=>(bZ k a0.fK).bind fun r2=>some (⟨a0.kind,a0.out,a0.size,a0.step,a0.mult,a0.shift,a0.zero,r1,r2⟩:ai)
def bU {ρ:Type} (k:Nat) (p:List ai× Int) (v:Int× List ai) (next:(Int× List ai)→Option ρ) (x0:(List ai)→Option ρ):Option ρ:=
  cond (decide (v.1<p.2)) ((idx p.1 v.1).bind fun e1=>(fG k e1).bind fun r2=>cond (Nat.ble (v.2.length+1) cK) (next (IntKind.i64.wrap (v.1+(1:Int)),v.2++[r2])) none) (x0 v.2)
def fH (k:Nat) (a0:List ai):Option (List ai):=
  iter (fun u4 n4=>bU k (a0,(a0.length:Int)) u4 n4 (fun y3=>some y3)) k ((0:Int),([]:List ai))
def dA (k:Nat) (a0:Model) (a1:Int) (a2:Int):Option (Model× Bool):=
  (eR k a0).bind fun r1=>cond (!r1) (some ((⟨(⟨(0:Int),(0:Int),(0:Int)⟩:Shape),([]:List ai)⟩:Model),false)) (cond (decide (a1<(0:Int))) (some ((⟨(⟨(0:Int),(0:Int),(0:Int)⟩:Shape),([]:List ai)⟩:Model),false)) (cond (decide (a1≥a2)) (some ((⟨(⟨(0:Int),(0:Int),(0:Int)⟩:Shape),([]:List ai)⟩:Model),false)) (cond (decide (a2>(a0.ab.length:Int))) (some ((⟨(⟨(0:Int),(0:Int),(0:Int)⟩:Shape),([]:List ai)⟩:Model),false)) ((dz k a0).bind fun r2=>cond (decide (0≤a1∧a1<(r2.length:Int))) ((r2[a1.toNat]?).bind fun e3=>cond (decide (0≤a2∧a2≤(a0.ab.length:Int))) (cond (decide (0≤a1∧a1≤(a2.toNat:Int))) ((fH k ((a0.ab.take a2.toNat).drop a1.toNat)).bind fun r4=>some ((⟨e3,r4⟩:Model),true)) none) none) none))))
end
end Go.Proofs.Ev
set_option linter.unusedVariables false
set_option linter.unusedSimpArgs false
set_option maxRecDepth 100000
namespace Go.Proofs.Ev
noncomputable section
def ja (k:Nat) (a0:Int) (a1:Int) (a2:Int):Option (Int):=
  cond (decide (a0<a1)) (some a1) (cond (decide (a1>a2)) (some a1) (cond (decide (a0>a2)) (some a2) (some a0)))
def p8 (k:Nat) (a0:Int):Option (Int):=
  (ja k a0 (-128:Int) (127:Int)).bind fun r1=>some r1
def iF (k:Nat) (a0:Int):Option (Int):=
  (ja k a0 (-2147483648:Int) (2147483647:Int)).bind fun r1=>some r1
def ig (k:Nat) (a0:Int) (a1:Int):Option (Int):=
  (iF k a0).bind fun r1=>(iF k a1).bind fun r2=>(iF k (IntKind.i64.wrap (r1+r2))).bind fun r3=>some r3
def gB {ρ:Type} (k:Nat) (p:List Int× List Int) (v:Int× Int) (next:(Int× Int)→Option ρ) (x0:Int→Option ρ):Option ρ:=
  cond (decide (v.2<(p.1.length:Int))) (cond (decide (v.2<(p.2.length:Int))) ((idx p.1 v.2).bind fun e1=>(p8 k e1).bind fun r2=>(idx p.2 v.2).bind fun e3=>(p8 k e3).bind fun r4=>(ig k v.1 (IntKind.i64.wrap (r2*r4))).bind fun r5=>next (r5,IntKind.i64.wrap (v.2+(1:Int)))) (x0 v.1)) (x0 v.1)
def s8 (k:Nat) (a0:List Int) (a1:List Int):Option (Int):=
  iter (fun u7 n7=>gB k (a0,a1) u7 n7 (fun y6=>some y6)) k ((0:Int),(0:Int))
def mT (k:Nat) (a0:Int) (a1:Int):Option (Int):=
  cond (decide (a1=0)) none (cond (decide (a1=0)) none (cond (decide ((a0.tmod a1)<(0:Int))) (some (IntKind.i64.wrap ((IntKind.i64.wrap (a0.tdiv a1))-(1:Int)))) (some (IntKind.i64.wrap (a0.tdiv a1)))))
def mU (k:Nat) (a0:Int) (a1:Int):Option (Int):=
  (iF k a0).bind fun r1=>(iF k a1).bind fun r2=>(mT k (IntKind.i64.wrap ((IntKind.i64.wrap (r1*r2))+(1073741824:Int))) (2147483648:Int)).bind fun r3=>(iF k r3).bind fun r4=>some r4
def ij (k:Nat) (a0:Int) (a1:Int):Option (Int):=
  (iF k a0).bind fun r1=>(ja k a1 (0:Int) (31:Int)).bind fun r2=>cond (decide ((IntKind.u64.wrap (r2))<0)) none (cond (decide (r1<(0:Int))) (cond (decide ((IntKind.i64.wrap ((1:Int)*2^(min (IntKind.u64.wrap (r2)).toNat IntKind.i64.bits)))=0)) none (some (IntKind.i64.wrap (0-(IntKind.i64.wrap ((IntKind.i64.wrap ((IntKind.i64.wrap (0-r1))+(IntKind.i64.wrap ((IntKind.i64.wrap ((1:Int)*2^(min (IntKind.u64.wrap (r2)).toNat IntKind.i64.bits))).tdiv (2:Int))))).tdiv (IntKind.i64.wrap ((1:Int)*2^(min (IntKind.u64.wrap (r2)).toNat IntKind.i64.bits))))))))) (cond (decide ((IntKind.i64.wrap ((1:Int)*2^(min (IntKind.u64.wrap (r2)).toNat IntKind.i64.bits)))=0)) none (some (IntKind.i64.wrap ((IntKind.i64.wrap (r1+(IntKind.i64.wrap ((IntKind.i64.wrap ((1:Int)*2^(min (IntKind.u64.wrap (r2)).toNat IntKind.i64.bits))).tdiv (2:Int))))).tdiv (IntKind.i64.wrap ((1:Int)*2^(min (IntKind.u64.wrap (r2)).toNat IntKind.i64.bits))))))))
def jb (k:Nat) (a0:Int) (a1:Int) (a2:Int) (a3:Int):Option (Int):=
  (mU k a0 a1).bind fun r1=>(ij k r1 a2).bind fun r2=>(p8 k a3).bind fun r3=>(p8 k (IntKind.i64.wrap (r2+r3))).bind fun r4=>some r4
def p9 (k:Nat) (a0:Shape) (a1:Int) (a2:Int) (a3:Int):Option (Int):=
  (fS k a0).bind fun r1=>cond (!r1) (some (-1:Int)) ((bQ k a1 (0:Int) (IntKind.i64.wrap (a0.h-(1:Int)))).bind fun r2=>cond (!r2) (some (-1:Int)) ((bQ k a2 (0:Int) (IntKind.i64.wrap (a0.w-(1:Int)))).bind fun r3=>cond (!r3) (some (-1:Int)) ((bQ k a3 (0:Int) (IntKind.i64.wrap (a0.c-(1:Int)))).bind fun r4=>cond (!r4) (some (-1:Int)) (some (IntKind.i64.wrap ((IntKind.i64.wrap ((IntKind.i64.wrap ((IntKind.i64.wrap (a1*a0.w))+a2))*a0.c))+a3))))))
def jN (k:Nat) (a0:aA) (a1:Int) (a2:Int) (a3:Int):Option (Int× Bool):=
  (p9 k a0.sh a1 a2 a3).bind fun r1=>(gx k a0).bind fun r2=>cond (!r2) (some ((0:Int),false)) (cond (decide (r1<(0:Int))) (some ((0:Int),false)) ((idx a0.data r1).bind fun e3=>some (e3,true)))
def ep {ρ:Type} (k:Nat) (p:Int× Int× Int× Int× Int× Int× Int× List Int× Int× Int× Int× Int× Int× Int× Int× List Int× List Int) (v:Int× List Int) (next:(Int× List Int)→Option ρ) (x2:(List Int)→Option ρ):Option ρ:=
  cond (decide (v.1<p.2.2.2.2.2.2.2.2.2.2.1)) ((jN k (⟨(⟨p.2.2.2.2.1,p.2.2.2.2.2.1,p.2.2.2.2.2.2.1⟩:Shape),p.2.2.2.2.2.2.2.1⟩:aA) (IntKind.i64.wrap ((IntKind.i64.wrap (p.1*p.2.2.2.2.2.2.2.2.2.2.2.1))+p.2.2.2.1)) (IntKind.i64.wrap ((IntKind.i64.wrap (p.2.1*p.2.2.2.2.2.2.2.2.2.2.2.1))+v.1)) p.2.2.1).bind fun r1=>cond (Nat.ble (v.2.length+[r1.1].length) cK) (next (IntKind.i64.wrap (v.1+(1:Int)),v.2++[r1.1])) none) (x2 v.2)
def er {ρ:Type} (k:Nat) (p:Int× Int× Int× Int× Int× Int× List Int× Int× Int× Int× Int× Int× Int× Int× List Int× List Int) (v:Int× List Int) (next:(Int× List Int)→Option ρ) (x0:(List Int)→Option ρ):Option ρ:=
  cond (decide (v.1<p.2.2.2.2.2.2.2.2.2.1)) (iter (fun u3 n3=>ep k (p.1,p.2.1,p.2.2.1,v.1,p.2.2.2.1,p.2.2.2.2.1,p.2.2.2.2.2.1,p.2.2.2.2.2.2.1,p.2.2.2.2.2.2.2.1,p.2.2.2.2.2.2.2.2.1,p.2.2.2.2.2.2.2.2.2.1,p.2.2.2.2.2.2.2.2.2.2.1,p.2.2.2.2.2.2.2.2.2.2.2.1,p.2.2.2.2.2.2.2.2.2.2.2.2.1,p.2.2.2.2.2.2.2.2.2.2.2.2.2.1,p.2.2.2.2.2.2.2.2.2.2.2.2.2.2.1,p.2.2.2.2.2.2.2.2.2.2.2.2.2.2.2) u3 n3 (fun y2=>next (IntKind.i64.wrap (v.1+(1:Int)),y2))) k ((0:Int),v.2)) (x0 v.2)
def gP (k:Nat) (a0:aA) (a1:ai) (a2:Int) (a3:Int) (a4:Int):Option (List Int):=
  iter (fun u5 n5=>er k (a2,a3,a4,a0.sh.h,a0.sh.w,a0.sh.c,a0.data,a1.kind,a1.out,a1.size,a1.step,a1.mult,a1.shift,a1.zero,a1.weights,a1.fK) u5 n5 (fun y4=>some y4)) k ((0:Int),([]:List Int))
def et {ρ:Type} (k:Nat) (p:Int× Int× Int× Int× Int× Int× Int× Int× List Int× Int× Int× Int× Int× Int× Int× Int× List Int× List Int× Int× Int× Int) (v:Int× Int) (next:(Int× Int)→Option ρ) (x5:Int→Option ρ):Option ρ:=
  cond (decide (v.2<p.2.2.2.2.2.2.2.2.2.2.2.2.2.2.2.2.2.2.2.2)) ((jN k (⟨(⟨p.2.2.2.2.2.1,p.2.2.2.2.2.2.1,p.2.2.2.2.2.2.2.1⟩:Shape),p.2.2.2.2.2.2.2.2.1⟩:aA) (IntKind.i64.wrap ((IntKind.i64.wrap (p.1*p.2.2.2.2.2.2.2.2.2.2.2.2.1))+p.2.2.2.1)) (IntKind.i64.wrap ((IntKind.i64.wrap (p.2.1*p.2.2.2.2.2.2.2.2.2.2.2.2.1))+p.2.2.2.2.1)) v.2).bind fun r6=>(idx p.2.2.2.2.2.2.2.2.2.2.2.2.2.2.2.2.1 (IntKind.i64.wrap ((IntKind.i64.wrap ((IntKind.i64.wrap ((IntKind.i64.wrap ((IntKind.i64.wrap ((IntKind.i64.wrap (p.2.2.1*p.2.2.2.2.2.2.2.2.2.2.2.1))+p.2.2.2.1))*p.2.2.2.2.2.2.2.2.2.2.2.1))+p.2.2.2.2.1))*p.2.2.2.2.2.2.2.2.2.2.2.2.2.2.2.2.2.2.2.2))+v.2))).bind fun e7=>(ig k v.1 (IntKind.i64.wrap (r6.1*e7))).bind fun r8=>next (r8,IntKind.i64.wrap (v.2+(1:Int)))) (x5 v.1)
def eu {ρ:Type} (k:Nat) (p:Int× Int× Int× Int× Int× Int× Int× List Int× Int× Int× Int× Int× Int× Int× Int× List Int× List Int× Int× Int× Int) (v:Int× Int) (next:(Int× Int)→Option ρ) (x3:Int→Option ρ):Option ρ:=
  cond (decide (v.2<p.2.2.2.2.2.2.2.2.2.2.1)) (iter (fun u10 n10=>et k (p.1,p.2.1,p.2.2.1,p.2.2.2.1,v.2,p.2.2.2.2.1,p.2.2.2.2.2.1,p.2.2.2.2.2.2.1,p.2.2.2.2.2.2.2.1,p.2.2.2.2.2.2.2.2.1,p.2.2.2.2.2.2.2.2.2.1,p.2.2.2.2.2.2.2.2.2.2.1,p.2.2.2.2.2.2.2.2.2.2.2.1,p.2.2.2.2.2.2.2.2.2.2.2.2.1,p.2.2.2.2.2.2.2.2.2.2.2.2.2.1,p.2.2.2.2.2.2.2.2.2.2.2.2.2.2.1,p.2.2.2.2.2.2.2.2.2.2.2.2.2.2.2.1,p.2.2.2.2.2.2.2.2.2.2.2.2.2.2.2.2.1,p.2.2.2.2.2.2.2.2.2.2.2.2.2.2.2.2.2.1,p.2.2.2.2.2.2.2.2.2.2.2.2.2.2.2.2.2.2.1,p.2.2.2.2.2.2.2.2.2.2.2.2.2.2.2.2.2.2.2) u10 n10 (fun y9=>next (y9,IntKind.i64.wrap (v.2+(1:Int))))) k (v.1,(0:Int))) (x3 v.1)
def ey {ρ:Type} (k:Nat) (p:Int× Int× Int× Int× Int× Int× List Int× Int× Int× Int× Int× Int× Int× Int× List Int× List Int× Int× Int× Int) (v:Int× Int) (next:(Int× Int)→Option ρ) (x1:Int→Option ρ):Option ρ:=
  cond (decide (v.2<p.2.2.2.2.2.2.2.2.2.1)) (iter (fun u12 n12=>eu k (p.1,p.2.1,p.2.2.1,v.2,p.2.2.2.1,p.2.2.2.2.1,p.2.2.2.2.2.1,p.2.2.2.2.2.2.1,p.2.2.2.2.2.2.2.1,p.2.2.2.2.2.2.2.2.1,p.2.2.2.2.2.2.2.2.2.1,p.2.2.2.2.2.2.2.2.2.2.1,p.2.2.2.2.2.2.2.2.2.2.2.1,p.2.2.2.2.2.2.2.2.2.2.2.2.1,p.2.2.2.2.2.2.2.2.2.2.2.2.2.1,p.2.2.2.2.2.2.2.2.2.2.2.2.2.2.1,p.2.2.2.2.2.2.2.2.2.2.2.2.2.2.2.1,p.2.2.2.2.2.2.2.2.2.2.2.2.2.2.2.2.1,p.2.2.2.2.2.2.2.2.2.2.2.2.2.2.2.2.2.1,p.2.2.2.2.2.2.2.2.2.2.2.2.2.2.2.2.2.2) u12 n12 (fun y11=>next (y11,IntKind.i64.wrap (v.2+(1:Int))))) k (v.1,(0:Int))) (x1 v.1)
def ez {ρ:Type} (k:Nat) (p:List Int) (v:Int× Int) (next:(Int× Int)→Option ρ) (x7:Int→Option ρ):Option ρ:=
  cond (decide (v.2<(p.length:Int))) (cond (decide (0≤v.2∧v.2<(p.length:Int))) ((p[v.2.toNat]?).bind fun e20=>cond (decide (e20>v.1)) (cond (decide (0≤v.2∧v.2<(p.length:Int))) ((p[v.2.toNat]?).bind fun e21=>next (e21,IntKind.i64.wrap (v.2+(1:Int)))) none) (next (v.1,IntKind.i64.wrap (v.2+(1:Int))))) none) (x7 v.1)
def eC {ρ:Type} (k:Nat) (p:List Int) (v:Int× Int) (next:(Int× Int)→Option ρ) (x9:Int→Option ρ):Option ρ:=
  cond (decide (v.2<(p.length:Int))) (cond (decide (0≤v.2∧v.2<(p.length:Int))) ((p[v.2.toNat]?).bind fun e25=>next (IntKind.i64.wrap (v.1+e25),IntKind.i64.wrap (v.2+(1:Int)))) none) (x9 v.1)
def mV (k:Nat) (a0:aA) (a1:ai) (a2:Int) (a3:Int) (a4:Int):Option (Int):=
  cond (a1.kind==(0:Int)) ((bK k a0.sh).bind fun r1=>cond (decide (0≤(IntKind.i64.wrap ((IntKind.i64.wrap (a4*r1))+r1))∧(IntKind.i64.wrap ((IntKind.i64.wrap (a4*r1))+r1))≤(a1.weights.length:Int))) (cond (decide (0≤(IntKind.i64.wrap (a4*r1))∧(IntKind.i64.wrap (a4*r1))≤((IntKind.i64.wrap ((IntKind.i64.wrap (a4*r1))+r1)).toNat:Int))) ((s8 k a0.data ((a1.weights.take ((IntKind.i64.wrap ((IntKind.i64.wrap (a4*r1))+r1)).toNat)).drop ((IntKind.i64.wrap (a4*r1)).toNat))).bind fun r2=>(idx a1.fK a4).bind fun e3=>(ig k r2 e3).bind fun r4=>(jb k r4 a1.mult a1.shift a1.zero).bind fun r5=>some r5) none) none) (cond (a1.kind==(1:Int)) (iter (fun u17 n17=>ey k (a2,a3,a4,a0.sh.h,a0.sh.w,a0.sh.c,a0.data,a1.kind,a1.out,a1.size,a1.step,a1.mult,a1.shift,a1.zero,a1.weights,a1.fK,a0.sh.h,a0.sh.w,a0.sh.c) u17 n17 (fun y13=>(idx a1.fK a4).bind fun e14=>(ig k y13 e14).bind fun r15=>(jb k r15 a1.mult a1.shift a1.zero).bind fun r16=>some r16)) k ((0:Int),(0:Int))) (cond (a1.kind==(2:Int)) ((gP k a0 a1 a2 a3 a4).bind fun r18=>cond (decide (0≤(0:Int)∧(0:Int)<(r18.length:Int))) ((r18[(0:Int).toNat]?).bind fun e19=>iter (fun u23 n23=>ez k r18 u23 n23 (fun y22=>some y22)) k (e19,(1:Int))) none) (cond (a1.kind==(3:Int)) ((gP k a0 a1 a2 a3 a4).bind fun r24=>iter (fun u27 n27=>eC k r24 u27 n27 (fun y26=>cond (decide (y26<(0:Int))) (cond (decide ((IntKind.i64.wrap ((2:Int)*(r24.length:Int)))=0)) none (some (IntKind.i64.wrap (0-(IntKind.i64.wrap ((IntKind.i64.wrap ((IntKind.i64.wrap ((-2:Int)*y26))+(r24.length:Int))).tdiv (IntKind.i64.wrap ((2:Int)*(r24.length:Int))))))))) (cond (decide ((IntKind.i64.wrap ((2:Int)*(r24.length:Int)))=0)) none (some (IntKind.i64.wrap ((IntKind.i64.wrap ((IntKind.i64.wrap ((2:Int)*y26))+(r24.length:Int))).tdiv (IntKind.i64.wrap ((2:Int)*(r24.length:Int))))))))) k ((0:Int),(0:Int))) (cond (a1.kind==(4:Int)) ((jN k a0 a2 a3 a4).bind fun r28=>cond (decide (r28.1<a1.zero)) (some a1.zero) (some r28.1)) ((idx a0.data a4).bind fun e29=>some e29)))))
def dB {ρ:Type} (k:Nat) (p:Int× Int× Int× Int× Int× List Int× Int× Int× Int× Int× Int× Int× Int× List Int× List Int× Int× Int× Int× Int× Int× Int× Int× Int× Int) (v:Int× List Int) (next:(Int× List Int)→Option ρ) (x4:(List Int)→Option ρ):Option ρ:=
  cond (decide (v.1<p.2.2.2.2.2.2.2.2.2.2.2.2.2.2.2.2.2.2.2.2.1)) ((mV k (⟨(⟨p.2.2.1,p.2.2.2.1,p.2.2.2.2.1⟩:Shape),p.2.2.2.2.2.1⟩:aA) (⟨p.2.2.2.2.2.2.1,p.2.2.2.2.2.2.2.1,p.2.2.2.2.2.2.2.2.1,p.2.2.2.2.2.2.2.2.2.1,p.2.2.2.2.2.2.2.2.2.2.1,p.2.2.2.2.2.2.2.2.2.2.2.1,p.2.2.2.2.2.2.2.2.2.2.2.2.1,p.2.2.2.2.2.2.2.2.2.2.2.2.2.1,p.2.2.2.2.2.2.2.2.2.2.2.2.2.2.1⟩:ai) p.1 p.2.1 v.1).bind fun r3=>cond (Nat.ble (v.2.length+[r3].length) cK) (next (IntKind.i64.wrap (v.1+(1:Int)),v.2++[r3])) none) (x4 v.2)
def dC {ρ:Type} (k:Nat) (p:Int× Int× Int× Int× List Int× Int× Int× Int× Int× Int× Int× Int× List Int× List Int× Int× Int× Int× Int× Int× Int× Int× Int× Int) (v:Int× List Int) (next:(Int× List Int)→Option ρ) (x2:(List Int)→Option ρ):Option ρ:=
  cond (decide (v.1<p.2.2.2.2.2.2.2.2.2.2.2.2.2.2.2.2.2.2.1)) (iter (fun u5 n5=>dB k (p.1,v.1,p.2.1,p.2.2.1,p.2.2.2.1,p.2.2.2.2.1,p.2.2.2.2.2.1,p.2.2.2.2.2.2.1,p.2.2.2.2.2.2.2.1,p.2.2.2.2.2.2.2.2.1,p.2.2.2.2.2.2.2.2.2.1,p.2.2.2.2.2.2.2.2.2.2.1,p.2.2.2.2.2.2.2.2.2.2.2.1,p.2.2.2.2.2.2.2.2.2.2.2.2.1,p.2.2.2.2.2.2.2.2.2.2.2.2.2.1,p.2.2.2.2.2.2.2.2.2.2.2.2.2.2.1,p.2.2.2.2.2.2.2.2.2.2.2.2.2.2.2.1,p.2.2.2.2.2.2.2.2.2.2.2.2.2.2.2.2.1,p.2.2.2.2.2.2.2.2.2.2.2.2.2.2.2.2.2.1,p.2.2.2.2.2.2.2.2.2.2.2.2.2.2.2.2.2.2.1,p.2.2.2.2.2.2.2.2.2.2.2.2.2.2.2.2.2.2.2.1,p.2.2.2.2.2.2.2.2.2.2.2.2.2.2.2.2.2.2.2.2.1,p.2.2.2.2.2.2.2.2.2.2.2.2.2.2.2.2.2.2.2.2.2.1,p.2.2.2.2.2.2.2.2.2.2.2.2.2.2.2.2.2.2.2.2.2.2) u5 n5 (fun y4=>next (IntKind.i64.wrap (v.1+(1:Int)),y4))) k ((0:Int),v.2)) (x2 v.2)
def dD {ρ:Type} (k:Nat) (p:Int× Int× Int× List Int× Int× Int× Int× Int× Int× Int× Int× List Int× List Int× Int× Int× Int× Int× Int× Int× Int× Int× Int) (v:Int× List Int) (next:(Int× List Int)→Option ρ) (x0:(List Int)→Option ρ):Option ρ:=
  cond (decide (v.1<p.2.2.2.2.2.2.2.2.2.2.2.2.2.2.2.2.1)) (iter (fun u7 n7=>dC k (v.1,p.1,p.2.1,p.2.2.1,p.2.2.2.1,p.2.2.2.2.1,p.2.2.2.2.2.1,p.2.2.2.2.2.2.1,p.2.2.2.2.2.2.2.1,p.2.2.2.2.2.2.2.2.1,p.2.2.2.2.2.2.2.2.2.1,p.2.2.2.2.2.2.2.2.2.2.1,p.2.2.2.2.2.2.2.2.2.2.2.1,p.2.2.2.2.2.2.2.2.2.2.2.2.1,p.2.2.2.2.2.2.2.2.2.2.2.2.2.1,p.2.2.2.2.2.2.2.2.2.2.2.2.2.2.1,p.2.2.2.2.2.2.2.2.2.2.2.2.2.2.2.1,p.2.2.2.2.2.2.2.2.2.2.2.2.2.2.2.2.1,p.2.2.2.2.2.2.2.2.2.2.2.2.2.2.2.2.2.1,p.2.2.2.2.2.2.2.2.2.2.2.2.2.2.2.2.2.2.1,p.2.2.2.2.2.2.2.2.2.2.2.2.2.2.2.2.2.2.2.1,p.2.2.2.2.2.2.2.2.2.2.2.2.2.2.2.2.2.2.2.2.1,p.2.2.2.2.2.2.2.2.2.2.2.2.2.2.2.2.2.2.2.2.2) u7 n7 (fun y6=>next (IntKind.i64.wrap (v.1+(1:Int)),y6))) k ((0:Int),v.2)) (x0 v.2)
def lg (k:Nat) (a0:aA) (a1:ai):Option (aA× Bool):=
  (gx k a0).bind fun r1=>cond (!r1) (some ((⟨(⟨(0:Int),(0:Int),(0:Int)⟩:Shape),([]:List Int)⟩:aA),false)) ((gz k a0.sh a1).bind fun r2=>cond (!r2.2) (some ((⟨(⟨(0:Int),(0:Int),(0:Int)⟩:Shape),([]:List Int)⟩:aA),false)) (iter (fun u9 n9=>dD k (a0.sh.h,a0.sh.w,a0.sh.c,a0.data,a1.kind,a1.out,a1.size,a1.step,a1.mult,a1.shift,a1.zero,a1.weights,a1.fK,(0:Int),(0:Int),(0:Int),r2.1.h,r2.1.w,r2.1.c,r2.1.h,r2.1.w,r2.1.c) u9 n9 (fun y8=>some ((⟨r2.1,y8⟩:aA),true))) k ((0:Int),([]:List Int))))
def zE (k:Nat) (a0:Int) (a1:Int) (a2:Int):Option (Int):=
  some (if(if a2<a0 then a2 else a0)>a1 then(if a2<a0 then a2 else a0)else a1)
def qa (k:Nat) (a0:Int):Option (Int):=
  (zE k a0 (-128:Int) (127:Int)).bind fun r1=>some r1
def iG (k:Nat) (a0:Int):Option (Int):=
  (zE k a0 (-2147483648:Int) (2147483647:Int)).bind fun r1=>some r1
def mW (k:Nat) (a0:Int) (a1:Int):Option (Int):=
  (iG k a0).bind fun r1=>(iG k a1).bind fun r2=>(iG k (IntKind.i64.wrap (r1+r2))).bind fun r3=>some r3
def gC {ρ:Type} (k:Nat) (p:List Int× List Int× Int) (v:Int× Int) (next:(Int× Int)→Option ρ) (x0:Int→Option ρ):Option ρ:=
  cond (decide (v.2<p.2.2)) ((idx p.1 v.2).bind fun e1=>(qa k e1).bind fun r2=>(idx p.2.1 v.2).bind fun e3=>(qa k e3).bind fun r4=>(mW k v.1 (IntKind.i64.wrap (r2*r4))).bind fun r5=>next (r5,IntKind.i64.wrap (v.2+(1:Int)))) (x0 v.1)
def s9 (k:Nat) (a0:List Int) (a1:List Int):Option (Int):=
  iter (fun u7 n7=>gC k (a0,a1,if(a1.length:Int)<(a0.length:Int)then(a1.length:Int)else(a0.length:Int)) u7 n7 (fun y6=>some y6)) k ((0:Int),(0:Int))
def mX (k:Nat) (a0:Int) (a1:Int):Option (Int):=
  (iG k a0).bind fun r1=>(iG k a1).bind fun r2=>(iG k ((IntKind.i64.wrap ((IntKind.i64.wrap (r1*r2))+(1073741824:Int))).fdiv (2^(min (31:Int).toNat IntKind.i64.bits)))).bind fun r3=>some r3
def jO (k:Nat) (a0:Int) (a1:Int):Option (Int):=
  cond (decide (a0<(0:Int))) (none) (cond (decide ((IntKind.i64.wrap ((2:Int)*a1))=0)) none (some (IntKind.i64.wrap ((IntKind.i64.wrap ((IntKind.i64.wrap ((2:Int)*a0))+a1)).tdiv (IntKind.i64.wrap ((2:Int)*a1))))))
def jc (k:Nat) (a0:Int) (a1:Int):Option (Int):=
  cond (decide (a0<(0:Int))) ((jO k (IntKind.i64.wrap (0-a0)) a1).bind fun r1=>some (IntKind.i64.wrap (0-r1))) (cond (decide ((IntKind.i64.wrap ((2:Int)*a1))=0)) none (some (IntKind.i64.wrap ((IntKind.i64.wrap ((IntKind.i64.wrap ((2:Int)*a0))+a1)).tdiv (IntKind.i64.wrap ((2:Int)*a1))))))
def ik (k:Nat) (a0:Int) (a1:Int):Option (Int):=
  (iG k a0).bind fun r1=>(zE k a1 (0:Int) (31:Int)).bind fun r2=>cond (decide (r2<0)) none ((jc k r1 (IntKind.i64.wrap ((1:Int)*2^(min r2.toNat IntKind.i64.bits)))).bind fun r3=>some r3)
def mY (k:Nat) (a0:Int) (a1:Int) (a2:Int) (a3:Int):Option (Int):=
  (mX k a0 a1).bind fun r1=>(ik k r1 a2).bind fun r2=>(qa k a3).bind fun r3=>(qa k (IntKind.i64.wrap (r2+r3))).bind fun r4=>some r4
def db (k:Nat) (a0:ai) (a1:List Int) (a2:Int):Option (Int):=
  cond (decide (0≤(IntKind.i64.wrap ((IntKind.i64.wrap (a2+(1:Int)))*(a1.length:Int)))∧(IntKind.i64.wrap ((IntKind.i64.wrap (a2+(1:Int)))*(a1.length:Int)))≤(a0.weights.length:Int))) (cond (decide (0≤(IntKind.i64.wrap (a2*(a1.length:Int)))∧(IntKind.i64.wrap (a2*(a1.length:Int)))≤((IntKind.i64.wrap ((IntKind.i64.wrap (a2+(1:Int)))*(a1.length:Int))).toNat:Int))) ((s9 k a1 ((a0.weights.take ((IntKind.i64.wrap ((IntKind.i64.wrap (a2+(1:Int)))*(a1.length:Int))).toNat)).drop ((IntKind.i64.wrap (a2*(a1.length:Int))).toNat))).bind fun r1=>(idx a0.fK a2).bind fun e2=>(mW k r1 e2).bind fun r3=>(mY k r3 a0.mult a0.shift a0.zero).bind fun r4=>some r4) none) none
def eS (k:Nat) (a0:Shape) (a1:Int) (a2:Int) (a3:Int):Option (Int):=
  some (IntKind.i64.wrap ((IntKind.i64.wrap ((IntKind.i64.wrap ((IntKind.i64.wrap (a1*a0.w))+a2))*a0.c))+a3))
def bE {ρ:Type} (k:Nat) (p:Int× Int× Int× Int× Int× Int× Int× Int× Int× Int× Int× Int× Int× Int× List Int× List Int× Int× Int× Int× List Int) (v:Int× List Int) (next:(Int× List Int)→Option ρ) (x2:(List Int)→Option ρ):Option ρ:=
  cond (decide (v.1<p.2.2.2.2.2.2.1)) ((eS k (⟨p.2.2.2.2.2.2.2.2.2.2.2.2.2.2.2.2.1,p.2.2.2.2.2.2.2.2.2.2.2.2.2.2.2.2.2.1,p.2.2.2.2.2.2.2.2.2.2.2.2.2.2.2.2.2.2.1⟩:Shape) (IntKind.i64.wrap ((IntKind.i64.wrap (p.1*p.2.2.2.2.2.2.2.2.2.2.1))+p.2.2.2.1)) (IntKind.i64.wrap ((IntKind.i64.wrap (p.2.1*p.2.2.2.2.2.2.2.2.2.2.1))+v.1)) (0:Int)).bind fun r1=>cond (decide (p.2.2.1<(0:Int))) (cond (decide (0≤(IntKind.i64.wrap (r1+p.2.2.2.2.2.2.2.2.2.2.2.2.2.2.2.2.2.2.1))∧(IntKind.i64.wrap (r1+p.2.2.2.2.2.2.2.2.2.2.2.2.2.2.2.2.2.2.1))≤(p.2.2.2.2.2.2.2.2.2.2.2.2.2.2.2.2.2.2.2.length:Int))) (cond (decide (0≤r1∧r1≤((IntKind.i64.wrap (r1+p.2.2.2.2.2.2.2.2.2.2.2.2.2.2.2.2.2.2.1)).toNat:Int))) (cond (Nat.ble (v.2.length+((p.2.2.2.2.2.2.2.2.2.2.2.2.2.2.2.2.2.2.2.take ((IntKind.i64.wrap (r1+p.2.2.2.2.2.2.2.2.2.2.2.2.2.2.2.2.2.2.1)).toNat)).drop r1.toNat).length) cK) (next (IntKind.i64.wrap (v.1+(1:Int)),v.2++((p.2.2.2.2.2.2.2.2.2.2.2.2.2.2.2.2.2.2.2.take ((IntKind.i64.wrap (r1+p.2.2.2.2.2.2.2.2.2.2.2.2.2.2.2.2.2.2.1)).toNat)).drop r1.toNat))) none) none) none) ((idx p.2.2.2.2.2.2.2.2.2.2.2.2.2.2.2.2.2.2.2 (IntKind.i64.wrap (r1+p.2.2.1))).bind fun e2=>cond (Nat.ble (v.2.length+[e2].length) cK) (next (IntKind.i64.wrap (v.1+(1:Int)),v.2++[e2])) none)) (x2 v.2)
def bF {ρ:Type} (k:Nat) (p:Int× Int× Int× Int× Int× Int× Int× Int× Int× Int× Int× List Int× List Int× Int× Int× Int× List Int) (v:Int× List Int) (next:(Int× List Int)→Option ρ) (x0:(List Int)→Option ρ):Option ρ:=
  cond (decide (v.1<p.2.2.2.1)) (iter (fun u4 n4=>bE k (p.1,p.2.1,p.2.2.1,v.1,p.2.2.2.1,v.1,p.2.2.2.2.2.2.1,p.2.2.2.2.1,p.2.2.2.2.2.1,p.2.2.2.2.2.2.1,p.2.2.2.2.2.2.2.1,p.2.2.2.2.2.2.2.2.1,p.2.2.2.2.2.2.2.2.2.1,p.2.2.2.2.2.2.2.2.2.2.1,p.2.2.2.2.2.2.2.2.2.2.2.1,p.2.2.2.2.2.2.2.2.2.2.2.2.1,p.2.2.2.2.2.2.2.2.2.2.2.2.2.1,p.2.2.2.2.2.2.2.2.2.2.2.2.2.2.1,p.2.2.2.2.2.2.2.2.2.2.2.2.2.2.2.1,p.2.2.2.2.2.2.2.2.2.2.2.2.2.2.2.2) u4 n4 (fun y3=>next (IntKind.i64.wrap (v.1+(1:Int)),y3))) k ((0:Int),v.2)) (x0 v.2)
def bu (k:Nat) (a0:ai) (a1:aA) (a2:Int) (a3:Int) (a4:Int):Option (List Int):=
  iter (fun u6 n6=>bF k (a2,a3,a4,a0.size,a0.kind,a0.out,a0.size,a0.step,a0.mult,a0.shift,a0.zero,a0.weights,a0.fK,a1.sh.h,a1.sh.w,a1.sh.c,a1.data) u6 n6 (fun y5=>some y5)) k ((0:Int),([]:List Int))
def br {ρ:Type} (k:Nat) (p:List Int) (v:Int× Int) (next:(Int× Int)→Option ρ) (x0:Int→Option ρ):Option ρ:=
  cond (decide (v.2<(p.length:Int))) ((idx p v.2).bind fun e2=>next (if e2>v.1 then e2 else v.1,IntKind.i64.wrap (v.2+(1:Int)))) (x0 v.1)
def cV (k:Nat) (a0:List Int):Option (Int):=
  cond (decide ((a0.length:Int)<(1:Int))) (none) ((idx a0 (0:Int)).bind fun e1=>iter (fun u4 n4=>br k a0 u4 n4 (fun y3=>some y3)) k (e1,(1:Int)))
def cS {ρ:Type} (k:Nat) (p:Int× Int× Int× Int× Int× Int× Int× Int× List Int× List Int× List Int) (v:Int× Int) (next:(Int× Int)→Option ρ) (x1:Int→Option ρ):Option ρ:=
  cond (decide (v.2<p.1)) (cond (decide (0≤v.2∧v.2<(p.2.2.2.2.2.2.2.2.2.2.length:Int))) ((p.2.2.2.2.2.2.2.2.2.2[v.2.toNat]?).bind fun e7=>next (IntKind.i64.wrap (v.1+e7),IntKind.i64.wrap (v.2+(1:Int)))) none) (x1 v.1)
def il (k:Nat) (a0:ai) (a1:aA) (a2:Int) (a3:Int) (a4:Int):Option (Int):=
  cond (a0.kind==(0:Int)) ((db k a0 a1.data a4).bind fun r1=>some r1) (cond (a0.kind==(1:Int)) ((bu k a0 a1 a2 a3 (-1:Int)).bind fun r2=>(db k a0 r2 a4).bind fun r3=>some r3) (cond (a0.kind==(2:Int)) ((bu k a0 a1 a2 a3 a4).bind fun r4=>(cV k r4).bind fun r5=>some r5) (cond (a0.kind==(3:Int)) ((bu k a0 a1 a2 a3 a4).bind fun r6=>iter (fun u10 n10=>cS k ((r6.length:Int),a0.kind,a0.out,a0.size,a0.step,a0.mult,a0.shift,a0.zero,a0.weights,a0.fK,r6) u10 n10 (fun y8=>(jc k y8 (IntKind.i64.wrap (a0.size*a0.size))).bind fun r9=>some r9)) k ((0:Int),(0:Int))) (cond (a0.kind==(4:Int)) ((eS k a1.sh a2 a3 a4).bind fun r11=>(idx a1.data r11).bind fun e12=>some (if a0.zero>e12 then a0.zero else e12)) ((idx a1.data a4).bind fun e13=>some e13)))))
def dE {ρ:Type} (k:Nat) (p:Int× Int× Int× Int× Int× Int× Int× Int× Int× Int× List Int× Int× Int× Int× Int× Int× Int× Int× List Int× List Int× Int× Int× Int× Int× Int× Int× Int× Int× Int) (v:Int× List Int) (next:(Int× List Int)→Option ρ) (x4:(List Int)→Option ρ):Option ρ:=
  cond (decide (v.1<p.2.2.2.2.2.2.1)) ((il k (⟨p.2.2.2.2.2.2.2.2.2.2.2.1,p.2.2.2.2.2.2.2.2.2.2.2.2.1,p.2.2.2.2.2.2.2.2.2.2.2.2.2.1,p.2.2.2.2.2.2.2.2.2.2.2.2.2.2.1,p.2.2.2.2.2.2.2.2.2.2.2.2.2.2.2.1,p.2.2.2.2.2.2.2.2.2.2.2.2.2.2.2.2.1,p.2.2.2.2.2.2.2.2.2.2.2.2.2.2.2.2.2.1,p.2.2.2.2.2.2.2.2.2.2.2.2.2.2.2.2.2.2.1,p.2.2.2.2.2.2.2.2.2.2.2.2.2.2.2.2.2.2.2.1⟩:ai) (⟨(⟨p.2.2.2.2.2.2.2.1,p.2.2.2.2.2.2.2.2.1,p.2.2.2.2.2.2.2.2.2.1⟩:Shape),p.2.2.2.2.2.2.2.2.2.2.1⟩:aA) p.1 p.2.1 v.1).bind fun r3=>cond (Nat.ble (v.2.length+[r3].length) cK) (next (IntKind.i64.wrap (v.1+(1:Int)),v.2++[r3])) none) (x4 v.2)
def dF {ρ:Type} (k:Nat) (p:Int× Int× Int× Int× Int× Int× Int× List Int× Int× Int× Int× Int× Int× Int× Int× List Int× List Int× Int× Int× Int× Int× Int× Int× Int× Int× Int) (v:Int× List Int) (next:(Int× List Int)→Option ρ) (x2:(List Int)→Option ρ):Option ρ:=
  cond (decide (v.1<p.2.2.2.1)) (iter (fun u5 n5=>dE k (p.1,v.1,p.2.1,p.2.2.1,p.2.2.2.1,v.1,p.2.2.2.2.2.2.2.2.2.2.2.2.2.2.2.2.2.2.2.2.2.2.1,p.2.2.2.2.1,p.2.2.2.2.2.1,p.2.2.2.2.2.2.1,p.2.2.2.2.2.2.2.1,p.2.2.2.2.2.2.2.2.1,p.2.2.2.2.2.2.2.2.2.1,p.2.2.2.2.2.2.2.2.2.2.1,p.2.2.2.2.2.2.2.2.2.2.2.1,p.2.2.2.2.2.2.2.2.2.2.2.2.1,p.2.2.2.2.2.2.2.2.2.2.2.2.2.1,p.2.2.2.2.2.2.2.2.2.2.2.2.2.2.1,p.2.2.2.2.2.2.2.2.2.2.2.2.2.2.2.1,p.2.2.2.2.2.2.2.2.2.2.2.2.2.2.2.2.1,p.2.2.2.2.2.2.2.2.2.2.2.2.2.2.2.2.2.1,p.2.2.2.2.2.2.2.2.2.2.2.2.2.2.2.2.2.2.1,p.2.2.2.2.2.2.2.2.2.2.2.2.2.2.2.2.2.2.2.1,p.2.2.2.2.2.2.2.2.2.2.2.2.2.2.2.2.2.2.2.2.1,p.2.2.2.2.2.2.2.2.2.2.2.2.2.2.2.2.2.2.2.2.2.1,p.2.2.2.2.2.2.2.2.2.2.2.2.2.2.2.2.2.2.2.2.2.2.1,p.2.2.2.2.2.2.2.2.2.2.2.2.2.2.2.2.2.2.2.2.2.2.2.1,p.2.2.2.2.2.2.2.2.2.2.2.2.2.2.2.2.2.2.2.2.2.2.2.2.1,p.2.2.2.2.2.2.2.2.2.2.2.2.2.2.2.2.2.2.2.2.2.2.2.2.2) u5 n5 (fun y4=>next (IntKind.i64.wrap (v.1+(1:Int)),y4))) k ((0:Int),v.2)) (x2 v.2)
def dG {ρ:Type} (k:Nat) (p:Int× Int× Int× Int× List Int× Int× Int× Int× Int× Int× Int× Int× List Int× List Int× Int× Int× Int× Int× Int× Int× Int× Int× Int) (v:Int× List Int) (next:(Int× List Int)→Option ρ) (x0:(List Int)→Option ρ):Option ρ:=
  cond (decide (v.1<p.1)) (iter (fun u7 n7=>dF k (v.1,p.1,v.1,p.2.2.2.2.2.2.2.2.2.2.2.2.2.2.2.2.2.2.1,p.2.1,p.2.2.1,p.2.2.2.1,p.2.2.2.2.1,p.2.2.2.2.2.1,p.2.2.2.2.2.2.1,p.2.2.2.2.2.2.2.1,p.2.2.2.2.2.2.2.2.1,p.2.2.2.2.2.2.2.2.2.1,p.2.2.2.2.2.2.2.2.2.2.1,p.2.2.2.2.2.2.2.2.2.2.2.1,p.2.2.2.2.2.2.2.2.2.2.2.2.1,p.2.2.2.2.2.2.2.2.2.2.2.2.2.1,p.2.2.2.2.2.2.2.2.2.2.2.2.2.2.1,p.2.2.2.2.2.2.2.2.2.2.2.2.2.2.2.1,p.2.2.2.2.2.2.2.2.2.2.2.2.2.2.2.2.1,p.2.2.2.2.2.2.2.2.2.2.2.2.2.2.2.2.2.1,p.2.2.2.2.2.2.2.2.2.2.2.2.2.2.2.2.2.2.1,p.2.2.2.2.2.2.2.2.2.2.2.2.2.2.2.2.2.2.2.1,p.2.2.2.2.2.2.2.2.2.2.2.2.2.2.2.2.2.2.2.2.1,p.2.2.2.2.2.2.2.2.2.2.2.2.2.2.2.2.2.2.2.2.2.1,p.2.2.2.2.2.2.2.2.2.2.2.2.2.2.2.2.2.2.2.2.2.2) u7 n7 (fun y6=>next (IntKind.i64.wrap (v.1+(1:Int)),y6))) k ((0:Int),v.2)) (x0 v.2)
def jd (k:Nat) (a0:aA) (a1:ai):Option (aA× Bool):=
  (gA k a0.sh a1).bind fun r1=>cond (!r1.2) (some ((⟨(⟨(0:Int),(0:Int),(0:Int)⟩:Shape),([]:List Int)⟩:aA),false)) ((gy k a0).bind fun r2=>cond (!r2) (some ((⟨(⟨(0:Int),(0:Int),(0:Int)⟩:Shape),([]:List Int)⟩:aA),false)) (iter (fun u9 n9=>dG k (r1.1.h,a0.sh.h,a0.sh.w,a0.sh.c,a0.data,a1.kind,a1.out,a1.size,a1.step,a1.mult,a1.shift,a1.zero,a1.weights,a1.fK,(0:Int),(0:Int),(0:Int),r1.1.h,r1.1.w,r1.1.c,r1.1.h,r1.1.w,r1.1.c) u9 n9 (fun y8=>some ((⟨r1.1,y8⟩:aA),true))) k ((0:Int),([]:List Int))))
end
end Go.Proofs.Ev
set_option linter.unusedVariables false
set_option linter.unusedSimpArgs false
set_option maxRecDepth 100000
set_option maxHeartbeats 4000000
namespace Go.Proofs.Ev
noncomputable section
def cE {ρ:Type} (k:Nat) (p:Int× Int× Int× List ai× Int× Int× Int) (v:Int× Int× Int× Int× List Int) (next:(Int× Int× Int× Int× List Int)→Option ρ) (x0:(Int× Int× Int× List Int)→Option ρ):Option ρ:=
  cond (decide (v.1<(p.2.2.2.1.length:Int))) ((idx p.2.2.2.1 v.1).bind fun e4=>(lg k (⟨(⟨v.2.1,v.2.2.1,v.2.2.2.1⟩:Shape),v.2.2.2.2⟩:aA) e4).bind fun r5=>next (IntKind.i64.wrap (v.1+(1:Int)),r5.1.sh.h,r5.1.sh.w,r5.1.sh.c,r5.1.data)) (x0 (v.2.1,v.2.2.1,v.2.2.2.1,v.2.2.2.2))
def jP (k:Nat) (a0:Model) (a1:aA):Option (aA× Bool):=
  (iZ k a0).bind fun r1=>cond (!r1) (some ((⟨(⟨(0:Int),(0:Int),(0:Int)⟩:Shape),([]:List Int)⟩:aA),false)) ((gx k a1).bind fun r2=>cond (!r2) (some ((⟨(⟨(0:Int),(0:Int),(0:Int)⟩:Shape),([]:List Int)⟩:aA),false)) (cond (!(cond (a1.sh.h==a0.inp.h) (cond (a1.sh.w==a0.inp.w) (cond (a1.sh.c==a0.inp.c) (true) false) false) false)) (some ((⟨(⟨(0:Int),(0:Int),(0:Int)⟩:Shape),([]:List Int)⟩:aA),false)) ((mR k a1).bind fun r3=>iter (fun u7 n7=>cE k (a0.inp.h,a0.inp.w,a0.inp.c,a0.ab,(0:Int),(0:Int),(0:Int)) u7 n7 (fun y6=>some ((⟨(⟨y6.1,y6.2.1,y6.2.2.1⟩:Shape),y6.2.2.2⟩:aA),true))) k ((0:Int),r3.sh.h,r3.sh.w,r3.sh.c,r3.data))))
def cF {ρ:Type} (k:Nat) (p:List ai× Int× Int× Int× Int) (v:Int× Int× Int× Int× List Int) (next:(Int× Int× Int× Int× List Int)→Option ρ) (x0:(Int× Int× Int× List Int)→Option ρ):Option ρ:=
  cond (decide (v.1<p.2.1)) ((idx p.1 v.1).bind fun e5=>(jd k (⟨(⟨v.2.1,v.2.2.1,v.2.2.2.1⟩:Shape),v.2.2.2.2⟩:aA) e5).bind fun r6=>next (IntKind.i64.wrap (v.1+(1:Int)),r6.1.sh.h,r6.1.sh.w,r6.1.sh.c,r6.1.data)) (x0 (v.2.1,v.2.2.1,v.2.2.2.1,v.2.2.2.2))
def cG (k:Nat) (a0:Model) (a1:aA):Option (aA× Bool):=
  (eR k a0).bind fun r1=>cond (!r1) (some ((⟨(⟨(0:Int),(0:Int),(0:Int)⟩:Shape),([]:List Int)⟩:aA),false)) ((gy k a1).bind fun r2=>cond (!r2) (some ((⟨(⟨(0:Int),(0:Int),(0:Int)⟩:Shape),([]:List Int)⟩:aA),false)) (cond (!(cond (a1.sh.h==a0.inp.h) (cond (a1.sh.w==a0.inp.w) (cond (a1.sh.c==a0.inp.c) (true) false) false) false)) (some ((⟨(⟨(0:Int),(0:Int),(0:Int)⟩:Shape),([]:List Int)⟩:aA),false)) (cond (decide ((0:Int)<(a0.ab.length:Int))) ((idx a0.ab (0:Int)).bind fun e3=>(jd k a1 e3).bind fun r4=>iter (fun u8 n8=>cF k (a0.ab,(a0.ab.length:Int),(0:Int),(0:Int),(0:Int)) u8 n8 (fun y7=>some ((⟨(⟨y7.1,y7.2.1,y7.2.2.1⟩:Shape),y7.2.2.2⟩:aA),true))) k ((1:Int),r4.1.sh.h,r4.1.sh.w,r4.1.sh.c,r4.1.data)) (none))))
end
end Go.Proofs.Ev
set_option linter.unusedVariables false
set_option linter.unusedSimpArgs false
set_option maxRecDepth 100000
namespace Go.Proofs.Ev
noncomputable section
end
end Go.Proofs.Ev
set_option linter.unusedVariables false
set_option linter.unusedSimpArgs false
set_option maxRecDepth 100000
namespace Go.Proofs.Ev
noncomputable section
end
end Go.Proofs.Ev
set_option linter.unusedVariables false
set_option linter.unusedSimpArgs false
set_option maxRecDepth 100000
namespace Go.Proofs.Ev
noncomputable section
end
end Go.Proofs.Ev
set_option linter.unusedVariables false
set_option linter.unusedSimpArgs false
set_option maxRecDepth 100000
set_option maxHeartbeats 4000000
namespace Go.Proofs.Ev
noncomputable section
def Ee (k:Nat) (a0:List Int):Option (Bool):=
  some (decide ((a0.length:Int)>(1048576:Int)))
def eT {ρ:Type} (k:Nat) (p:List Int) (v:Int× Int) (next:(Int× Int)→Option ρ) (x0:Int→Option ρ):Option ρ:=
  cond (decide (v.2<(p.length:Int))) (cond (decide (v.2<(4000:Int))) ((idx p v.2).bind fun e1=>next (IntKind.i64.wrap (((BitVec.ofInt IntKind.i64.bits (IntKind.i64.wrap ((IntKind.i64.wrap ((IntKind.i64.wrap (v.1*(149:Int)))+(IntKind.i64.wrap (e1))))+(11:Int)))&&& BitVec.ofInt IntKind.i64.bits (1073741823:Int)).toNat:Int)),IntKind.i64.wrap (v.2+(1:Int)))) (x0 v.1)) (x0 v.1)
def lh (k:Nat) (a0:List Int):Option (Int× Int):=
  iter (fun u3 n3=>eT k a0 u3 n3 (fun y2=>cond (decide (a0=a0)) (some ((0:Int),y2)) none)) k (IntKind.i64.wrap ((778778:Int)+(a0.length:Int)),(0:Int))
def dZ (k:Nat) (a0_0:List Int) (a0_1:Int) (a0_2:Int):Option (Int× Int× Int):=
  cond (decide (a0_1<(a0_0.length:Int))) ((idx a0_0 a0_1).bind fun e1=>cond (decide (a0_0=a0_0)) (some (IntKind.i64.wrap (((BitVec.ofInt IntKind.i64.bits (IntKind.i64.wrap ((IntKind.i64.wrap (((BitVec.ofInt IntKind.i64.bits (IntKind.i64.wrap (((BitVec.ofInt IntKind.i64.bits ((IntKind.i64.wrap ((IntKind.i64.wrap (a0_2*(6364136223846793005:Int)))+(1442695040888963407:Int))).fdiv (2^(min (33:Int).toNat IntKind.i64.bits)))^^^ BitVec.ofInt IntKind.i64.bits ((IntKind.i64.wrap ((IntKind.i64.wrap (a0_2*(6364136223846793005:Int)))+(1442695040888963407:Int))).fdiv (2^(min (45:Int).toNat IntKind.i64.bits)))).toNat:Int)))&&& BitVec.ofInt IntKind.i64.bits (255:Int)).toNat:Int)))+(IntKind.i64.wrap (e1))))&&& BitVec.ofInt IntKind.i64.bits (255:Int)).toNat:Int)),IntKind.i64.wrap (a0_1+(1:Int)),IntKind.i64.wrap ((IntKind.i64.wrap (a0_2*(6364136223846793005:Int)))+(1442695040888963407:Int)))) none) (cond (decide (a0_0=a0_0)) (some (IntKind.i64.wrap (((BitVec.ofInt IntKind.i64.bits (IntKind.i64.wrap (((BitVec.ofInt IntKind.i64.bits ((IntKind.i64.wrap ((IntKind.i64.wrap (a0_2*(6364136223846793005:Int)))+(1442695040888963407:Int))).fdiv (2^(min (33:Int).toNat IntKind.i64.bits)))^^^ BitVec.ofInt IntKind.i64.bits ((IntKind.i64.wrap ((IntKind.i64.wrap (a0_2*(6364136223846793005:Int)))+(1442695040888963407:Int))).fdiv (2^(min (45:Int).toNat IntKind.i64.bits)))).toNat:Int)))&&& BitVec.ofInt IntKind.i64.bits (255:Int)).toNat:Int)),a0_1,IntKind.i64.wrap ((IntKind.i64.wrap (a0_2*(6364136223846793005:Int)))+(1442695040888963407:Int)))) none)
def ae (k:Nat) (a0_0:List Int) (a0_1:Int) (a0_2:Int) (a1:Int):Option (Int× Int× Int):=
  cond (decide (a1≤(0:Int))) (cond (decide (a0_0=a0_0)) (some ((0:Int),a0_1,a0_2)) none) (cond (decide (a1≤(256:Int))) ((dZ k a0_0 a0_1 a0_2).bind fun r1=>cond (decide (a1=0)) none (cond (decide (a0_0=a0_0)) (some (r1.1.tmod a1,r1.2.1,r1.2.2)) none)) ((dZ k a0_0 a0_1 a0_2).bind fun r2=>(dZ k a0_0 r2.2.1 r2.2.2).bind fun r3=>(dZ k a0_0 r3.2.1 r3.2.2).bind fun r4=>cond (decide (a1=0)) none (cond (decide (a0_0=a0_0)) (some ((IntKind.i64.wrap ((IntKind.i64.wrap ((IntKind.i64.wrap (r2.1*(65536:Int)))+(IntKind.i64.wrap (r3.1*(256:Int)))))+r4.1)).tmod a1,r4.2.1,r4.2.2)) none)))
def aV (k:Nat) (a0_0:List Int) (a0_1:Int) (a0_2:Int) (a1:List Int):Option (Int× Int× Int):=
  (ae k a0_0 a0_1 a0_2 (a1.length:Int)).bind fun r1=>(idx a1 r1.1).bind fun e2=>cond (decide (a0_0=a0_0)) (some (e2,r1.2.1,r1.2.2)) none
def fw (k:Nat) (a0_0:List Int) (a0_1:Int) (a0_2:Int) (a1:Int):Option (Bool× Int× Int):=
  (ae k a0_0 a0_1 a0_2 a1).bind fun r1=>cond (decide (a0_0=a0_0)) (some (r1.1==(0:Int),r1.2.1,r1.2.2)) none
end
end Go.Proofs.Ev
set_option linter.unusedVariables false
set_option linter.unusedSimpArgs false
set_option maxRecDepth 100000
set_option maxHeartbeats 4000000
namespace Go.Proofs.Ev
noncomputable section
def EA (k:Nat) (a0:List Int) (a1:Int):Option (Int):=
  cond (decide (a1<(a0.length:Int))) ((idx a0 a1).bind fun e1=>some (IntKind.i64.wrap (e1))) (some ((IntKind.i64.wrap ((IntKind.i64.wrap (a1*(13:Int)))+(IntKind.i64.wrap ((a0.length:Int)*(5:Int))))).tmod (256:Int)))
end
end Go.Proofs.Ev
set_option linter.unusedVariables false
set_option linter.unusedSimpArgs false
set_option maxRecDepth 100000
set_option maxHeartbeats 4000000
namespace Go.Proofs.Ev
noncomputable section
def bp (k:Nat) (a1:Int):Option (List ai):=
  cond (decide (a1<(0:Int))) (none) (cond (decide ((IntKind.i64.wrap (a1-(0:Int)))>(0:Int))) (cond (decide (0≤(0:Int)∧(0:Int)≤(0:Int))) (cond (decide (1≤(IntKind.i64.wrap (a1-(0:Int)))∧(IntKind.i64.wrap (a1-(0:Int)))≤(cK:Int))) (cond (decide (0≤(0:Int)∧(0:Int)≤((List.replicate ((IntKind.i64.wrap (a1-(0:Int))).toNat) (⟨(0:Int),(0:Int),(0:Int),(0:Int),(0:Int),(0:Int),(0:Int),([]:List Int),([]:List Int)⟩:ai)).length:Int))) (some ((List.replicate ((IntKind.i64.wrap (a1-(0:Int))).toNat) (⟨(0:Int),(0:Int),(0:Int),(0:Int),(0:Int),(0:Int),(0:Int),([]:List Int),([]:List Int)⟩:ai)).take (((0:Int).toNat)-0))) none) none) none) (some ([]:List ai)))
def bj (k:Nat) (a0_0:List ai) (a0_1:List ai):Option (List ai):=
  cond (decide ((IntKind.i64.wrap ((0:Int)+(a0_0.length:Int)))<(0:Int))) (none) (cond (decide ((IntKind.i64.wrap ((IntKind.i64.wrap ((0:Int)+(a0_0.length:Int)))+(a0_1.length:Int)))<(0:Int))) (none) ((bp k (IntKind.i64.wrap ((IntKind.i64.wrap ((0:Int)+(a0_0.length:Int)))+(a0_1.length:Int)))).bind fun r1=>cond (Nat.ble (r1.length+a0_0.length) cK) (cond (Nat.ble ((r1++a0_0).length+a0_1.length) cK) (cond (decide (a0_0=a0_0)) (cond (decide (a0_1=a0_1)) (some ((r1++a0_0)++a0_1)) none) none) none) none))
def eD (k:Nat) (a0:Model) (a1:Model):Option (Model× Bool):=
  (eR k a0).bind fun r1=>cond (!r1) (some ((⟨(⟨(0:Int),(0:Int),(0:Int)⟩:Shape),([]:List ai)⟩:Model),false)) ((eR k a1).bind fun r2=>cond (!r2) (some ((⟨(⟨(0:Int),(0:Int),(0:Int)⟩:Shape),([]:List ai)⟩:Model),false)) (cond (decide ((IntKind.i64.wrap ((a0.ab.length:Int)+(a1.ab.length:Int)))>(6:Int))) (some ((⟨(⟨(0:Int),(0:Int),(0:Int)⟩:Shape),([]:List ai)⟩:Model),false)) ((dz k a0).bind fun r3=>cond (decide (0≤(a0.ab.length:Int)∧(a0.ab.length:Int)<(r3.length:Int))) ((r3[(a0.ab.length:Int).toNat]?).bind fun e4=>cond (!(cond (e4.h==a1.inp.h) (cond (e4.w==a1.inp.w) (cond (e4.c==a1.inp.c) (true) false) false) false)) (some ((⟨(⟨(0:Int),(0:Int),(0:Int)⟩:Shape),([]:List ai)⟩:Model),false)) ((bj k a0.ab a1.ab).bind fun r5=>(fH k r5).bind fun r6=>some ((⟨a0.inp,r6⟩:Model),true))) none)))
end
end Go.Proofs.Ev
set_option linter.unusedVariables false
set_option linter.unusedSimpArgs false
set_option maxRecDepth 100000
set_option maxHeartbeats 4000000
namespace Go.Proofs.Ev
noncomputable section
def c7 (k:Nat) (a0_0:List Int) (a0_1:Int) (a0_2:Int) (a1:Int):Option (Shape× Int× Int):=
  (ae k a0_0 a0_1 a0_2 a1).bind fun r1=>(ae k a0_0 r1.2.1 r1.2.2 a1).bind fun r2=>(ae k a0_0 r2.2.1 r2.2.2 (3:Int)).bind fun r3=>cond (decide (a0_0=a0_0)) (some ((⟨(IntKind.i64.wrap ((1:Int)+r1.1)),(IntKind.i64.wrap ((1:Int)+r2.1)),(IntKind.i64.wrap ((1:Int)+r3.1))⟩:Shape),r3.2.1,r3.2.2)) none
def dn (k:Nat) (a0_0:List Int) (a0_1:Int) (a0_2:Int):Option (Int× Int× Int):=
  (ae k a0_0 a0_1 a0_2 (256:Int)).bind fun r1=>(ae k a0_0 r1.2.1 r1.2.2 (256:Int)).bind fun r2=>(aV k a0_0 r2.2.1 r2.2.2 [(IntKind.i64.wrap (r1.1-(128:Int))),(IntKind.i64.wrap (r2.1-(128:Int))),(127:Int),(-128:Int),(0:Int)]).bind fun r3=>cond (decide (a0_0=a0_0)) (some (r3.1,r3.2.1,r3.2.2)) none
def bc {ρ:Type} (k:Nat) (p:Int× List Int× Int× Int× Int× Int× Int× Int× Int× Int× Int× Int× Int× Int× Int× Int) (v:Int× Int× Int× List Int) (next:(Int× Int× Int× List Int)→Option ρ) (x0:(Int× Int× List Int)→Option ρ):Option ρ:=
  cond (decide (v.1<p.1)) ((dn k p.2.1 v.2.1 v.2.2.1).bind fun r32=>cond (Nat.ble (v.2.2.2.length+[r32.1].length) cK) (next (IntKind.i64.wrap (v.1+(1:Int)),r32.2.1,r32.2.2,v.2.2.2++[r32.1])) none) (x0 (v.2.1,v.2.2.1,v.2.2.2))
def bd {ρ:Type} (k:Nat) (p:List Int× Int× Int× Int× Int× Int× Int× Int× Int× Int× Int× Int× Int× Int× Int× List Int) (v:Int× Int× Int× List Int) (next:(Int× Int× Int× List Int)→Option ρ) (x2:(Int× Int× List Int)→Option ρ):Option ρ:=
  cond (decide (v.1<p.2.2.2.2.2.2.2.2.2.1)) ((ae k p.1 v.2.1 v.2.2.1 (400:Int)).bind fun r34=>cond (Nat.ble (v.2.2.2.length+[(IntKind.i64.wrap (r34.1-(200:Int)))].length) cK) (next (IntKind.i64.wrap (v.1+(1:Int)),r34.2.1,r34.2.2,v.2.2.2++[(IntKind.i64.wrap (r34.1-(200:Int)))])) none) (x2 (v.2.1,v.2.2.1,v.2.2.2))
def dQ (k:Nat) (a0_0:List Int) (a0_1:Int) (a0_2:Int) (a1:Shape):Option (ai× Int× Int):=
  (aV k a0_0 a0_1 a0_2 [(0:Int),(1:Int),(1:Int),(2:Int),(3:Int),(4:Int),(5:Int)]).bind fun r1=>cond (r1.1==(5:Int)) ((bK k a1).bind fun r2=>cond (decide (r2>(8:Int))) ((bQ k (4:Int) (1:Int) (3:Int)).bind fun r3=>bej (fun(j12:Int→Int→Int→Int→Option _)=>cond (r3) (bej (fun(j4:Int→Option _)=>cond (decide (a1.h<(3:Int))) ((j4 a1.h)) ((j4 (3:Int)))) (fun(j4_0:Int)=>cond (decide (a1.w<j4_0)) ((ae k a0_0 r1.2.1 r1.2.2 a1.w).bind fun r8=>(ae k a0_0 r8.2.1 r8.2.2 (2:Int)).bind fun r9=>(j12 r9.2.1 r9.2.2 (IntKind.i64.wrap ((1:Int)+r8.1)) (IntKind.i64.wrap ((1:Int)+r9.1)))) ((ae k a0_0 r1.2.1 r1.2.2 j4_0).bind fun r10=>(ae k a0_0 r10.2.1 r10.2.2 (2:Int)).bind fun r11=>(j12 r11.2.1 r11.2.2 (IntKind.i64.wrap ((1:Int)+r10.1)) (IntKind.i64.wrap ((1:Int)+r11.1)))))) ((j12 r1.2.1 r1.2.2 (0:Int) (0:Int)))) (fun(j12_1:Int) (j12_2:Int) (j12_15:Int) (j12_16:Int)=>(ae k a0_0 j12_1 j12_2 (20:Int)).bind fun r13=>cond (decide (a0_0=a0_0)) (some ((⟨(4:Int),(0:Int),j12_15,j12_16,(0:Int),(0:Int),(IntKind.i64.wrap (r13.1-(10:Int))),([]:List Int),([]:List Int)⟩:ai),r13.2.1,r13.2.2)) none)) (cond (r1.1==(0:Int)) ((bK k a1).bind fun r14=>bej (fun(j15:Int→Option _)=>cond (decide (r14>(64:Int))) ((j15 (4:Int))) ((j15 r1.1))) (fun(j15_13:Int)=>(bQ k j15_13 (1:Int) (3:Int)).bind fun r16=>bej (fun(j25:Int→Int→Int→Int→Option _)=>cond (r16) (bej (fun(j17:Int→Option _)=>cond (decide (a1.h<(3:Int))) ((j17 a1.h)) ((j17 (3:Int)))) (fun(j17_0:Int)=>cond (decide (a1.w<j17_0)) ((ae k a0_0 r1.2.1 r1.2.2 a1.w).bind fun r21=>(ae k a0_0 r21.2.1 r21.2.2 (2:Int)).bind fun r22=>(j25 r22.2.1 r22.2.2 (IntKind.i64.wrap ((1:Int)+r21.1)) (IntKind.i64.wrap ((1:Int)+r22.1)))) ((ae k a0_0 r1.2.1 r1.2.2 j17_0).bind fun r23=>(ae k a0_0 r23.2.1 r23.2.2 (2:Int)).bind fun r24=>(j25 r24.2.1 r24.2.2 (IntKind.i64.wrap ((1:Int)+r23.1)) (IntKind.i64.wrap ((1:Int)+r24.1)))))) ((j25 r1.2.1 r1.2.2 (0:Int) (0:Int)))) (fun(j25_1:Int) (j25_2:Int) (j25_15:Int) (j25_16:Int)=>cond (decide (j15_13≤(1:Int))) ((ae k a0_0 j25_1 j25_2 (3:Int)).bind fun r26=>(ae k a0_0 r26.2.1 r26.2.2 (16777216:Int)).bind fun r27=>(ae k a0_0 r27.2.1 r27.2.2 (10:Int)).bind fun r28=>(ae k a0_0 r28.2.1 r28.2.2 (9:Int)).bind fun r29=>(bK k a1).bind fun r30=>bej (fun(j31:Int→Option _)=>cond (j15_13==(1:Int)) ((j31 (IntKind.i64.wrap ((IntKind.i64.wrap ((IntKind.i64.wrap ((IntKind.i64.wrap ((1:Int)+r26.1))*j25_15))*j25_15))*a1.c)))) ((j31 (IntKind.i64.wrap ((IntKind.i64.wrap ((1:Int)+r26.1))*r30))))) (fun(j31_0:Int)=>iter (fun u37 n37=>bc k (j31_0,a0_0,(0:Int),(0:Int),(0:Int),(0:Int),(0:Int),(0:Int),(0:Int),j15_13,IntKind.i64.wrap ((1:Int)+r26.1),j25_15,j25_16,IntKind.i64.wrap ((1073741824:Int)+(IntKind.i64.wrap (r27.1*(60:Int)))),r28.1,IntKind.i64.wrap (r29.1-(4:Int))) u37 n37 (fun y33=>iter (fun u36 n36=>bd k (a0_0,(0:Int),(0:Int),(0:Int),(0:Int),(0:Int),(0:Int),(0:Int),j15_13,IntKind.i64.wrap ((1:Int)+r26.1),j25_15,j25_16,IntKind.i64.wrap ((1073741824:Int)+(IntKind.i64.wrap (r27.1*(60:Int)))),r28.1,IntKind.i64.wrap (r29.1-(4:Int)),y33.2.2) u36 n36 (fun y35=>bej (fun(j39:Int→Int→Int→Option _)=>cond (j15_13==(4:Int)) ((ae k a0_0 y35.1 y35.2.1 (20:Int)).bind fun r38=>(j39 (IntKind.i64.wrap (r38.1-(10:Int))) r38.2.1 r38.2.2)) ((j39 (IntKind.i64.wrap (r29.1-(4:Int))) y35.1 y35.2.1))) (fun(j39_13:Int) (j39_15:Int) (j39_16:Int)=>cond (decide (a0_0=a0_0)) (some ((⟨j15_13,(IntKind.i64.wrap ((1:Int)+r26.1)),j25_15,j25_16,(IntKind.i64.wrap ((1073741824:Int)+(IntKind.i64.wrap (r27.1*(60:Int))))),r28.1,j39_13,y33.2.2,y35.2.2⟩:ai),j39_15,j39_16)) none))) k ((0:Int),y33.1,y33.2.1,([]:List Int)))) k ((0:Int),r29.2.1,r29.2.2,([]:List Int)))) (cond (j15_13==(4:Int)) ((ae k a0_0 j25_1 j25_2 (20:Int)).bind fun r40=>cond (decide (a0_0=a0_0)) (some ((⟨j15_13,(0:Int),j25_15,j25_16,(0:Int),(0:Int),(IntKind.i64.wrap (r40.1-(10:Int))),([]:List Int),([]:List Int)⟩:ai),r40.2.1,r40.2.2)) none) (cond (decide (a0_0=a0_0)) (some ((⟨j15_13,(0:Int),j25_15,j25_16,(0:Int),(0:Int),(0:Int),([]:List Int),([]:List Int)⟩:ai),j25_1,j25_2)) none))))) ((bQ k r1.1 (1:Int) (3:Int)).bind fun r42=>bej (fun(j51:Int→Int→Int→Int→Option _)=>cond (r42) (bej (fun(j43:Int→Option _)=>cond (decide (a1.h<(3:Int))) ((j43 a1.h)) ((j43 (3:Int)))) (fun(j43_0:Int)=>cond (decide (a1.w<j43_0)) ((ae k a0_0 r1.2.1 r1.2.2 a1.w).bind fun r47=>(ae k a0_0 r47.2.1 r47.2.2 (2:Int)).bind fun r48=>(j51 r48.2.1 r48.2.2 (IntKind.i64.wrap ((1:Int)+r47.1)) (IntKind.i64.wrap ((1:Int)+r48.1)))) ((ae k a0_0 r1.2.1 r1.2.2 j43_0).bind fun r49=>(ae k a0_0 r49.2.1 r49.2.2 (2:Int)).bind fun r50=>(j51 r50.2.1 r50.2.2 (IntKind.i64.wrap ((1:Int)+r49.1)) (IntKind.i64.wrap ((1:Int)+r50.1)))))) ((j51 r1.2.1 r1.2.2 (0:Int) (0:Int)))) (fun(j51_1:Int) (j51_2:Int) (j51_15:Int) (j51_16:Int)=>cond (decide (r1.1≤(1:Int))) ((ae k a0_0 j51_1 j51_2 (3:Int)).bind fun r52=>(ae k a0_0 r52.2.1 r52.2.2 (16777216:Int)).bind fun r53=>(ae k a0_0 r53.2.1 r53.2.2 (10:Int)).bind fun r54=>(ae k a0_0 r54.2.1 r54.2.2 (9:Int)).bind fun r55=>(bK k a1).bind fun r56=>bej (fun(j57:Int→Option _)=>cond (r1.1==(1:Int)) ((j57 (IntKind.i64.wrap ((IntKind.i64.wrap ((IntKind.i64.wrap ((IntKind.i64.wrap ((1:Int)+r52.1))*j51_15))*j51_15))*a1.c)))) ((j57 (IntKind.i64.wrap ((IntKind.i64.wrap ((1:Int)+r52.1))*r56))))) (fun(j57_0:Int)=>iter (fun u63 n63=>bc k (j57_0,a0_0,(0:Int),(0:Int),(0:Int),(0:Int),(0:Int),(0:Int),(0:Int),r1.1,IntKind.i64.wrap ((1:Int)+r52.1),j51_15,j51_16,IntKind.i64.wrap ((1073741824:Int)+(IntKind.i64.wrap (r53.1*(60:Int)))),r54.1,IntKind.i64.wrap (r55.1-(4:Int))) u63 n63 (fun y59=>iter (fun u62 n62=>bd k (a0_0,(0:Int),(0:Int),(0:Int),(0:Int),(0:Int),(0:Int),(0:Int),r1.1,IntKind.i64.wrap ((1:Int)+r52.1),j51_15,j51_16,IntKind.i64.wrap ((1073741824:Int)+(IntKind.i64.wrap (r53.1*(60:Int)))),r54.1,IntKind.i64.wrap (r55.1-(4:Int)),y59.2.2) u62 n62 (fun y61=>bej (fun(j65:Int→Int→Int→Option _)=>cond (r1.1==(4:Int)) ((ae k a0_0 y61.1 y61.2.1 (20:Int)).bind fun r64=>(j65 (IntKind.i64.wrap (r64.1-(10:Int))) r64.2.1 r64.2.2)) ((j65 (IntKind.i64.wrap (r55.1-(4:Int))) y61.1 y61.2.1))) (fun(j65_13:Int) (j65_15:Int) (j65_16:Int)=>cond (decide (a0_0=a0_0)) (some ((⟨r1.1,(IntKind.i64.wrap ((1:Int)+r52.1)),j51_15,j51_16,(IntKind.i64.wrap ((1073741824:Int)+(IntKind.i64.wrap (r53.1*(60:Int))))),r54.1,j65_13,y59.2.2,y61.2.2⟩:ai),j65_15,j65_16)) none))) k ((0:Int),y59.1,y59.2.1,([]:List Int)))) k ((0:Int),r55.2.1,r55.2.2,([]:List Int)))) (cond (r1.1==(4:Int)) ((ae k a0_0 j51_1 j51_2 (20:Int)).bind fun r66=>cond (decide (a0_0=a0_0)) (some ((⟨r1.1,(0:Int),j51_15,j51_16,(0:Int),(0:Int),(IntKind.i64.wrap (r66.1-(10:Int))),([]:List Int),([]:List Int)⟩:ai),r66.2.1,r66.2.2)) none) (cond (decide (a0_0=a0_0)) (some ((⟨r1.1,(0:Int),j51_15,j51_16,(0:Int),(0:Int),(0:Int),([]:List Int),([]:List Int)⟩:ai),j51_1,j51_2)) none)))))) (cond (r1.1==(0:Int)) ((bK k a1).bind fun r68=>bej (fun(j69:Int→Option _)=>cond (decide (r68>(64:Int))) ((j69 (4:Int))) ((j69 r1.1))) (fun(j69_13:Int)=>(bQ k j69_13 (1:Int) (3:Int)).bind fun r70=>bej (fun(j79:Int→Int→Int→Int→Option _)=>cond (r70) (bej (fun(j71:Int→Option _)=>cond (decide (a1.h<(3:Int))) ((j71 a1.h)) ((j71 (3:Int)))) (fun(j71_0:Int)=>cond (decide (a1.w<j71_0)) ((ae k a0_0 r1.2.1 r1.2.2 a1.w).bind fun r75=>(ae k a0_0 r75.2.1 r75.2.2 (2:Int)).bind fun r76=>(j79 r76.2.1 r76.2.2 (IntKind.i64.wrap ((1:Int)+r75.1)) (IntKind.i64.wrap ((1:Int)+r76.1)))) ((ae k a0_0 r1.2.1 r1.2.2 j71_0).bind fun r77=>(ae k a0_0 r77.2.1 r77.2.2 (2:Int)).bind fun r78=>(j79 r78.2.1 r78.2.2 (IntKind.i64.wrap ((1:Int)+r77.1)) (IntKind.i64.wrap ((1:Int)+r78.1)))))) ((j79 r1.2.1 r1.2.2 (0:Int) (0:Int)))) (fun(j79_1:Int) (j79_2:Int) (j79_15:Int) (j79_16:Int)=>cond (decide (j69_13≤(1:Int))) ((ae k a0_0 j79_1 j79_2 (3:Int)).bind fun r80=>(ae k a0_0 r80.2.1 r80.2.2 (16777216:Int)).bind fun r81=>(ae k a0_0 r81.2.1 r81.2.2 (10:Int)).bind fun r82=>(ae k a0_0 r82.2.1 r82.2.2 (9:Int)).bind fun r83=>(bK k a1).bind fun r84=>bej (fun(j85:Int→Option _)=>cond (j69_13==(1:Int)) ((j85 (IntKind.i64.wrap ((IntKind.i64.wrap ((IntKind.i64.wrap ((IntKind.i64.wrap ((1:Int)+r80.1))*j79_15))*j79_15))*a1.c)))) ((j85 (IntKind.i64.wrap ((IntKind.i64.wrap ((1:Int)+r80.1))*r84))))) (fun(j85_0:Int)=>iter (fun u91 n91=>bc k (j85_0,a0_0,(0:Int),(0:Int),(0:Int),(0:Int),(0:Int),(0:Int),(0:Int),j69_13,IntKind.i64.wrap ((1:Int)+r80.1),j79_15,j79_16,IntKind.i64.wrap ((1073741824:Int)+(IntKind.i64.wrap (r81.1*(60:Int)))),r82.1,IntKind.i64.wrap (r83.1-(4:Int))) u91 n91 (fun y87=>iter (fun u90 n90=>bd k (a0_0,(0:Int),(0:Int),(0:Int),(0:Int),(0:Int),(0:Int),(0:Int),j69_13,IntKind.i64.wrap ((1:Int)+r80.1),j79_15,j79_16,IntKind.i64.wrap ((1073741824:Int)+(IntKind.i64.wrap (r81.1*(60:Int)))),r82.1,IntKind.i64.wrap (r83.1-(4:Int)),y87.2.2) u90 n90 (fun y89=>bej (fun(j93:Int→Int→Int→Option _)=>cond (j69_13==(4:Int)) ((ae k a0_0 y89.1 y89.2.1 (20:Int)).bind fun r92=>(j93 (IntKind.i64.wrap (r92.1-(10:Int))) r92.2.1 r92.2.2)) ((j93 (IntKind.i64.wrap (r83.1-(4:Int))) y89.1 y89.2.1))) (fun(j93_13:Int) (j93_15:Int) (j93_16:Int)=>cond (decide (a0_0=a0_0)) (some ((⟨j69_13,(IntKind.i64.wrap ((1:Int)+r80.1)),j79_15,j79_16,(IntKind.i64.wrap ((1073741824:Int)+(IntKind.i64.wrap (r81.1*(60:Int))))),r82.1,j93_13,y87.2.2,y89.2.2⟩:ai),j93_15,j93_16)) none))) k ((0:Int),y87.1,y87.2.1,([]:List Int)))) k ((0:Int),r83.2.1,r83.2.2,([]:List Int)))) (cond (j69_13==(4:Int)) ((ae k a0_0 j79_1 j79_2 (20:Int)).bind fun r94=>cond (decide (a0_0=a0_0)) (some ((⟨j69_13,(0:Int),j79_15,j79_16,(0:Int),(0:Int),(IntKind.i64.wrap (r94.1-(10:Int))),([]:List Int),([]:List Int)⟩:ai),r94.2.1,r94.2.2)) none) (cond (decide (a0_0=a0_0)) (some ((⟨j69_13,(0:Int),j79_15,j79_16,(0:Int),(0:Int),(0:Int),([]:List Int),([]:List Int)⟩:ai),j79_1,j79_2)) none))))) ((bQ k r1.1 (1:Int) (3:Int)).bind fun r96=>bej (fun(j105:Int→Int→Int→Int→Option _)=>cond (r96) (bej (fun(j97:Int→Option _)=>cond (decide (a1.h<(3:Int))) ((j97 a1.h)) ((j97 (3:Int)))) (fun(j97_0:Int)=>cond (decide (a1.w<j97_0)) ((ae k a0_0 r1.2.1 r1.2.2 a1.w).bind fun r101=>(ae k a0_0 r101.2.1 r101.2.2 (2:Int)).bind fun r102=>(j105 r102.2.1 r102.2.2 (IntKind.i64.wrap ((1:Int)+r101.1)) (IntKind.i64.wrap ((1:Int)+r102.1)))) ((ae k a0_0 r1.2.1 r1.2.2 j97_0).bind fun r103=>(ae k a0_0 r103.2.1 r103.2.2 (2:Int)).bind fun r104=>(j105 r104.2.1 r104.2.2 (IntKind.i64.wrap ((1:Int)+r103.1)) (IntKind.i64.wrap ((1:Int)+r104.1)))))) ((j105 r1.2.1 r1.2.2 (0:Int) (0:Int)))) (fun(j105_1:Int) (j105_2:Int) (j105_15:Int) (j105_16:Int)=>cond (decide (r1.1≤(1:Int))) ((ae k a0_0 j105_1 j105_2 (3:Int)).bind fun r106=>(ae k a0_0 r106.2.1 r106.2.2 (16777216:Int)).bind fun r107=>(ae k a0_0 r107.2.1 r107.2.2 (10:Int)).bind fun r108=>(ae k a0_0 r108.2.1 r108.2.2 (9:Int)).bind fun r109=>(bK k a1).bind fun r110=>bej (fun(j111:Int→Option _)=>cond (r1.1==(1:Int)) ((j111 (IntKind.i64.wrap ((IntKind.i64.wrap ((IntKind.i64.wrap ((IntKind.i64.wrap ((1:Int)+r106.1))*j105_15))*j105_15))*a1.c)))) ((j111 (IntKind.i64.wrap ((IntKind.i64.wrap ((1:Int)+r106.1))*r110))))) (fun(j111_0:Int)=>iter (fun u117 n117=>bc k (j111_0,a0_0,(0:Int),(0:Int),(0:Int),(0:Int),(0:Int),(0:Int),(0:Int),r1.1,IntKind.i64.wrap ((1:Int)+r106.1),j105_15,j105_16,IntKind.i64.wrap ((1073741824:Int)+(IntKind.i64.wrap (r107.1*(60:Int)))),r108.1,IntKind.i64.wrap (r109.1-(4:Int))) u117 n117 (fun y113=>iter (fun u116 n116=>bd k (a0_0,(0:Int),(0:Int),(0:Int),(0:Int),(0:Int),(0:Int),(0:Int),r1.1,IntKind.i64.wrap ((1:Int)+r106.1),j105_15,j105_16,IntKind.i64.wrap ((1073741824:Int)+(IntKind.i64.wrap (r107.1*(60:Int)))),r108.1,IntKind.i64.wrap (r109.1-(4:Int)),y113.2.2) u116 n116 (fun y115=>bej (fun(j119:Int→Int→Int→Option _)=>cond (r1.1==(4:Int)) ((ae k a0_0 y115.1 y115.2.1 (20:Int)).bind fun r118=>(j119 (IntKind.i64.wrap (r118.1-(10:Int))) r118.2.1 r118.2.2)) ((j119 (IntKind.i64.wrap (r109.1-(4:Int))) y115.1 y115.2.1))) (fun(j119_13:Int) (j119_15:Int) (j119_16:Int)=>cond (decide (a0_0=a0_0)) (some ((⟨r1.1,(IntKind.i64.wrap ((1:Int)+r106.1)),j105_15,j105_16,(IntKind.i64.wrap ((1073741824:Int)+(IntKind.i64.wrap (r107.1*(60:Int))))),r108.1,j119_13,y113.2.2,y115.2.2⟩:ai),j119_15,j119_16)) none))) k ((0:Int),y113.1,y113.2.1,([]:List Int)))) k ((0:Int),r109.2.1,r109.2.2,([]:List Int)))) (cond (r1.1==(4:Int)) ((ae k a0_0 j105_1 j105_2 (20:Int)).bind fun r120=>cond (decide (a0_0=a0_0)) (some ((⟨r1.1,(0:Int),j105_15,j105_16,(0:Int),(0:Int),(IntKind.i64.wrap (r120.1-(10:Int))),([]:List Int),([]:List Int)⟩:ai),r120.2.1,r120.2.2)) none) (cond (decide (a0_0=a0_0)) (some ((⟨r1.1,(0:Int),j105_15,j105_16,(0:Int),(0:Int),(0:Int),([]:List Int),([]:List Int)⟩:ai),j105_1,j105_2)) none)))))
def cy {ρ:Type} (k:Nat) (p:Int× List Int× Int× Int× Int× Int× Int× Int) (v:Int× Int× Int× Int× Int× Int× List ai) (next:(Int× Int× Int× Int× Int× Int× List ai)→Option ρ) (x0:(Int× Int× List ai)→Option ρ):Option ρ:=
  cond (decide (v.1<p.1)) ((dQ k p.2.1 v.2.1 v.2.2.1 (⟨v.2.2.2.1,v.2.2.2.2.1,v.2.2.2.2.2.1⟩:Shape)).bind fun r1=>(gz k (⟨v.2.2.2.1,v.2.2.2.2.1,v.2.2.2.2.2.1⟩:Shape) r1.1).bind fun r2=>cond (!r2.2) (x0 (r1.2.1,r1.2.2,v.2.2.2.2.2.2)) (cond (Nat.ble (v.2.2.2.2.2.2.length+1) cK) (next (IntKind.i64.wrap (v.1+(1:Int)),r1.2.1,r1.2.2,r2.1.h,r2.1.w,r2.1.c,v.2.2.2.2.2.2++[r1.1])) none)) (x0 (v.2.1,v.2.2.1,v.2.2.2.2.2.2))
def eU (k:Nat) (a0_0:List Int) (a0_1:Int) (a0_2:Int) (a1:Shape) (a2:Int):Option (Model× Int× Int):=
  iter (fun u4 n4=>cy k (a2,a0_0,(0:Int),(0:Int),(0:Int),a1.h,a1.w,a1.c) u4 n4 (fun y3=>cond (decide (a0_0=a0_0)) (some ((⟨a1,y3.2.2⟩:Model),y3.1,y3.2.1)) none)) k ((0:Int),a0_1,a0_2,a1.h,a1.w,a1.c,([]:List ai))
def dR (k:Nat) (a0_0:List Int) (a0_1:Int) (a0_2:Int):Option (Model× Int× Int):=
  (c7 k a0_0 a0_1 a0_2 (4:Int)).bind fun r1=>(ae k a0_0 r1.2.1 r1.2.2 (4:Int)).bind fun r2=>(eU k a0_0 r2.2.1 r2.2.2 r1.1 (IntKind.i64.wrap ((1:Int)+r2.1))).bind fun r3=>cond (decide (a0_0=a0_0)) (some (r3.1,r3.2.1,r3.2.2)) none
def im (k:Nat) (a0_0:List Int) (a0_1:Int) (a0_2:Int) (a1:ai):Option (ai× Int× Int):=
  (ae k a0_0 a0_1 a0_2 (9:Int)).bind fun r1=>cond (r1.1==(0:Int)) ((aV k a0_0 r1.2.1 r1.2.2 [(-1:Int),(0:Int),(2:Int),(5:Int),(6:Int)]).bind fun r2=>cond (decide (a0_0=a0_0)) (some ((⟨r2.1,a1.out,a1.size,a1.step,a1.mult,a1.shift,a1.zero,a1.weights,a1.fK⟩:ai),r2.2.1,r2.2.2)) none) (cond (r1.1==(1:Int)) ((aV k a0_0 r1.2.1 r1.2.2 [(0:Int),(8:Int),(9:Int)]).bind fun r3=>cond (decide (a0_0=a0_0)) (some ((⟨a1.kind,r3.1,a1.size,a1.step,a1.mult,a1.shift,a1.zero,a1.weights,a1.fK⟩:ai),r3.2.1,r3.2.2)) none) (cond (r1.1==(2:Int)) ((aV k a0_0 r1.2.1 r1.2.2 [(0:Int),(3:Int),(4:Int)]).bind fun r4=>cond (decide (a0_0=a0_0)) (some ((⟨a1.kind,a1.out,r4.1,a1.step,a1.mult,a1.shift,a1.zero,a1.weights,a1.fK⟩:ai),r4.2.1,r4.2.2)) none) (cond (r1.1==(3:Int)) ((aV k a0_0 r1.2.1 r1.2.2 [(0:Int),(2:Int),(3:Int)]).bind fun r5=>cond (decide (a0_0=a0_0)) (some ((⟨a1.kind,a1.out,a1.size,r5.1,a1.mult,a1.shift,a1.zero,a1.weights,a1.fK⟩:ai),r5.2.1,r5.2.2)) none) (cond (r1.1==(4:Int)) ((aV k a0_0 r1.2.1 r1.2.2 [(-1:Int),(2147483647:Int),(2147483648:Int)]).bind fun r6=>cond (decide (a0_0=a0_0)) (some ((⟨a1.kind,a1.out,a1.size,a1.step,r6.1,a1.shift,a1.zero,a1.weights,a1.fK⟩:ai),r6.2.1,r6.2.2)) none) (cond (r1.1==(5:Int)) ((aV k a0_0 r1.2.1 r1.2.2 [(-1:Int),(31:Int),(32:Int)]).bind fun r7=>cond (decide (a0_0=a0_0)) (some ((⟨a1.kind,a1.out,a1.size,a1.step,a1.mult,r7.1,a1.zero,a1.weights,a1.fK⟩:ai),r7.2.1,r7.2.2)) none) (cond (r1.1==(6:Int)) ((aV k a0_0 r1.2.1 r1.2.2 [(-128:Int),(-129:Int),(127:Int),(128:Int)]).bind fun r8=>cond (decide (a0_0=a0_0)) (some ((⟨a1.kind,a1.out,a1.size,a1.step,a1.mult,a1.shift,r8.1,a1.weights,a1.fK⟩:ai),r8.2.1,r8.2.2)) none) (cond (r1.1==(7:Int)) ((aV k a0_0 r1.2.1 r1.2.2 [(0:Int),(128:Int)]).bind fun r9=>cond (Nat.ble (a1.weights.length+[r9.1].length) cK) (cond (decide (a0_0=a0_0)) (some ((⟨a1.kind,a1.out,a1.size,a1.step,a1.mult,a1.shift,a1.zero,(a1.weights++[r9.1]),a1.fK⟩:ai),r9.2.1,r9.2.2)) none) none) (cond (r1.1==(8:Int)) ((aV k a0_0 r1.2.1 r1.2.2 [(0:Int),(1000001:Int)]).bind fun r10=>cond (Nat.ble (a1.fK.length+[r10.1].length) cK) (cond (decide (a0_0=a0_0)) (some ((⟨a1.kind,a1.out,a1.size,a1.step,a1.mult,a1.shift,a1.zero,a1.weights,(a1.fK++[r10.1])⟩:ai),r10.2.1,r10.2.2)) none) none) (cond (decide (a0_0=a0_0)) (some (a1,r1.2.1,r1.2.2)) none)))))))))
def cj {ρ:Type} (k:Nat) (p:List Int× Int× Int× Int× Int× Int× Int) (v:Int× Int× List ai) (next:(Int× Int× List ai)→Option ρ) (x1:(Int× Int× List ai)→Option ρ):Option ρ:=
  (ae k p.1 v.1 v.2.1 (2:Int)).bind fun r9=>cond (decide ((v.2.2.length:Int)<(IntKind.i64.wrap ((6:Int)+r9.1)))) (cond (Nat.ble (v.2.2.length+1) cK) (next (r9.2.1,r9.2.2,v.2.2++[(⟨(4:Int),(0:Int),(0:Int),(0:Int),(0:Int),(0:Int),(0:Int),([]:List Int),([]:List Int)⟩:ai)])) none) (x1 (r9.2.1,r9.2.2,v.2.2))
def dS (k:Nat) (a0_0:List Int) (a0_1:Int) (a0_2:Int):Option (Model× Int× Int):=
  (dR k a0_0 a0_1 a0_2).bind fun r1=>(fw k a0_0 r1.2.1 r1.2.2 (10:Int)).bind fun r2=>cond (r2.1) (cond (decide ((r1.1.ab.length:Int)>(0:Int))) ((ae k a0_0 r2.2.1 r2.2.2 (4:Int)).bind fun r3=>cond (r3.1==(0:Int)) ((aV k a0_0 r3.2.1 r3.2.2 [(0:Int),(9:Int),(IntKind.i64.wrap (r1.1.inp.c+(1:Int)))]).bind fun r4=>cond (decide (a0_0=a0_0)) (some ((⟨(⟨r1.1.inp.h,r1.1.inp.w,r4.1⟩:Shape),r1.1.ab⟩:Model),r4.2.1,r4.2.2)) none) (cond (r3.1==(1:Int)) ((ae k a0_0 r3.2.1 r3.2.2 (r1.1.ab.length:Int)).bind fun r5=>cond (decide (0≤r5.1∧r5.1<(r1.1.ab.length:Int))) ((r1.1.ab[r5.1.toNat]?).bind fun e6=>(im k a0_0 r5.2.1 r5.2.2 e6).bind fun r7=>cond (decide (0≤r5.1∧r5.1<((iJ r1.1.ab r5.1.toNat).length:Int))) ((mm ((iJ r1.1.ab r5.1.toNat).set r5.1.toNat (some r7.1))).bind fun z8=>cond (decide (a0_0=a0_0)) (some ((⟨r1.1.inp,z8⟩:Model),r7.2.1,r7.2.2)) none) none) none) (cond (r3.1==(2:Int)) (cond (decide (a0_0=a0_0)) (some ((⟨r1.1.inp,([]:List ai)⟩:Model),r3.2.1,r3.2.2)) none) (cond (r3.1==(3:Int)) (iter (fun u11 n11=>cj k (a0_0,(0:Int),(0:Int),(0:Int),r1.1.inp.h,r1.1.inp.w,r1.1.inp.c) u11 n11 (fun y10=>cond (decide (a0_0=a0_0)) (some ((⟨r1.1.inp,y10.2.2⟩:Model),y10.1,y10.2.1)) none)) k (r3.2.1,r3.2.2,r1.1.ab)) (cond (decide (a0_0=a0_0)) (some (r1.1,r3.2.1,r3.2.2)) none))))) (cond (decide (a0_0=a0_0)) (some (r1.1,r2.2.1,r2.2.2)) none)) (cond (decide (a0_0=a0_0)) (some (r1.1,r2.2.1,r2.2.2)) none)
def cc {ρ:Type} (k:Nat) (p:List Int× Int× Int× Int× Int× Int× Int× Int× Int× Int) (v:Int× Int× Int× List Int) (next:(Int× Int× Int× List Int)→Option ρ) (x0:(Int× Int× List Int)→Option ρ):Option ρ:=
  (bK k (⟨p.2.1,p.2.2.1,p.2.2.2.1⟩:Shape)).bind fun r1=>cond (decide (v.1<r1)) ((dn k p.1 v.2.1 v.2.2.1).bind fun r2=>cond (Nat.ble (v.2.2.2.length+[r2.1].length) cK) (next (IntKind.i64.wrap (v.1+(1:Int)),r2.2.1,r2.2.2,v.2.2.2++[r2.1])) none) (x0 (v.2.1,v.2.2.1,v.2.2.2))
def cf (k:Nat) (a0_0:List Int) (a0_1:Int) (a0_2:Int) (a1:Shape):Option (aA× Int× Int):=
  iter (fun u4 n4=>cc k (a0_0,a1.h,a1.w,a1.c,(0:Int),(0:Int),(0:Int),a1.h,a1.w,a1.c) u4 n4 (fun y3=>cond (decide (a0_0=a0_0)) (some ((⟨a1,y3.2.2⟩:aA),y3.1,y3.2.1)) none)) k ((0:Int),a0_1,a0_2,([]:List Int))
def dT (k:Nat) (a0_0:List Int) (a0_1:Int) (a0_2:Int):Option (aA× Int× Int):=
  (c7 k a0_0 a0_1 a0_2 (4:Int)).bind fun r1=>(cf k a0_0 r1.2.1 r1.2.2 r1.1).bind fun r2=>(fw k a0_0 r2.2.1 r2.2.2 (8:Int)).bind fun r3=>cond (r3.1) ((ae k a0_0 r3.2.1 r3.2.2 (4:Int)).bind fun r4=>cond (r4.1==(0:Int)) ((aV k a0_0 r4.2.1 r4.2.2 [(0:Int),(8:Int),(9:Int)]).bind fun r5=>cond (decide (a0_0=a0_0)) (some ((⟨(⟨r5.1,r2.1.sh.w,r2.1.sh.c⟩:Shape),r2.1.data⟩:aA),r5.2.1,r5.2.2)) none) (cond (r4.1==(1:Int)) (cond (Nat.ble (r2.1.data.length+[(0:Int)].length) cK) (cond (decide (a0_0=a0_0)) (some ((⟨r2.1.sh,(r2.1.data++[(0:Int)])⟩:aA),r4.2.1,r4.2.2)) none) none) (cond (r4.1==(2:Int)) ((ae k a0_0 r4.2.1 r4.2.2 (r2.1.data.length:Int)).bind fun r6=>(aV k a0_0 r6.2.1 r6.2.2 [(128:Int),(-129:Int)]).bind fun r7=>cond (decide (0≤r6.1∧r6.1<(r2.1.data.length:Int))) (cond (decide (a0_0=a0_0)) (some ((⟨r2.1.sh,(r2.1.data.set r6.1.toNat r7.1)⟩:aA),r7.2.1,r7.2.2)) none) none) (cond (r4.1==(3:Int)) ((cf k a0_0 r4.2.1 r4.2.2 (⟨(8:Int),(8:Int),(8:Int)⟩:Shape)).bind fun r8=>cond (decide (a0_0=a0_0)) (some (r8.1,r8.2.1,r8.2.2)) none) (cond (decide (a0_0=a0_0)) (some (r2.1,r4.2.1,r4.2.2)) none))))) (cond (decide (a0_0=a0_0)) (some (r2.1,r3.2.1,r3.2.2)) none)
def eV (k:Nat) (a0:List Int):Option (Model× aA):=
  (lh k a0).bind fun r1=>(dS k a0 r1.1 r1.2).bind fun r2=>(cf k a0 r2.2.1 r2.2.2 r2.1.inp).bind fun r3=>(fw k a0 r3.2.1 r3.2.2 (15:Int)).bind fun r4=>cond (r4.1) ((dT k a0 r4.2.1 r4.2.2).bind fun r5=>some (r2.1,r5.1)) (some (r2.1,r3.1))
def dp (k:Nat) (a0:aA) (a1:aA):Option (Bool):=
  (gy k a0).bind fun r1=>cond (r1) ((gg k a0 a1).bind fun r2=>some r2) (some false)
def eW {ρ:Type} (k:Nat) (p:Int× List Shape) (v:Int× Int× Int) (next:(Int× Int× Int)→Option ρ) (x0:Int→Option ρ):Option ρ:=
  cond (decide (v.2.2<p.1)) (cond (decide (0≤v.2.2∧v.2.2<(p.2.length:Int))) ((p.2[v.2.2.toNat]?).bind fun e2=>cond (decide (v.2.2>(0:Int))) ((cU k e2).bind fun r3=>(cU k e2).bind fun r4=>next (if(IntKind.i64.wrap (v.2.1+r3))>v.1 then(IntKind.i64.wrap (v.2.1+r3))else v.1,r4,IntKind.i64.wrap (v.2.2+(1:Int)))) ((cU k e2).bind fun r5=>next (v.1,r5,IntKind.i64.wrap (v.2.2+(1:Int))))) none) (x0 v.1)
def lj (k:Nat) (a0:Model):Option (Int):=
  (dz k a0).bind fun r1=>iter (fun u7 n7=>eW k ((r1.length:Int),r1) u7 n7 (fun y6=>some y6)) k ((0:Int),(0:Int),(0:Int))
def eX (k:Nat) (a0:ai):Option (List Int):=
  some [a0.kind,a0.out,a0.size,a0.step,a0.mult,a0.shift,a0.zero]
def jQ (k:Nat) (a0:ai) (a1:ai):Option (Bool):=
  (eX k a0).bind fun r1=>(eX k a1).bind fun r2=>(bD k r1 r2).bind fun r3=>cond (r3) ((bD k a0.weights a1.weights).bind fun r4=>cond (r4) ((bD k a0.fK a1.fK).bind fun r5=>some r5) (some false)) (some false)
def ak {ρ:Type} (k:Nat) (p:List ai× List ai× Int) (v:Int) (next:Int→Option ρ) (x0:Unit→Option ρ) (xret:Bool→Option ρ):Option ρ:=
  cond (decide (v<p.2.2)) ((idx p.2.1 v).bind fun e1=>(idx p.1 v).bind fun e2=>(jQ k e1 e2).bind fun r3=>cond (!r3) (xret false) (next (IntKind.i64.wrap (v+(1:Int))))) (x0 ())
def au (k:Nat) (a0:List ai) (a1:List ai):Option (Bool):=
  cond ((a0.length:Int) !=(a1.length:Int)) (some false) (iter (fun u6 n6=>ak k (a1,a0,(a0.length:Int)) u6 n6 (fun y4=>some true) (fun y5=>some y5)) k (0:Int))
def fx (k:Nat) (a0:Model) (a1:Model):Option (Bool):=
  cond (cond (a0.inp.h==a1.inp.h) (cond (a0.inp.w==a1.inp.w) (cond (a0.inp.c==a1.inp.c) (true) false) false) false) ((au k a0.ab a1.ab).bind fun r1=>some r1) (some false)
def cW {ρ:Type} (k:Nat) (p:List Int× Bool× Int× Int× Int× Int× Int× Int× Int× Int× Int× List Shape× List ai× List Int× List Int) (v:Int) (next:Int→Option ρ) (x0:Unit→Option ρ) (xret:Bool→Option ρ):Option ρ:=
  cond (decide (v<(p.2.2.2.2.2.2.2.2.2.2.2.1.length:Int))) (cond (decide (0≤(IntKind.i64.wrap (v-(1:Int)))∧(IntKind.i64.wrap (v-(1:Int)))<(p.2.2.2.2.2.2.2.2.2.2.2.1.length:Int))) ((p.2.2.2.2.2.2.2.2.2.2.2.1[(IntKind.i64.wrap (v-(1:Int))).toNat]?).bind fun e11=>(cU k e11).bind fun r12=>cond (decide (0≤v∧v<(p.2.2.2.2.2.2.2.2.2.2.2.1.length:Int))) ((p.2.2.2.2.2.2.2.2.2.2.2.1[v.toNat]?).bind fun e13=>(cU k e13).bind fun r14=>(lj k (⟨(⟨p.2.2.1,p.2.2.2.1,p.2.2.2.2.1⟩:Shape),p.2.2.2.2.2.2.2.2.2.2.2.2.1⟩:Model)).bind fun r15=>cond (decide ((IntKind.i64.wrap (r12+r14))>r15)) (xret false) (next (IntKind.i64.wrap (v+(1:Int))))) none) none) (x0 ())
def je (k:Nat) (a0:List Int):Option (Bool):=
  (Ee k a0).bind fun r1=>cond (r1) (some true) ((eV k a0).bind fun r2=>(jP k r2.1 r2.2).bind fun r3=>(cG k r2.1 r2.2).bind fun r4=>cond (!(r4.2==r3.2)) (some false) ((eR k r2.1).bind fun r5=>(iZ k r2.1).bind fun r6=>cond (!(r5==r6)) (some false) ((iZ k r2.1).bind fun r7=>cond (!r7) ((bT k r2.1).bind fun r8=>some (r8==(0:Int))) (cond (r3.2) ((dp k r4.1 r3.1).bind fun r9=>cond (!r9) (some false) ((dz k r2.1).bind fun r10=>iter (fun u29 n29=>cW k (a0,r3.2,r2.1.inp.h,r2.1.inp.w,r2.1.inp.c,r2.2.sh.h,r2.2.sh.w,r2.2.sh.c,r3.1.sh.h,r3.1.sh.w,r3.1.sh.c,r10,r2.1.ab,r2.2.data,r3.1.data) u29 n29 (fun y16=>cond (decide ((r2.1.ab.length:Int)<(2:Int))) (some true) ((EA k a0 (0:Int)).bind fun r17=>cond (decide ((IntKind.i64.wrap ((r2.1.ab.length:Int)-(1:Int)))=0)) none ((dA k r2.1 (0:Int) (IntKind.i64.wrap ((1:Int)+(r17.tmod (IntKind.i64.wrap ((r2.1.ab.length:Int)-(1:Int))))))).bind fun r18=>(dA k r2.1 (IntKind.i64.wrap ((1:Int)+(r17.tmod (IntKind.i64.wrap ((r2.1.ab.length:Int)-(1:Int)))))) (r2.1.ab.length:Int)).bind fun r19=>(eD k r18.1 r19.1).bind fun r20=>cond (!r18.2) (some false) (cond (!r19.2) (some false) (cond (!r20.2) (some false) ((fx k r20.1 r2.1).bind fun r21=>cond (!r21) (some false) ((bT k r18.1).bind fun r22=>(bT k r19.1).bind fun r23=>(bT k r2.1).bind fun r24=>cond ((IntKind.i64.wrap (r22+r23)) !=r24) (some false) (cond (!r3.2) (some true) ((cG k r18.1 r2.2).bind fun r25=>(cG k r19.1 r25.1).bind fun r26=>cond (r25.2) (cond (r26.2) ((dp k r26.1 r3.1).bind fun r27=>some r27) (some false)) (some false)))))))))) (fun y28=>some y28)) k (1:Int))) ((dz k r2.1).bind fun r30=>iter (fun u49 n49=>cW k (a0,r3.2,r2.1.inp.h,r2.1.inp.w,r2.1.inp.c,r2.2.sh.h,r2.2.sh.w,r2.2.sh.c,r3.1.sh.h,r3.1.sh.w,r3.1.sh.c,r30,r2.1.ab,r2.2.data,r3.1.data) u49 n49 (fun y36=>cond (decide ((r2.1.ab.length:Int)<(2:Int))) (some true) ((EA k a0 (0:Int)).bind fun r37=>cond (decide ((IntKind.i64.wrap ((r2.1.ab.length:Int)-(1:Int)))=0)) none ((dA k r2.1 (0:Int) (IntKind.i64.wrap ((1:Int)+(r37.tmod (IntKind.i64.wrap ((r2.1.ab.length:Int)-(1:Int))))))).bind fun r38=>(dA k r2.1 (IntKind.i64.wrap ((1:Int)+(r37.tmod (IntKind.i64.wrap ((r2.1.ab.length:Int)-(1:Int)))))) (r2.1.ab.length:Int)).bind fun r39=>(eD k r38.1 r39.1).bind fun r40=>cond (!r38.2) (some false) (cond (!r39.2) (some false) (cond (!r40.2) (some false) ((fx k r40.1 r2.1).bind fun r41=>cond (!r41) (some false) ((bT k r38.1).bind fun r42=>(bT k r39.1).bind fun r43=>(bT k r2.1).bind fun r44=>cond ((IntKind.i64.wrap (r42+r43)) !=r44) (some false) (cond (!r3.2) (some true) ((cG k r38.1 r2.2).bind fun r45=>(cG k r39.1 r45.1).bind fun r46=>cond (r45.2) (cond (r46.2) ((dp k r46.1 r3.1).bind fun r47=>some r47) (some false)) (some false)))))))))) (fun y48=>some y48)) k (1:Int))))))
end
end Go.Proofs.Ev
set_option linter.unusedVariables false
set_option linter.unusedSimpArgs false
set_option maxRecDepth 100000
namespace Go.Proofs.Ev
noncomputable section
end
end Go.Proofs.Ev
set_option linter.unusedVariables false
namespace Go.Proofs.Ev
theorem Ef (a b:Nat):((a:Int) !=(b:Int))=decide (a≠b):=by
  rw[Bx];congr 1;rw[eq_iff_iff];omega
theorem Eg {R:Type} {xs:List Int} (a:Option R) (yes:Option R):(cond (decide ((xs.length:Int)<(xs.length:Int))) a yes)=yes:=by
  rw[ag,if_neg (by omega)]
theorem Eh {xs ys:List Int} {r:Option Bool} (h:xs.length=ys.length→r=if xs=ys then some true else some false):(cond ((xs.length:Int) !=(ys.length:Int)) (some false) r)=some (decide (xs=ys)):=by
  rw[Ef,ag]
  by_cases c:xs.length=ys.length
  · rw[if_neg (by simp[c]),h c];split<;>simp[*]
  · rw[if_pos c,decide_eq_false (fun e=>c (by rw[e]))]
theorem zF {R:Type} {xs ys:List Int} {i n:Nat} (hi:i<xs.length) (hi':i<ys.length) (hn:i<n) (hx:xs.length≤nR) (next:Int→Option R) (no yes:Option R):
    (cond (decide ((i:Int)<(n:Int))) ((idx xs i).bind fun e1=>(idx ys i).bind fun e2=>cond (e1 !=e2) no (next (IntKind.i64.wrap ((i:Int)+(1:Int))))) yes)=if xs[i]=ys[i]then next ((i+1:Nat):Int)else no:=by
  unfold nR at hx
  rw[ag,if_pos (by omega),bJ,bJ,aT hi,aT hi',Option.bind_some,Option.bind_some,aY hi (by omega)]
  rw[s6]
theorem b7 {k:Nat} {xs ys:List Int} (hk:xs.length<k) (hx:xs.length≤nR):bD k xs ys=some (decide (xs=ys)):=
  Eh fun c=>Bz xs ys c (fun i hi hi' next=>zF hi hi' hi hx next _ _) (fun next=>Eg _ _) hk
theorem oJ {k:Nat} {a b:aA} (hk:a.data.length<k) (ha:a.data.length≤nR):gg k a b=some (decide (a=b)):=by
  obtain⟨⟨s1,s2,s3⟩,d⟩:=a
  obtain⟨⟨t1,t2,t3⟩,d'⟩:=b
  simp only at hk ha
  unfold gg
  simp only[Option.bind_some,b7 hk ha]
  by_cases h1:s1=t1<;>by_cases h2:s2=t2<;>by_cases h3:s3=t3<;>by_cases h4:d=d'<;>simp[h1,h2,h3,h4,s6,xV]
end Go.Proofs.Ev
set_option linter.unusedVariables false
set_option linter.unusedSimpArgs false
namespace Go.Proofs.Ev
def marked (m:Int) (n:Nat):List Int:=(List.range n).map fun(i:Nat)=>m+(i:Int)
@[simp] theorem C3 (m:Int) (n:Nat):(marked m n).length=n:=by simp[marked]
def inB (x a b:Int):Bool:=decide (a≤x∧x≤b)
theorem dH (k:Nat) (x a b:Int):bQ k x a b=some (inB x a b):=by
  unfold bQ inB
  rw[ag]
  by_cases h:a≤x<;>simp[h]
theorem lY (k:Nat) (x a b:Int):vq k x a b=some (inB x a b):=by
  unfold vq inB
  rw[ag]
  by_cases h:a≤x<;>simp[h]
def Shape.okB (s:Shape):Bool:=inB s.h 1 8&&(inB s.w 1 8&&inB s.c 1 8)
theorem fT (k:Nat) (s:Shape):fS k s=some s.okB:=by
  unfold fS Shape.okB
  simp only[dH,aa]
  cases inB s.h 1 8<;>cases inB s.w 1 8<;>rfl
theorem kL (k:Nat) (s:Shape):iX k s=some s.okB:=by
  unfold iX Shape.okB
  simp only[lY,aa]
  cases inB s.h 1 8<;>cases inB s.w 1 8<;>rfl
theorem Shape.mZ {s:Shape} (h:s.okB=true):1≤s.h∧s.h≤8∧1≤s.w∧s.w≤8∧1≤s.c∧s.c≤8:=by
  simp only[Shape.okB,inB,Bool.and_eq_true,decide_eq_true_eq]at h
  omega
def Shape.size (s:Shape):Int:=cond s.okB (s.h*s.w*s.c) 0
theorem Shape.BD (s:Shape):0≤s.size∧s.size≤512:=by
  unfold Shape.size
  cases h:s.okB
  · simp
  · obtain⟨h1,h2,h3,h4,h5,h6⟩:=Shape.mZ h
    have:=kK (show 0≤s.h by omega) h2 (show 0≤s.w by omega) h4
    have:=kK this.1 this.2 (show 0≤s.c by omega) h6
    simpa using this
theorem uQ {s:Shape} (h:s.okB=true):IntKind.i64.wrap (IntKind.i64.wrap (s.h*s.w)*s.c)=s.h*s.w*s.c:=by
  obtain⟨h1,h2,h3,h4,h5,h6⟩:=Shape.mZ h
  have a:=kK (show 0≤s.h by omega) h2 (show 0≤s.w by omega) h4
  have b:=kK a.1 a.2 (show 0≤s.c by omega) h6
  rw[aN (n:=s.h*s.w) (by omega) (by omega),aN (by omega) (by omega)]
theorem fy (k:Nat) (s:Shape):bK k s=some s.size:=by
  unfold bK Shape.size
  simp only[fT,aa,cond_not]
  cases h:s.okB
  · rfl
  · simp only[cond_true,uQ h]
theorem fA (k:Nat) (s:Shape):cU k s=some s.size:=by
  unfold cU Shape.size
  simp only[kL,aa,cond_not]
  cases h:s.okB
  · rfl
  · simp only[cond_true,uQ h]
def kM (xs:List Int):Bool:=xs.all fun x=>inB x (-128) 127
def aA.okB (t:aA):Bool:=t.sh.okB&&(decide ((t.data.length:Int)=t.sh.size)&&kM t.data)
theorem jR {k:Nat} {t:aA} (hk:t.data.length<k) (hx:t.data.length≤nR):gx k t=some t.okB:=by
  unfold nR at hx
  unfold gx aA.okB
  simp only[fT,fy,aa,cond_not,s6]
  cases t.sh.okB
  · rfl
  simp only[cond_true,Bool.true_and]
  by_cases h:(t.data.length:Int)=t.sh.size
  · rw[if_pos h,decide_eq_true h,Bool.true_and]
    rw[s7 t.data (fun x=>inB x (-128) 127) (fun i hi next=>by
      simp only[dy,ag,dN,dH,aa,cond_not]
      rw[if_pos (by omega),bJ,aT hi,aa,aY hi (by omega)]) (fun next=>by
      simp only[dy,ag];rw[if_neg (by omega)]) hk]
    show _=some (t.data.all _)
    cases t.data.all fun x=>inB x (-128) 127<;>rfl
  · rw[if_neg h,decide_eq_false h];rfl
theorem ow {α:Type} {p:α→Bool} (xs:List α):((xs.findIdx? p).elim (some (-1:Int)) fun i=>some (i:Int))=some ((xs.findIdx? p).elim (-1) fun i=>(i:Int)):=by
  cases xs.findIdx? p<;>rfl
theorem rM {α:Type} {p:α→Bool} (xs:List α):decide (((xs.findIdx? p).elim (-1:Int) fun i=>(i:Int))≥0)=xs.any p:=by
  cases h:xs.findIdx? p with
  | none =>
    rw[List.findIdx?_eq_none_iff]at h
    have:xs.any p=false:=by simpa using h
    rw[this];rfl
  | some i =>
    have:xs.any p=true:=by
      have:=List.findIdx?_eq_some_iff_getElem.1 h
      obtain⟨hi,hp,_⟩:=this
      exact List.any_eq_true.2 ⟨_,List.getElem_mem hi,hp⟩
    rw[this];simp
theorem m7 {k:Nat} {xs:List Int} (hk:xs.length<k) (hx:xs.length≤nR):iY k xs=some (kM xs):=by
  unfold nR at hx
  unfold iY aU aZ
  rw[uP xs (fun x=>!inB x (-128) 127) (fun i hi next=>by
    simp only[aD,ag,jK,lY,aa]
    rw[if_pos (by omega),bJ,aT hi,aa,aY hi (by omega)]) (fun next=>by
    simp only[aD,ag];rw[if_neg (by omega)]) hk]
  rw[ow]
  simp only[aa,rM]
  unfold kM
  rw[List.any_eq_not_all_not];simp
theorem jS {k:Nat} {t:aA} (hk:t.data.length<k) (hx:t.data.length≤nR):gy k t=some t.okB:=by
  unfold gy aA.okB
  simp only[kL,fA,aa,xV,m7 hk hx]
  cases t.sh.okB
  · rfl
  simp only[cond_true,Bool.true_and]
  by_cases h:(t.data.length:Int)=t.sh.size
  · rw[if_pos h,decide_eq_true h,Bool.true_and]
  · rw[if_neg h,decide_eq_false h];rfl
theorem jf {a b:Nat} {α:Type} {x y:α} (h:a≤b):cond (Nat.ble a b) x y=x:=by rw[Nat.ble_eq_true_of_le h];rfl
theorem uR {k:Nat} {xs:List Int} (hk:xs.length<k) (hx:xs.length≤cK):mQ k xs=some xs:=by
  rw[bo]at hx
  unfold mQ
  have:=xW xs (fun x=>x) (g:=fun u next=>dk k xs u next (fun y=>some y)) (fin:=some) (fun i ys hi next hl=>by
    simp only[dk,ag]
    rw[if_pos (by omega),bJ,aT hi,aa,jf (by rw[bo,hl];simp;omega),aY hi (by omega)]) (fun ys next=>by
    simp only[dk,ag];rw[if_neg (by omega)]) hk
  simpa using this
theorem BF {ρ:Type} (x:Option ρ):both x x=x:=by unfold both;simp
theorem eE {k:Nat} {xs:List Int} (hx:xs.length≤cK):bZ k xs=some xs:=by
  unfold bZ
  rw[jf (by simpa using hx)]
  cases xs with
  |nil=>simp only[isNil,cond_true,List.append_nil];exact BF _
  |cons x l=>rfl
theorem uS {k:Nat} {t:aA} (hk:t.data.length<k) (hx:t.data.length≤cK):mR k t=some t:=by
  unfold mR
  rw[uR hk hx];rfl
end Go.Proofs.Ev
set_option linter.unusedVariables false
set_option linter.unusedSimpArgs false
namespace Go.Proofs.Ev
def aA.tot (x:aA):Nat:=x.data.length+(0)
def ai.tot (x:ai):Nat:=x.weights.length+(x.fK.length+(0))
def Model.tot (x:Model):Nat:=lA ai.tot x.ab+(0)
def Job.tot (x:Job):Nat:=x.model.tot+(x.act.tot+(0))
def Task.tot (x:Task):Nat:=x.B6.length+(0)
def B7.tot (x:B7):Nat:=lA Task.tot x.tasks+(0)
def Request.tot (x:Request):Nat:=x.job.tot+(0)
def Runtime.tot (x:Runtime):Nat:=x.sched.tot+(lA Model.tot x.EC+(x.ED.length+(lA Request.tot x.B8+(0))))
def Step.tot (x:Step):Nat:=x.data.length+(x.input.tot+(0))
def Event.tot (x:Event):Nat:=x.out.tot+(0)
def Entry.tot (x:Entry):Nat:=x.model.tot+(x.input.tot+(0))
end Go.Proofs.Ev
set_option linter.unusedVariables false
set_option linter.unusedSimpArgs false
namespace Go.Proofs.Ev
theorem uT {α:Type} (t:α→Nat) (xs:List α) (i:Nat):lA t (xs.take i)≤lA t xs:=by
  have:=dX t (xs.take i) (xs.drop i)
  rw[List.take_append_drop]at this
  omega
end Go.Proofs.Ev
set_option linter.unusedVariables false
set_option linter.unusedSimpArgs false
namespace Go.Proofs.Ev
def takes (x:Step):Int:=cond (inB x.kind 4 5&&inB x.a 0 200) x.a 0
end Go.Proofs.Ev
