/- Typed functions and what holds of them: part 1. -/
import Derived.Test.YtpiopmjbcadfbaaGreatEvK6
import Derived.Test.YtpiopmjbcadfbaaGreatEvK7
set_option linter.unusedVariables false
set_option linter.unusedSimpArgs false
set_option linter.unusedSectionVars false
namespace Go.Proofs.Ev
set_option maxRecDepth 100000
section
noncomputable section
def tf (k:Nat) (a0:List Int) (a1:Int):Option (Int):=
 cond (decide ((IntKind.i64.wrap (a1-(a0.length:Int)))<(0:Int))) (some (-1:Int)) (some (IntKind.i64.wrap (a1-(a0.length:Int))))
def uY (k:Nat) (a0:ak) (a1:Int):Option (Int):=
 (tf k a0.data a1).bind λr1=>cond (decide (r1<(0:Int))) (some (-1:Int)) (some r1)
def xP (k:Nat) (a0:Shape):Option (Shape):=
 some a0
def ot {ρ:Type} (k:Nat) (p:List Int) (v:Int× List Int) (next:(Int× List Int)->Option ρ) (x0:(List Int)->Option ρ):Option ρ:=
 cond (decide (v.1<(p.length:Int))) ((idx p v.1).bind λe1=>cond (decide (0<=v.1/\v.1<(v.2.length:Int))) (next (IntKind.i64.wrap (v.1+(1:Int)),v.2.set v.1.toNat e1)) none) (x0 v.2)
def tj (k:Nat) (a0:List Int):Option (List Int):=
 cond (decide (0<=(a0.length:Int)/\(a0.length:Int)<=(a0.length:Int)/\(a0.length:Int)<=(aQ:Int))) (iter (λu3 n3=>ot k a0 u3 n3 (λy2=>some y2)) k ((0:Int),List.replicate ((a0.length:Int).toNat) (0:Int))) none
def qC (k:Nat) (a0:ak):Option (ak):=
 (xP k a0.sh).bind λr1=>(tj k a0.data).bind λr2=>some (⟨r1,r2⟩:ak)
def jN {ρ:Type} (k:Nat) (p:List Int) (v:Int× List Int) (next:(Int× List Int)->Option ρ) (x0:(List Int)->Option ρ):Option ρ:=
 cond (decide (v.1<(p.length:Int))) ((idx p v.1).bind λe1=>cond (Nat.ble (v.2.length+[e1].length) aQ) (next (IntKind.i64.wrap (v.1+(1:Int)),v.2++[e1])) none) (x0 v.2)
def jO (k:Nat) (a0:List Int):Option (List Int):=
 iter (λu3 n3=>jN k a0 u3 n3 (λy2=>some y2)) k ((0:Int),([]:List Int))
def lJ (k:Nat) (a0:ak):Option (ak):=
 (jO k a0.data).bind λr1=>some (⟨a0.sh,r1⟩:ak)
def b9 (k:Nat) (a0:Int) (a1:Int) (a2:Int):Option (Bool):=
 cond (decide (a1<=a0)) (some (decide (a0<=a2))) (some false)
def jP (k:Nat) (a0:Shape):Option (Bool):=
 (b9 k a0.h (1:Int) (8:Int)).bind λr1=>cond (r1) ((b9 k a0.w (1:Int) (8:Int)).bind λr2=>cond (r2) ((b9 k a0.c (1:Int) (8:Int)).bind λr3=>some r3) (some false)) (some false)
def dG (k:Nat) (a0:Shape):Option (Int):=
 (jP k a0).bind λr1=>cond (!r1) (some (0:Int)) (some (IntKind.i64.wrap ((IntKind.i64.wrap (a0.h*a0.w))*a0.c)))
def gB (k:Nat) (a0:Int):Option (Bool):=
 (b9 k a0 (-128:Int) (127:Int)).bind λr1=>some r1
def kF {ρ:Type} (k:Nat) (p:Int× Int× Int× List Int) (v:Int) (next:Int->Option ρ) (x0:Unit->Option ρ) (xret:Bool->Option ρ):Option ρ:=
 cond (decide (v<(p.2.2.2.length:Int))) ((idx p.2.2.2 v).bind λe3=>(gB k e3).bind λr4=>cond (!r4) (xret false) (next (IntKind.i64.wrap (v+(1:Int))))) (x0 ())
def fW (k:Nat) (a0:ak):Option (Bool):=
 (jP k a0.sh).bind λr1=>cond (!r1) (some false) ((dG k a0.sh).bind λr2=>cond ((a0.data.length:Int) !=r2) (some false) (iter (λu7 n7=>kF k (a0.sh.h,a0.sh.w,a0.sh.c,a0.data) u7 n7 (λy5=>some true) (λy6=>some y6)) k (0:Int)))
def bO (k:Nat) (a0:List Int):Option (List Int):=
 cond (isNil a0) (both (some ([]:List Int)) (cond (Nat.ble (([]:List Int).length+a0.length) aQ) (some (([]:List Int)++a0)) none)) (cond (Nat.ble (([]:List Int).length+a0.length) aQ) (some (([]:List Int)++a0)) none)
def fG (k:Nat) (a0:ak):Option (ak):=
 (bO k a0.data).bind λr1=>some (⟨a0.sh,r1⟩:ak)
def ry (k:Nat) (a0:Int) (a1:Int) (a2:Int):Option (Bool):=
 cond (decide (a1<=a0)) (some (decide (a0<=a2))) (some false)
def nq (k:Nat) (a0:Shape):Option (Bool):=
 (ry k a0.h (1:Int) (8:Int)).bind λr1=>cond (r1) ((ry k a0.w (1:Int) (8:Int)).bind λr2=>cond (r2) ((ry k a0.c (1:Int) (8:Int)).bind λr3=>some r3) (some false)) (some false)
def jz (k:Nat) (a0:Shape):Option (Int):=
 (nq k a0).bind λr1=>cond (!r1) (some (0:Int)) (some (IntKind.i64.wrap ((IntKind.i64.wrap (a0.h*a0.w))*a0.c)))
def ou (k:Nat) (a0:Int):Option (Bool):=
 (ry k a0 (-128:Int) (127:Int)).bind λr1=>some (!r1)
def aW {ρ:Type} (k:Nat) (p:List Int× Int) (v:Int) (next:Int->Option ρ) (x0:Unit->Option ρ) (xret:Int->Option ρ):Option ρ:=
 cond (decide (v<p.2)) ((idx p.1 v).bind λe1=>(ou k e1).bind λr2=>cond (r2) (xret v) (next (IntKind.i64.wrap (v+(1:Int))))) (x0 ())
def cf (k:Nat) (a0:List Int):Option (Int):=
 iter (λu5 n5=>aW k (a0,(a0.length:Int)) u5 n5 (λy3=>some (-1:Int)) (λy4=>some y4)) k (0:Int)
def bQ (k:Nat) (a0:List Int):Option (Bool):=
 (cf k a0).bind λr1=>some (decide (r1>=(0:Int)))
def nr (k:Nat) (a0:List Int):Option (Bool):=
 (bQ k a0).bind λr1=>some (!r1)
def lf (k:Nat) (a0:ak):Option (Bool):=
 (nq k a0.sh).bind λr1=>cond (r1) ((jz k a0.sh).bind λr2=>cond ((a0.data.length:Int)==r2) ((nr k a0.data).bind λr3=>some r3) (some false)) (some false)
def xQ (k:Nat) (a0:Shape) (a1:Shape):Option (Bool):=
 cond (a0.h !=a1.h) (some false) (cond (a0.w !=a1.w) (some false) (cond (a0.c !=a1.c) (some false) (some true)))
def xR {ρ:Type} (k:Nat) (p:List Int× List Int) (v:Int) (next:Int->Option ρ) (x0:Unit->Option ρ) (xret:Bool->Option ρ):Option ρ:=
 cond (decide (v<(p.1.length:Int))) ((idx p.1 v).bind λe1=>(idx p.2 v).bind λe2=>cond (e1 !=e2) (xret false) (next (IntKind.i64.wrap (v+(1:Int))))) (x0 ())
def wx (k:Nat) (a0:List Int) (a1:List Int):Option (Bool):=
 cond ((a0.length:Int) !=(a1.length:Int)) (some false) (iter (λu5 n5=>xR k (a0,a1) u5 n5 (λy3=>some true) (λy4=>some y4)) k (0:Int))
def uZ (k:Nat) (a0:ak) (a1:ak):Option (Bool):=
 (xQ k a0.sh a1.sh).bind λr1=>cond (!r1) (some false) ((wx k a0.data a1.data).bind λr2=>cond (!r2) (some false) (some true))
def pT (k:Nat) (a0:List Int) (a1:Int):Option (Int):=
 cond (decide ((IntKind.i64.wrap (a1-(a0.length:Int)))<(0:Int))) (some (-1:Int)) (some (IntKind.i64.wrap (a1-(a0.length:Int))))
def wy (k:Nat) (a0:Step) (a1:Int):Option (Int):=
 (pT k a0.data a1).bind λr1=>cond (decide (r1<(0:Int))) (some (-1:Int)) ((uY k a0.input r1).bind λr2=>cond (decide (r2<(0:Int))) (some (-1:Int)) (some r2))
def mf {ρ:Type} (k:Nat) (p:List Int) (v:Int× List Int) (next:(Int× List Int)->Option ρ) (x0:(List Int)->Option ρ):Option ρ:=
 cond (decide (v.1<(p.length:Int))) ((idx p v.1).bind λe1=>cond (decide (0<=v.1/\v.1<(v.2.length:Int))) (next (IntKind.i64.wrap (v.1+(1:Int)),v.2.set v.1.toNat e1)) none) (x0 v.2)
def pU (k:Nat) (a0:List Int):Option (List Int):=
 cond (decide (0<=(a0.length:Int)/\(a0.length:Int)<=(a0.length:Int)/\(a0.length:Int)<=(aQ:Int))) (iter (λu3 n3=>mf k a0 u3 n3 (λy2=>some y2)) k ((0:Int),List.replicate ((a0.length:Int).toNat) (0:Int))) none
def tl (k:Nat) (a0:Step):Option (Step):=
 (pU k a0.data).bind λr1=>(qC k a0.input).bind λr2=>some (⟨a0.kind,a0.a,a0.b,r1,r2⟩:Step)
def ov (k:Nat) (a0:List Int) (a1:List Int):Option (Bool):=
 some ((bytesOf a0)==(bytesOf a1))
def ij {ρ:Type} (k:Nat) (p:List Int× List Int× Int) (v:Int) (next:Int->Option ρ) (x0:Unit->Option ρ) (xret:Bool->Option ρ):Option ρ:=
 cond (decide (v<p.2.2)) ((idx p.1 v).bind λe1=>(idx p.2.1 v).bind λe2=>cond (e1 !=e2) (xret false) (next (IntKind.i64.wrap (v+(1:Int))))) (x0 ())
def fH (k:Nat) (a0:List Int) (a1:List Int):Option (Bool):=
 cond ((a0.length:Int) !=(a1.length:Int)) (some false) (iter (λu5 n5=>ij k (a0,a1,(a0.length:Int)) u5 n5 (λy3=>some true) (λy4=>some y4)) k (0:Int))
def kG (k:Nat) (a0:ak) (a1:ak):Option (Bool):=
 cond (cond (a0.sh.h==a1.sh.h) (cond (a0.sh.w==a1.sh.w) (cond (a0.sh.c==a1.sh.c) (true) false) false) false) ((fH k a0.data a1.data).bind λr1=>some r1) (some false)
def vK {ρ:Type} (k:Nat) (p:List Int× List Int) (v:Int) (next:Int->Option ρ) (x0:Unit->Option ρ) (xret:Bool->Option ρ):Option ρ:=
 cond (decide (v<(p.1.length:Int))) ((idx p.1 v).bind λe1=>(idx p.2 v).bind λe2=>cond (e1 !=e2) (xret false) (next (IntKind.i64.wrap (v+(1:Int))))) (x0 ())
def tn (k:Nat) (a0:List Int) (a1:List Int):Option (Bool):=
 cond ((a0.length:Int) !=(a1.length:Int)) (some false) (iter (λu5 n5=>vK k (a0,a1) u5 n5 (λy3=>some true) (λy4=>some y4)) k (0:Int))
def wz (k:Nat) (a0:Step) (a1:Step):Option (Bool):=
 cond (a0.kind !=a1.kind) (some false) (cond (a0.a !=a1.a) (some false) (cond (a0.b !=a1.b) (some false) ((tn k a0.data a1.data).bind λr1=>cond (!r1) (some false) ((uZ k a0.input a1.input).bind λr2=>cond (!r2) (some false) (some true)))))
def jQ {ρ:Type} (k:Nat) (p:List Step) (v:Int× Int) (next:(Int× Int)->Option ρ) (x0:Int->Option ρ) (xret:Int->Option ρ):Option ρ:=
 cond (decide (v.2<(p.length:Int))) ((idx p v.2).bind λe1=>(wy k e1 v.1).bind λr2=>cond (decide (r2<(0:Int))) (xret (-1:Int)) (next (r2,IntKind.i64.wrap (v.2+(1:Int))))) (x0 v.1)
def xS (k:Nat) (a0:List Step) (a1:Int):Option (Int):=
 cond (decide ((IntKind.i64.wrap (a1-(a0.length:Int)))<(0:Int))) (some (-1:Int)) (iter (λu5 n5=>jQ k a0 u5 n5 (λy3=>some y3) (λy4=>some y4)) k (IntKind.i64.wrap (a1-(a0.length:Int)),(0:Int)))
def jR {ρ:Type} (k:Nat) (p:List Step) (v:Int× List Step) (next:(Int× List Step)->Option ρ) (x0:(List Step)->Option ρ):Option ρ:=
 cond (decide (v.1<(p.length:Int))) ((idx p v.1).bind λe1=>(tl k e1).bind λr2=>cond (decide (0<=v.1/\v.1<(v.2.length:Int))) (next (IntKind.i64.wrap (v.1+(1:Int)),v.2.set v.1.toNat r2)) none) (x0 v.2)
def pV (k:Nat) (a0:List Step):Option (List Step):=
 cond (decide (0<=(a0.length:Int)/\(a0.length:Int)<=(a0.length:Int)/\(a0.length:Int)<=(aQ:Int))) (iter (λu4 n4=>jR k a0 u4 n4 (λy3=>some y3)) k ((0:Int),List.replicate ((a0.length:Int).toNat) (⟨(0:Int),(0:Int),(0:Int),([]:List Int),(⟨(⟨(0:Int),(0:Int),(0:Int)⟩:Shape),([]:List Int)⟩:ak)⟩:Step))) none
def jS {ρ:Type} (k:Nat) (p:List Step× List Step) (v:Int) (next:Int->Option ρ) (x0:Unit->Option ρ) (xret:Bool->Option ρ):Option ρ:=
 cond (decide (v<(p.1.length:Int))) ((idx p.1 v).bind λe1=>(idx p.2 v).bind λe2=>(wz k e1 e2).bind λr3=>cond (!r3) (xret false) (next (IntKind.i64.wrap (v+(1:Int))))) (x0 ())
def xT (k:Nat) (a0:List Step) (a1:List Step):Option (Bool):=
 cond ((a0.length:Int) !=(a1.length:Int)) (some false) (iter (λu6 n6=>jS k (a0,a1) u6 n6 (λy4=>some true) (λy5=>some y5)) k (0:Int))
end
end
set_option maxRecDepth 100000
section
noncomputable section
end
end
set_option maxRecDepth 100000
section
noncomputable section
def fX {ρ:Type} (k:Nat) (p:Int× Int× Int× Int× Int× Int× Int× List Int× List Int) (v:Int) (next:Int->Option ρ) (x0:Unit->Option ρ) (xret:Bool->Option ρ):Option ρ:=
 cond (decide (v<(p.2.2.2.2.2.2.2.2.length:Int))) ((idx p.2.2.2.2.2.2.2.2 v).bind λe7=>(b9 k e7 (-1000000:Int) (1000000:Int)).bind λr8=>cond (!r8) (xret false) (next (IntKind.i64.wrap (v+(1:Int))))) (x0 ())
def fY {ρ:Type} (k:Nat) (p:Int× Int× Int× Int× Int× Int× Int× List Int× List Int) (v:Int) (next:Int->Option ρ) (x2:Unit->Option ρ) (xret:Bool->Option ρ):Option ρ:=
 cond (decide (v<(p.2.2.2.2.2.2.2.1.length:Int))) ((idx p.2.2.2.2.2.2.2.1 v).bind λe10=>(gB k e10).bind λr11=>cond (!r11) (xret false) (next (IntKind.i64.wrap (v+(1:Int))))) (x2 ())
def qD (k:Nat) (a0:ay) (a1:Bool) (a2:Bool):Option (Bool):=
 cond (a1) ((b9 k a0.size (1:Int) (3:Int)).bind λr1=>cond (!r1) (some false) ((b9 k a0.step (1:Int) (2:Int)).bind λr2=>cond (!r2) (some false) (cond (a2) ((b9 k a0.out (1:Int) (8:Int)).bind λr3=>cond (!r3) (some false) ((b9 k a0.mult (0:Int) (2147483647:Int)).bind λr4=>cond (!r4) (some false) ((b9 k a0.shift (0:Int) (31:Int)).bind λr5=>cond (!r5) (some false) ((gB k a0.zero).bind λr6=>cond (!r6) (some false) (cond ((a0.m8.length:Int) !=a0.out) (some false) (iter (λu16 n16=>fX k (a0.kind,a0.out,a0.size,a0.step,a0.mult,a0.shift,a0.zero,a0.weights,a0.m8) u16 n16 (λy9=>iter (λu14 n14=>fY k (a0.kind,a0.out,a0.size,a0.step,a0.mult,a0.shift,a0.zero,a0.weights,a0.m8) u14 n14 (λy12=>some true) (λy13=>some y13)) k (0:Int)) (λy15=>some y15)) k (0:Int))))))) (cond (a0.out !=(0:Int)) (some false) (cond (a0.mult !=(0:Int)) (some false) (cond (a0.shift !=(0:Int)) (some false) (cond (decide ((a0.weights.length:Int)>(0:Int))) (some false) (cond (decide ((a0.m8.length:Int)>(0:Int))) (some false) (cond (a0.kind==(4:Int)) ((gB k a0.zero).bind λr17=>some r17) (some (a0.zero==(0:Int)))))))))))) (cond (a0.size !=(0:Int)) (some false) (cond (a0.step !=(0:Int)) (some false) (cond (a2) ((b9 k a0.out (1:Int) (8:Int)).bind λr18=>cond (!r18) (some false) ((b9 k a0.mult (0:Int) (2147483647:Int)).bind λr19=>cond (!r19) (some false) ((b9 k a0.shift (0:Int) (31:Int)).bind λr20=>cond (!r20) (some false) ((gB k a0.zero).bind λr21=>cond (!r21) (some false) (cond ((a0.m8.length:Int) !=a0.out) (some false) (iter (λu31 n31=>fX k (a0.kind,a0.out,a0.size,a0.step,a0.mult,a0.shift,a0.zero,a0.weights,a0.m8) u31 n31 (λy24=>iter (λu29 n29=>fY k (a0.kind,a0.out,a0.size,a0.step,a0.mult,a0.shift,a0.zero,a0.weights,a0.m8) u29 n29 (λy27=>some true) (λy28=>some y28)) k (0:Int)) (λy30=>some y30)) k (0:Int))))))) (cond (a0.out !=(0:Int)) (some false) (cond (a0.mult !=(0:Int)) (some false) (cond (a0.shift !=(0:Int)) (some false) (cond (decide ((a0.weights.length:Int)>(0:Int))) (some false) (cond (decide ((a0.m8.length:Int)>(0:Int))) (some false) (cond (a0.kind==(4:Int)) ((gB k a0.zero).bind λr32=>some r32) (some (a0.zero==(0:Int))))))))))))
def lg (k:Nat) (a0:Shape) (a1:ay):Option (Shape× Bool):=
 (jP k a0).bind λr1=>cond (!r1) (some ((⟨(0:Int),(0:Int),(0:Int)⟩:Shape),false)) ((b9 k a1.kind (0:Int) (5:Int)).bind λr2=>cond (!r2) (some ((⟨(0:Int),(0:Int),(0:Int)⟩:Shape),false)) ((b9 k a1.kind (1:Int) (3:Int)).bind λr3=>(qD k a1 r3 (decide (a1.kind<=(1:Int)))).bind λr4=>cond (!r4) (some ((⟨(0:Int),(0:Int),(0:Int)⟩:Shape),false)) (cond (r3) (cond (decide (a1.size>a0.h)) (some ((⟨(0:Int),(0:Int),(0:Int)⟩:Shape),false)) (cond (decide (a1.size>a0.w)) (some ((⟨(0:Int),(0:Int),(0:Int)⟩:Shape),false)) (cond (decide (a1.step=0)) none (cond (decide (a1.step=0)) none (cond (a1.kind==(0:Int)) ((dG k a0).bind λr5=>cond (decide (r5>(64:Int))) (some ((⟨(0:Int),(0:Int),(0:Int)⟩:Shape),false)) ((dG k a0).bind λr6=>cond ((a1.weights.length:Int) !=(IntKind.i64.wrap (a1.out*r6))) (some ((⟨(0:Int),(0:Int),(0:Int)⟩:Shape),false)) (some ((⟨(1:Int),(1:Int),a1.out⟩:Shape),true)))) (cond (a1.kind==(1:Int)) (cond ((a1.weights.length:Int) !=(IntKind.i64.wrap ((IntKind.i64.wrap ((IntKind.i64.wrap (a1.out*a1.size))*a1.size))*a0.c))) (some ((⟨(0:Int),(0:Int),(0:Int)⟩:Shape),false)) (cond (decide ((a1.weights.length:Int)>(600:Int))) (some ((⟨(0:Int),(0:Int),(0:Int)⟩:Shape),false)) (some ((⟨(IntKind.i64.wrap ((IntKind.i64.wrap ((IntKind.i64.wrap (a0.h-a1.size)).tdiv a1.step))+(1:Int))),(IntKind.i64.wrap ((IntKind.i64.wrap ((IntKind.i64.wrap (a0.w-a1.size)).tdiv a1.step))+(1:Int))),a1.out⟩:Shape),true)))) (cond (a1.kind==(5:Int)) ((dG k a0).bind λr7=>cond (decide (r7>(8:Int))) (some ((⟨(0:Int),(0:Int),(0:Int)⟩:Shape),false)) ((dG k a0).bind λr8=>some ((⟨(1:Int),(1:Int),r8⟩:Shape),true))) (some ((⟨(IntKind.i64.wrap ((IntKind.i64.wrap ((IntKind.i64.wrap (a0.h-a1.size)).tdiv a1.step))+(1:Int))),(IntKind.i64.wrap ((IntKind.i64.wrap ((IntKind.i64.wrap (a0.w-a1.size)).tdiv a1.step))+(1:Int))),a0.c⟩:Shape),true))))))))) (cond (a1.kind==(0:Int)) ((dG k a0).bind λr9=>cond (decide (r9>(64:Int))) (some ((⟨(0:Int),(0:Int),(0:Int)⟩:Shape),false)) ((dG k a0).bind λr10=>cond ((a1.weights.length:Int) !=(IntKind.i64.wrap (a1.out*r10))) (some ((⟨(0:Int),(0:Int),(0:Int)⟩:Shape),false)) (some ((⟨(1:Int),(1:Int),a1.out⟩:Shape),true)))) (cond (a1.kind==(1:Int)) (cond ((a1.weights.length:Int) !=(IntKind.i64.wrap ((IntKind.i64.wrap ((IntKind.i64.wrap (a1.out*a1.size))*a1.size))*a0.c))) (some ((⟨(0:Int),(0:Int),(0:Int)⟩:Shape),false)) (cond (decide ((a1.weights.length:Int)>(600:Int))) (some ((⟨(0:Int),(0:Int),(0:Int)⟩:Shape),false)) (some ((⟨a0.h,a0.w,a1.out⟩:Shape),true)))) (cond (a1.kind==(5:Int)) ((dG k a0).bind λr11=>cond (decide (r11>(8:Int))) (some ((⟨(0:Int),(0:Int),(0:Int)⟩:Shape),false)) ((dG k a0).bind λr12=>some ((⟨(1:Int),(1:Int),r12⟩:Shape),true))) (some (a0,true))))))))
def gC {ρ:Type} (k:Nat) (p:Int× Int× Int× List ay) (v:Int× List Shape) (next:(Int× List Shape)->Option ρ) (x0:(List Shape)->Option ρ) (xret:Bool->Option ρ):Option ρ:=
 cond (decide (v.1<(p.2.2.2.length:Int))) (cond (decide (0<=v.1/\v.1<(v.2.length:Int))) ((v.2[v.1.toNat]?).bind λe3=>(idx p.2.2.2 v.1).bind λe4=>(lg k e3 e4).bind λr5=>cond (!r5.2) (xret false) (cond (Nat.ble (v.2.length+[r5.1].length) aQ) (next (IntKind.i64.wrap (v.1+(1:Int)),v.2++[r5.1])) none)) none) (x0 v.2)
def jl (k:Nat) (a0:Model):Option (List Shape× Bool):=
 (jP k a0.inp).bind λr1=>cond (!r1) (some (([]:List Shape),false)) ((b9 k (a0.ar.length:Int) (1:Int) (6:Int)).bind λr2=>cond (!r2) (some (([]:List Shape),false)) (iter (λu8 n8=>gC k (a0.inp.h,a0.inp.w,a0.inp.c,a0.ar) u8 n8 (λy6=>some (y6,true)) (λy7=>some (([]:List Shape),y7))) k ((0:Int),[a0.inp])))
def ns (k:Nat) (a0:Model):Option (Bool):=
 (jl k a0).bind λr1=>some r1.2
def wA (k:Nat) (a0:Shape) (a1:ay):Option (Int):=
 (lg k a0 a1).bind λr1=>cond (!r1.2) (some (0:Int)) ((dG k a0).bind λr2=>cond (a1.kind==(0:Int)) ((dG k r1.1).bind λr3=>(dG k a0).bind λr4=>some (IntKind.i64.wrap ((1:Int)+(IntKind.i64.wrap ((IntKind.i64.wrap (r3*r4)).tdiv (16:Int)))))) (cond (a1.kind==(1:Int)) ((dG k r1.1).bind λr5=>some (IntKind.i64.wrap ((1:Int)+(IntKind.i64.wrap ((IntKind.i64.wrap ((IntKind.i64.wrap ((IntKind.i64.wrap (r5*a1.size))*a1.size))*a0.c)).tdiv (16:Int)))))) (cond (a1.kind==(2:Int)) ((dG k r1.1).bind λr6=>some (IntKind.i64.wrap ((1:Int)+(IntKind.i64.wrap ((IntKind.i64.wrap ((IntKind.i64.wrap (r6*a1.size))*a1.size)).tdiv (16:Int)))))) (cond (a1.kind==(3:Int)) ((dG k r1.1).bind λr7=>some (IntKind.i64.wrap ((1:Int)+(IntKind.i64.wrap ((IntKind.i64.wrap ((IntKind.i64.wrap (r7*a1.size))*a1.size)).tdiv (16:Int)))))) (some (IntKind.i64.wrap ((1:Int)+(IntKind.i64.wrap (r2.tdiv (16:Int))))))))))
def jT {ρ:Type} (k:Nat) (p:Int× Int× Int× List ay× List Shape) (v:Int× List Int) (next:(Int× List Int)->Option ρ) (x0:(List Int)->Option ρ):Option ρ:=
 cond (decide (v.1<(p.2.2.2.1.length:Int))) (cond (decide (0<=v.1/\v.1<(p.2.2.2.2.length:Int))) ((p.2.2.2.2[v.1.toNat]?).bind λe2=>(idx p.2.2.2.1 v.1).bind λe3=>(wA k e2 e3).bind λr4=>cond (Nat.ble (v.2.length+[r4].length) aQ) (next (IntKind.i64.wrap (v.1+(1:Int)),v.2++[r4])) none) none) (x0 v.2)
def jU (k:Nat) (a0:Model):Option (List Int):=
 (jl k a0).bind λr1=>cond (!r1.2) (some ([]:List Int)) (iter (λu6 n6=>jT k (a0.inp.h,a0.inp.w,a0.inp.c,a0.ar,r1.1) u6 n6 (λy5=>some y5)) k ((0:Int),([]:List Int)))
def gD {ρ:Type} (k:Nat) (p:List Int) (v:Int× Int) (next:(Int× Int)->Option ρ) (x0:Int->Option ρ):Option ρ:=
 cond (decide (v.2<(p.length:Int))) (cond (decide (0<=v.2/\v.2<(p.length:Int))) ((p[v.2.toNat]?).bind λe2=>next (IntKind.i64.wrap (v.1+e2),IntKind.i64.wrap (v.2+(1:Int)))) none) (x0 v.1)
def ow (k:Nat) (a0:Model):Option (Int):=
 (jU k a0).bind λr1=>iter (λu4 n4=>gD k r1 u4 n4 (λy3=>some y3)) k ((0:Int),(0:Int))
def eP (k:Nat) (a0:ay):Option (Bool):=
 cond (a0.size==(0:Int)) (some (a0.step==(0:Int))) (some false)
def gV (k:Nat) (a0:Int):Option (Bool):=
 (ry k a0 (-1000000:Int) (1000000:Int)).bind λr1=>some (!r1)
def aN {ρ:Type} (k:Nat) (p:List Int× Int) (v:Int) (next:Int->Option ρ) (x0:Unit->Option ρ) (xret:Int->Option ρ):Option ρ:=
 cond (decide (v<p.2)) ((idx p.1 v).bind λe1=>(gV k e1).bind λr2=>cond (r2) (xret v) (next (IntKind.i64.wrap (v+(1:Int))))) (x0 ())
def bD (k:Nat) (a0:List Int):Option (Int):=
 iter (λu5 n5=>aN k (a0,(a0.length:Int)) u5 n5 (λy3=>some (-1:Int)) (λy4=>some y4)) k (0:Int)
def aO (k:Nat) (a0:List Int):Option (Bool):=
 (bD k a0).bind λr1=>some (decide (r1>=(0:Int)))
def fm (k:Nat) (a0:ay) (a1:Int):Option (Bool):=
 (ry k a0.out (1:Int) (8:Int)).bind λr1=>cond (r1) ((ry k a0.mult (0:Int) (2147483647:Int)).bind λr2=>cond (r2) ((ry k a0.shift (0:Int) (31:Int)).bind λr3=>cond (r3) ((ry k a0.zero (-128:Int) (127:Int)).bind λr4=>cond (r4) (cond ((a0.weights.length:Int)==(IntKind.i64.wrap (a0.out*a1))) ((nr k a0.weights).bind λr5=>cond (r5) (cond ((a0.m8.length:Int)==a0.out) ((aO k a0.m8).bind λr6=>some (!r6)) (some false)) (some false)) (some false)) (some false)) (some false)) (some false)) (some false)
def dZ (k:Nat) (a0:ay) (a1:Shape):Option (Bool):=
 (ry k a0.size (1:Int) (if a1.w<(if a1.h<(3:Int)then a1.h else(3:Int))then a1.w else(if a1.h<(3:Int)then a1.h else(3:Int)))).bind λr1=>cond (r1) ((ry k a0.step (1:Int) (2:Int)).bind λr2=>some r2) (some false)
def eQ (k:Nat) (a0:ay) (a1:Shape) (a2:Int):Option (Shape):=
 cond (decide (a0.step=0)) none (cond (decide (a0.step=0)) none (some (⟨(IntKind.i64.wrap ((IntKind.i64.wrap ((IntKind.i64.wrap (a1.h-a0.size)).tdiv a0.step))+(1:Int))),(IntKind.i64.wrap ((IntKind.i64.wrap ((IntKind.i64.wrap (a1.w-a0.size)).tdiv a0.step))+(1:Int))),a2⟩:Shape)))
def eD (k:Nat) (a0:ay):Option (Bool):=
 cond (a0.out==(0:Int)) (cond (a0.mult==(0:Int)) (cond (a0.shift==(0:Int)) (cond ((a0.weights.length:Int)==(0:Int)) (some ((a0.m8.length:Int)==(0:Int))) (some false)) (some false)) (some false)) (some false)
def lh (k:Nat) (a0:Shape) (a1:ay):Option (Shape× Bool):=
 (nq k a0).bind λr1=>cond (!r1) (some ((⟨(0:Int),(0:Int),(0:Int)⟩:Shape),false)) ((jz k a0).bind λr2=>cond (a1.kind==(0:Int)) (cond (decide (r2<=(64:Int))) ((eP k a1).bind λr3=>cond (r3) ((fm k a1 r2).bind λr4=>cond (r4) (some ((⟨(1:Int),(1:Int),a1.out⟩:Shape),true)) (some ((⟨(0:Int),(0:Int),(0:Int)⟩:Shape),false))) (some ((⟨(0:Int),(0:Int),(0:Int)⟩:Shape),false))) (some ((⟨(0:Int),(0:Int),(0:Int)⟩:Shape),false))) (cond (a1.kind==(1:Int)) ((dZ k a1 a0).bind λr5=>cond (r5) (cond (decide ((a1.weights.length:Int)<=(600:Int))) ((fm k a1 (IntKind.i64.wrap ((IntKind.i64.wrap (a1.size*a1.size))*a0.c))).bind λr6=>cond (r6) ((eQ k a1 a0 a1.out).bind λr7=>some (r7,true)) (some ((⟨(0:Int),(0:Int),(0:Int)⟩:Shape),false))) (some ((⟨(0:Int),(0:Int),(0:Int)⟩:Shape),false))) (some ((⟨(0:Int),(0:Int),(0:Int)⟩:Shape),false))) (cond (a1.kind==(2:Int)) ((dZ k a1 a0).bind λr8=>cond (r8) ((eD k a1).bind λr9=>cond (r9) (cond (a1.zero==(0:Int)) ((eQ k a1 a0 a0.c).bind λr10=>some (r10,true)) (some ((⟨(0:Int),(0:Int),(0:Int)⟩:Shape),false))) (some ((⟨(0:Int),(0:Int),(0:Int)⟩:Shape),false))) (some ((⟨(0:Int),(0:Int),(0:Int)⟩:Shape),false))) (cond (a1.kind==(3:Int)) ((dZ k a1 a0).bind λr11=>cond (r11) ((eD k a1).bind λr12=>cond (r12) (cond (a1.zero==(0:Int)) ((eQ k a1 a0 a0.c).bind λr13=>some (r13,true)) (some ((⟨(0:Int),(0:Int),(0:Int)⟩:Shape),false))) (some ((⟨(0:Int),(0:Int),(0:Int)⟩:Shape),false))) (some ((⟨(0:Int),(0:Int),(0:Int)⟩:Shape),false))) (cond (a1.kind==(4:Int)) ((eP k a1).bind λr14=>cond (r14) ((eD k a1).bind λr15=>cond (r15) ((ry k a1.zero (-128:Int) (127:Int)).bind λr16=>cond (r16) (some (a0,true)) (some ((⟨(0:Int),(0:Int),(0:Int)⟩:Shape),false))) (some ((⟨(0:Int),(0:Int),(0:Int)⟩:Shape),false))) (some ((⟨(0:Int),(0:Int),(0:Int)⟩:Shape),false))) (cond (a1.kind==(5:Int)) ((eP k a1).bind λr17=>cond (r17) ((eD k a1).bind λr18=>cond (r18) (cond (a1.zero==(0:Int)) (cond (decide (r2<=(8:Int))) (some ((⟨(1:Int),(1:Int),r2⟩:Shape),true)) (some ((⟨(0:Int),(0:Int),(0:Int)⟩:Shape),false))) (some ((⟨(0:Int),(0:Int),(0:Int)⟩:Shape),false))) (some ((⟨(0:Int),(0:Int),(0:Int)⟩:Shape),false))) (some ((⟨(0:Int),(0:Int),(0:Int)⟩:Shape),false))) (some ((⟨(0:Int),(0:Int),(0:Int)⟩:Shape),false))))))))
def eR {ρ:Type} (k:Nat) (p:List ay× Int) (v:Int× List Shape× Int× Int× Int) (next:(Int× List Shape× Int× Int× Int)->Option ρ) (x0:(List Shape)->Option ρ) (xret:Bool->Option ρ):Option ρ:=
 cond (decide (v.1<p.2)) ((idx p.1 v.1).bind λe1=>(lh k (⟨v.2.2.1,v.2.2.2.1,v.2.2.2.2⟩:Shape) e1).bind λr2=>cond (!r2.2) (xret false) (cond (Nat.ble (v.2.1.length+[r2.1].length) aQ) (next (IntKind.i64.wrap (v.1+(1:Int)),v.2.1++[r2.1],r2.1.h,r2.1.w,r2.1.c)) none)) (x0 v.2.1)
def gE (k:Nat) (a0:Model):Option (List Shape× Bool):=
 iter (λu5 n5=>eR k (a0.ar,(a0.ar.length:Int)) u5 n5 (λy3=>some (y3,true)) (λy4=>some (([]:List Shape),y4))) k ((0:Int),[a0.inp],a0.inp.h,a0.inp.w,a0.inp.c)
def jV (k:Nat) (a0:Model):Option (Bool):=
 (ry k (a0.ar.length:Int) (1:Int) (6:Int)).bind λr1=>cond (!r1) (some false) ((gE k a0).bind λr2=>some r2.2)
def nt (k:Nat) (a0:Model):Option (List Shape):=
 (jV k a0).bind λr1=>cond (!r1) (some ([]:List Shape)) ((gE k a0).bind λr2=>some r2.1)
def wB (k:Nat) (a0:Shape) (a1:ay):Option (Int):=
 (lh k a0 a1).bind λr1=>cond (!r1.2) (some (0:Int)) ((jz k a0).bind λr2=>cond (a1.kind==(0:Int)) ((jz k r1.1).bind λr3=>some (IntKind.i64.wrap ((1:Int)+(IntKind.i64.wrap ((IntKind.i64.wrap (r2*r3)).tdiv (16:Int)))))) (cond (a1.kind==(1:Int)) ((jz k r1.1).bind λr4=>some (IntKind.i64.wrap ((1:Int)+(IntKind.i64.wrap ((IntKind.i64.wrap ((IntKind.i64.wrap ((IntKind.i64.wrap (r4*a1.size))*a1.size))*a0.c)).tdiv (16:Int)))))) (cond (a1.kind==(2:Int)) ((jz k r1.1).bind λr5=>some (IntKind.i64.wrap ((1:Int)+(IntKind.i64.wrap ((IntKind.i64.wrap ((IntKind.i64.wrap (r5*a1.size))*a1.size)).tdiv (16:Int)))))) (cond (a1.kind==(3:Int)) ((jz k r1.1).bind λr6=>some (IntKind.i64.wrap ((1:Int)+(IntKind.i64.wrap ((IntKind.i64.wrap ((IntKind.i64.wrap (r6*a1.size))*a1.size)).tdiv (16:Int)))))) (some (IntKind.i64.wrap ((1:Int)+(IntKind.i64.wrap (r2.tdiv (16:Int))))))))))
def jW {ρ:Type} (k:Nat) (p:Int× Int× Int× Int× List ay× List Shape) (v:Int× List Int) (next:(Int× List Int)->Option ρ) (x0:(List Int)->Option ρ):Option ρ:=
 cond (decide (v.1<p.1)) (cond (decide (0<=v.1/\v.1<(p.2.2.2.2.2.length:Int))) ((p.2.2.2.2.2[v.1.toNat]?).bind λe2=>cond (decide (v.1<(p.2.2.2.2.1.length:Int))) ((idx p.2.2.2.2.1 v.1).bind λe3=>(wB k e2 e3).bind λr4=>cond (Nat.ble (v.2.length+[r4].length) aQ) (next (IntKind.i64.wrap (v.1+(1:Int)),v.2++[r4])) none) (next (IntKind.i64.wrap (v.1+(1:Int)),v.2))) none) (x0 v.2)
def jX (k:Nat) (a0:Model):Option (List Int):=
 (nt k a0).bind λr1=>iter (λu6 n6=>jW k ((r1.length:Int),a0.inp.h,a0.inp.w,a0.inp.c,a0.ar,r1) u6 n6 (λy5=>some y5)) k ((0:Int),([]:List Int))
def tp {ρ:Type} (k:Nat) (p:List Int× Int) (v:Int× Int) (next:(Int× Int)->Option ρ) (x0:Int->Option ρ):Option ρ:=
 cond (decide (v.2<p.2)) ((idx p.1 v.2).bind λe1=>next (IntKind.i64.wrap (v.1+e1),IntKind.i64.wrap (v.2+(1:Int)))) (x0 v.1)
def LA (k:Nat) (a0:List Int):Option (Int):=
 iter (λu3 n3=>tp k (a0,(a0.length:Int)) u3 n3 (λy2=>some y2)) k ((0:Int),(0:Int))
def oz (k:Nat) (a0:Model):Option (Int):=
 (jX k a0).bind λr1=>(LA k r1).bind λr2=>some r2
end
end
set_option maxRecDepth 100000
section
noncomputable section
def tq (k:Nat) (a0:ay):Option (ay):=
 (jO k a0.weights).bind λr1=>(jO k a0.m8).bind λr2=>some (⟨a0.kind,a0.out,a0.size,a0.step,a0.mult,a0.shift,a0.zero,r1,r2⟩:ay)
def jA (k:Nat) (a0:ay):Option (ay):=
 (bO k a0.weights).bind λr1=>(bO k a0.m8).bind λr2=>some (⟨a0.kind,a0.out,a0.size,a0.step,a0.mult,a0.shift,a0.zero,r1,r2⟩:ay)
def eS {ρ:Type} (k:Nat) (p:List ay× Int) (v:Int× List ay) (next:(Int× List ay)->Option ρ) (x0:(List ay)->Option ρ):Option ρ:=
 cond (decide (v.1<p.2)) ((idx p.1 v.1).bind λe1=>(jA k e1).bind λr2=>cond (Nat.ble (v.2.length+1) aQ) (next (IntKind.i64.wrap (v.1+(1:Int)),v.2++[r2])) none) (x0 v.2)
def mW (k:Nat) (a0:List ay):Option (List ay):=
 iter (λu4 n4=>eS k (a0,(a0.length:Int)) u4 n4 (λy3=>some y3)) k ((0:Int),([]:List ay))
def jY {ρ:Type} (k:Nat) (p:Int× Int× Int× List ay× Int× Int× Int× Int× Int× Int) (v:Int× List ay) (next:(Int× List ay)->Option ρ) (x0:(List ay)->Option ρ):Option ρ:=
 cond (decide (v.1<(p.2.2.2.1.length:Int))) ((idx p.2.2.2.1 v.1).bind λe1=>(tq k e1).bind λr2=>cond (Nat.ble (v.2.length+1) aQ) (next (IntKind.i64.wrap (v.1+(1:Int)),v.2++[r2])) none) (x0 v.2)
def pW (k:Nat) (a0:Model):Option (Model):=
 iter (λu4 n4=>jY k (a0.inp.h,a0.inp.w,a0.inp.c,a0.ar,(0:Int),(0:Int),(0:Int),a0.inp.h,a0.inp.w,a0.inp.c) u4 n4 (λy3=>some (⟨a0.inp,y3⟩:Model))) k ((0:Int),([]:List ay))
def nu {ρ:Type} (k:Nat) (p:Int× Int× Int× List ay× Int× Int× Int× Int× List Int× Int× List Int) (v:Int× Int) (next:(Int× Int)->Option ρ) (x0:Int->Option ρ):Option ρ:=
 cond (decide (v.2<p.2.2.2.2.1)) (cond (decide (0<=v.2/\v.2<(p.2.2.2.2.2.2.2.2.2.2.length:Int))) ((p.2.2.2.2.2.2.2.2.2.2[v.2.toNat]?).bind λe6=>next (IntKind.i64.wrap (v.1+e6),IntKind.i64.wrap (v.2+(1:Int)))) none) (x0 v.1)
def rZ (k:Nat) (a0:Job):Option (Bool):=
 (jl k a0.model).bind λr1=>cond (!r1.2) (some false) ((b9 k a0.at_ (0:Int) (a0.model.ar.length:Int)).bind λr2=>cond (!r2) (some false) ((fW k a0.act).bind λr3=>cond (!r3) (some false) (cond (decide (0<=a0.at_/\a0.at_<(r1.1.length:Int))) ((r1.1[a0.at_.toNat]?).bind λe4=>cond (!(cond (a0.act.sh.h==e4.h) (cond (a0.act.sh.w==e4.w) (cond (a0.act.sh.c==e4.c) (true) false) false) false)) (some false) ((jU k a0.model).bind λr5=>iter (λu8 n8=>nu k (a0.model.inp.h,a0.model.inp.w,a0.model.inp.c,a0.model.ar,a0.at_,a0.act.sh.h,a0.act.sh.w,a0.act.sh.c,a0.act.data,a0.iU,r5) u8 n8 (λy7=>some (a0.iU==y7))) k ((0:Int),(0:Int)))) none)))
def qE (k:Nat) (a0:Model) (a1:ak):Option (Job× Bool):=
 (pW k a0).bind λr1=>(lJ k a1).bind λr2=>(rZ k (⟨r1,(0:Int),r2,(0:Int)⟩:Job)).bind λr3=>cond (!r3) (some ((⟨(⟨(⟨(0:Int),(0:Int),(0:Int)⟩:Shape),([]:List ay)⟩:Model),(0:Int),(⟨(⟨(0:Int),(0:Int),(0:Int)⟩:Shape),([]:List Int)⟩:ak),(0:Int)⟩:Job),false)) (some ((⟨r1,(0:Int),r2,(0:Int)⟩:Job),true))
def xU (k:Nat) (a0:Job):Option (Bool):=
 (jV k a0.model).bind λr1=>cond (r1) ((ry k a0.at_ (0:Int) (a0.model.ar.length:Int)).bind λr2=>cond (r2) ((lf k a0.act).bind λr3=>cond (r3) ((nt k a0.model).bind λr4=>cond (decide (0<=a0.at_/\a0.at_<(r4.length:Int))) ((r4[a0.at_.toNat]?).bind λe5=>cond (cond (a0.act.sh.h==e5.h) (cond (a0.act.sh.w==e5.w) (cond (a0.act.sh.c==e5.c) (true) false) false) false) ((jX k a0.model).bind λr6=>cond (decide (0<=a0.at_/\a0.at_<=(r6.length:Int))) ((LA k (((r6).drop 0).take (a0.at_.toNat-0))).bind λr7=>some (a0.iU==r7)) none) (some false)) none) (some false)) (some false)) (some false)
def gF (k:Nat) (a0:Model):Option (Model):=
 (mW k a0.ar).bind λr1=>some (⟨a0.inp,r1⟩:Model)
def mg (k:Nat) (a0:Job):Option (Job):=
 (gF k a0.model).bind λr1=>(fG k a0.act).bind λr2=>some (⟨r1,a0.at_,r2,a0.iU⟩:Job)
def qF (k:Nat) (a0:Model) (a1:ak):Option (Job× Bool):=
 (xU k (⟨a0,(0:Int),a1,(0:Int)⟩:Job)).bind λr1=>cond (!r1) (some ((⟨(⟨(⟨(0:Int),(0:Int),(0:Int)⟩:Shape),([]:List ay)⟩:Model),(0:Int),(⟨(⟨(0:Int),(0:Int),(0:Int)⟩:Shape),([]:List Int)⟩:ak),(0:Int)⟩:Job),false)) ((mg k (⟨a0,(0:Int),a1,(0:Int)⟩:Job)).bind λr2=>some (r2,true))
end
end
set_option maxRecDepth 100000
section
noncomputable section
def tu (k:Nat) (a0:Job):Option (Job):=
 (pW k a0.model).bind λr1=>(lJ k a0.act).bind λr2=>some (⟨r1,a0.at_,r2,a0.iU⟩:Job)
def tv (k:Nat) (a0:Job):Option (Bool):=
 (rZ k a0).bind λr1=>cond (r1) (some (a0.at_==(a0.model.ar.length:Int))) (some false)
def nv (k:Nat) (a0:Int) (a1:Int) (a2:Int):Option (Int):=
 cond (decide (a0<a1)) (some a1) (cond (decide (a1>a2)) (some a1) (cond (decide (a0>a2)) (some a2) (some a0)))
def xV (k:Nat) (a0:Int):Option (Int):=
 (nv k a0 (-128:Int) (127:Int)).bind λr1=>some r1
def mX (k:Nat) (a0:Int):Option (Int):=
 (nv k a0 (-2147483648:Int) (2147483647:Int)).bind λr1=>some r1
def mi (k:Nat) (a0:Int) (a1:Int):Option (Int):=
 (mX k a0).bind λr1=>(mX k a1).bind λr2=>(mX k (IntKind.i64.wrap (r1+r2))).bind λr3=>some r3
def qG {ρ:Type} (k:Nat) (p:List Int× List Int) (v:Int× Int) (next:(Int× Int)->Option ρ) (x0:Int->Option ρ):Option ρ:=
 cond (decide (v.2<(p.1.length:Int))) (cond (decide (v.2<(p.2.length:Int))) ((idx p.1 v.2).bind λe1=>(xV k e1).bind λr2=>(idx p.2 v.2).bind λe3=>(xV k e3).bind λr4=>(mi k v.1 (IntKind.i64.wrap (r2*r4))).bind λr5=>next (r5,IntKind.i64.wrap (v.2+(1:Int)))) (x0 v.1)) (x0 v.1)
def Cs (k:Nat) (a0:List Int) (a1:List Int):Option (Int):=
 iter (λu7 n7=>qG k (a0,a1) u7 n7 (λy6=>some y6)) k ((0:Int),(0:Int))
def tw (k:Nat) (a0:Int) (a1:Int):Option (Int):=
 cond (decide (a1=0)) none (cond (decide (a1=0)) none (cond (decide ((a0.tmod a1)<(0:Int))) (some (IntKind.i64.wrap ((IntKind.i64.wrap (a0.tdiv a1))-(1:Int)))) (some (IntKind.i64.wrap (a0.tdiv a1)))))
def tx (k:Nat) (a0:Int) (a1:Int):Option (Int):=
 (mX k a0).bind λr1=>(mX k a1).bind λr2=>(tw k (IntKind.i64.wrap ((IntKind.i64.wrap (r1*r2))+(1073741824:Int))) (2147483648:Int)).bind λr3=>(mX k r3).bind λr4=>some r4
def mj (k:Nat) (a0:Int) (a1:Int):Option (Int):=
 (mX k a0).bind λr1=>(nv k a1 (0:Int) (31:Int)).bind λr2=>cond (decide ((IntKind.u64.wrap (r2))<0)) none (cond (decide (r1<(0:Int))) (cond (decide ((IntKind.i64.wrap ((1:Int)*2^(min (IntKind.u64.wrap (r2)).toNat IntKind.i64.bits)))=0)) none (some (IntKind.i64.wrap (0-(IntKind.i64.wrap ((IntKind.i64.wrap ((IntKind.i64.wrap (0-r1))+(IntKind.i64.wrap ((IntKind.i64.wrap ((1:Int)*2^(min (IntKind.u64.wrap (r2)).toNat IntKind.i64.bits))).tdiv (2:Int))))).tdiv (IntKind.i64.wrap ((1:Int)*2^(min (IntKind.u64.wrap (r2)).toNat IntKind.i64.bits))))))))) (cond (decide ((IntKind.i64.wrap ((1:Int)*2^(min (IntKind.u64.wrap (r2)).toNat IntKind.i64.bits)))=0)) none (some (IntKind.i64.wrap ((IntKind.i64.wrap (r1+(IntKind.i64.wrap ((IntKind.i64.wrap ((1:Int)*2^(min (IntKind.u64.wrap (r2)).toNat IntKind.i64.bits))).tdiv (2:Int))))).tdiv (IntKind.i64.wrap ((1:Int)*2^(min (IntKind.u64.wrap (r2)).toNat IntKind.i64.bits))))))))
def nw (k:Nat) (a0:Int) (a1:Int) (a2:Int) (a3:Int):Option (Int):=
 (tx k a0 a1).bind λr1=>(mj k r1 a2).bind λr2=>(xV k a3).bind λr3=>(xV k (IntKind.i64.wrap (r2+r3))).bind λr4=>some r4
def xW (k:Nat) (a0:Shape) (a1:Int) (a2:Int) (a3:Int):Option (Int):=
 (jP k a0).bind λr1=>cond (!r1) (some (-1:Int)) ((b9 k a1 (0:Int) (IntKind.i64.wrap (a0.h-(1:Int)))).bind λr2=>cond (!r2) (some (-1:Int)) ((b9 k a2 (0:Int) (IntKind.i64.wrap (a0.w-(1:Int)))).bind λr3=>cond (!r3) (some (-1:Int)) ((b9 k a3 (0:Int) (IntKind.i64.wrap (a0.c-(1:Int)))).bind λr4=>cond (!r4) (some (-1:Int)) (some (IntKind.i64.wrap ((IntKind.i64.wrap ((IntKind.i64.wrap ((IntKind.i64.wrap (a1*a0.w))+a2))*a0.c))+a3))))))
def oA (k:Nat) (a0:ak) (a1:Int) (a2:Int) (a3:Int):Option (Int× Bool):=
 (xW k a0.sh a1 a2 a3).bind λr1=>(fW k a0).bind λr2=>cond (!r2) (some ((0:Int),false)) (cond (decide (r1<(0:Int))) (some ((0:Int),false)) ((idx a0.data r1).bind λe3=>some (e3,true)))
def mm {ρ:Type} (k:Nat) (p:Int× Int× Int× Int× Int× Int× Int× List Int× Int× Int× Int× Int× Int× Int× Int× List Int× List Int) (v:Int× List Int) (next:(Int× List Int)->Option ρ) (x2:(List Int)->Option ρ):Option ρ:=
 cond (decide (v.1<p.2.2.2.2.2.2.2.2.2.2.1)) ((oA k (⟨(⟨p.2.2.2.2.1,p.2.2.2.2.2.1,p.2.2.2.2.2.2.1⟩:Shape),p.2.2.2.2.2.2.2.1⟩:ak) (IntKind.i64.wrap ((IntKind.i64.wrap (p.1*p.2.2.2.2.2.2.2.2.2.2.2.1))+p.2.2.2.1)) (IntKind.i64.wrap ((IntKind.i64.wrap (p.2.1*p.2.2.2.2.2.2.2.2.2.2.2.1))+v.1)) p.2.2.1).bind λr1=>cond (Nat.ble (v.2.length+[r1.1].length) aQ) (next (IntKind.i64.wrap (v.1+(1:Int)),v.2++[r1.1])) none) (x2 v.2)
def mn {ρ:Type} (k:Nat) (p:Int× Int× Int× Int× Int× Int× List Int× Int× Int× Int× Int× Int× Int× Int× List Int× List Int) (v:Int× List Int) (next:(Int× List Int)->Option ρ) (x0:(List Int)->Option ρ):Option ρ:=
 cond (decide (v.1<p.2.2.2.2.2.2.2.2.2.1)) (iter (λu3 n3=>mm k (p.1,p.2.1,p.2.2.1,v.1,p.2.2.2.1,p.2.2.2.2.1,p.2.2.2.2.2.1,p.2.2.2.2.2.2.1,p.2.2.2.2.2.2.2.1,p.2.2.2.2.2.2.2.2.1,p.2.2.2.2.2.2.2.2.2.1,p.2.2.2.2.2.2.2.2.2.2.1,p.2.2.2.2.2.2.2.2.2.2.2.1,p.2.2.2.2.2.2.2.2.2.2.2.2.1,p.2.2.2.2.2.2.2.2.2.2.2.2.2.1,p.2.2.2.2.2.2.2.2.2.2.2.2.2.2.1,p.2.2.2.2.2.2.2.2.2.2.2.2.2.2.2) u3 n3 (λy2=>next (IntKind.i64.wrap (v.1+(1:Int)),y2))) k ((0:Int),v.2)) (x0 v.2)
def lK (k:Nat) (a0:ak) (a1:ay) (a2:Int) (a3:Int) (a4:Int):Option (List Int):=
 iter (λu5 n5=>mn k (a2,a3,a4,a0.sh.h,a0.sh.w,a0.sh.c,a0.data,a1.kind,a1.out,a1.size,a1.step,a1.mult,a1.shift,a1.zero,a1.weights,a1.m8) u5 n5 (λy4=>some y4)) k ((0:Int),([]:List Int))
def mo {ρ:Type} (k:Nat) (p:Int× Int× Int× Int× Int× Int× Int× Int× List Int× Int× Int× Int× Int× Int× Int× Int× List Int× List Int× Int× Int× Int) (v:Int× Int) (next:(Int× Int)->Option ρ) (x5:Int->Option ρ):Option ρ:=
 cond (decide (v.2<p.2.2.2.2.2.2.2.2.2.2.2.2.2.2.2.2.2.2.2.2)) ((oA k (⟨(⟨p.2.2.2.2.2.1,p.2.2.2.2.2.2.1,p.2.2.2.2.2.2.2.1⟩:Shape),p.2.2.2.2.2.2.2.2.1⟩:ak) (IntKind.i64.wrap ((IntKind.i64.wrap (p.1*p.2.2.2.2.2.2.2.2.2.2.2.2.1))+p.2.2.2.1)) (IntKind.i64.wrap ((IntKind.i64.wrap (p.2.1*p.2.2.2.2.2.2.2.2.2.2.2.2.1))+p.2.2.2.2.1)) v.2).bind λr6=>(idx p.2.2.2.2.2.2.2.2.2.2.2.2.2.2.2.2.1 (IntKind.i64.wrap ((IntKind.i64.wrap ((IntKind.i64.wrap ((IntKind.i64.wrap ((IntKind.i64.wrap ((IntKind.i64.wrap (p.2.2.1*p.2.2.2.2.2.2.2.2.2.2.2.1))+p.2.2.2.1))*p.2.2.2.2.2.2.2.2.2.2.2.1))+p.2.2.2.2.1))*p.2.2.2.2.2.2.2.2.2.2.2.2.2.2.2.2.2.2.2.2))+v.2))).bind λe7=>(mi k v.1 (IntKind.i64.wrap (r6.1*e7))).bind λr8=>next (r8,IntKind.i64.wrap (v.2+(1:Int)))) (x5 v.1)
def mq {ρ:Type} (k:Nat) (p:Int× Int× Int× Int× Int× Int× Int× List Int× Int× Int× Int× Int× Int× Int× Int× List Int× List Int× Int× Int× Int) (v:Int× Int) (next:(Int× Int)->Option ρ) (x3:Int->Option ρ):Option ρ:=
 cond (decide (v.2<p.2.2.2.2.2.2.2.2.2.2.1)) (iter (λu10 n10=>mo k (p.1,p.2.1,p.2.2.1,p.2.2.2.1,v.2,p.2.2.2.2.1,p.2.2.2.2.2.1,p.2.2.2.2.2.2.1,p.2.2.2.2.2.2.2.1,p.2.2.2.2.2.2.2.2.1,p.2.2.2.2.2.2.2.2.2.1,p.2.2.2.2.2.2.2.2.2.2.1,p.2.2.2.2.2.2.2.2.2.2.2.1,p.2.2.2.2.2.2.2.2.2.2.2.2.1,p.2.2.2.2.2.2.2.2.2.2.2.2.2.1,p.2.2.2.2.2.2.2.2.2.2.2.2.2.2.1,p.2.2.2.2.2.2.2.2.2.2.2.2.2.2.2.1,p.2.2.2.2.2.2.2.2.2.2.2.2.2.2.2.2.1,p.2.2.2.2.2.2.2.2.2.2.2.2.2.2.2.2.2.1,p.2.2.2.2.2.2.2.2.2.2.2.2.2.2.2.2.2.2.1,p.2.2.2.2.2.2.2.2.2.2.2.2.2.2.2.2.2.2.2) u10 n10 (λy9=>next (y9,IntKind.i64.wrap (v.2+(1:Int))))) k (v.1,(0:Int))) (x3 v.1)
def mr {ρ:Type} (k:Nat) (p:Int× Int× Int× Int× Int× Int× List Int× Int× Int× Int× Int× Int× Int× Int× List Int× List Int× Int× Int× Int) (v:Int× Int) (next:(Int× Int)->Option ρ) (x1:Int->Option ρ):Option ρ:=
 cond (decide (v.2<p.2.2.2.2.2.2.2.2.2.1)) (iter (λu12 n12=>mq k (p.1,p.2.1,p.2.2.1,v.2,p.2.2.2.1,p.2.2.2.2.1,p.2.2.2.2.2.1,p.2.2.2.2.2.2.1,p.2.2.2.2.2.2.2.1,p.2.2.2.2.2.2.2.2.1,p.2.2.2.2.2.2.2.2.2.1,p.2.2.2.2.2.2.2.2.2.2.1,p.2.2.2.2.2.2.2.2.2.2.2.1,p.2.2.2.2.2.2.2.2.2.2.2.2.1,p.2.2.2.2.2.2.2.2.2.2.2.2.2.1,p.2.2.2.2.2.2.2.2.2.2.2.2.2.2.1,p.2.2.2.2.2.2.2.2.2.2.2.2.2.2.2.1,p.2.2.2.2.2.2.2.2.2.2.2.2.2.2.2.2.1,p.2.2.2.2.2.2.2.2.2.2.2.2.2.2.2.2.2.1,p.2.2.2.2.2.2.2.2.2.2.2.2.2.2.2.2.2.2) u12 n12 (λy11=>next (y11,IntKind.i64.wrap (v.2+(1:Int))))) k (v.1,(0:Int))) (x1 v.1)
def mu {ρ:Type} (k:Nat) (p:List Int) (v:Int× Int) (next:(Int× Int)->Option ρ) (x7:Int->Option ρ):Option ρ:=
 cond (decide (v.2<(p.length:Int))) (cond (decide (0<=v.2/\v.2<(p.length:Int))) ((p[v.2.toNat]?).bind λe20=>cond (decide (e20>v.1)) (cond (decide (0<=v.2/\v.2<(p.length:Int))) ((p[v.2.toNat]?).bind λe21=>next (e21,IntKind.i64.wrap (v.2+(1:Int)))) none) (next (v.1,IntKind.i64.wrap (v.2+(1:Int))))) none) (x7 v.1)
def mv {ρ:Type} (k:Nat) (p:List Int) (v:Int× Int) (next:(Int× Int)->Option ρ) (x9:Int->Option ρ):Option ρ:=
 cond (decide (v.2<(p.length:Int))) (cond (decide (0<=v.2/\v.2<(p.length:Int))) ((p[v.2.toNat]?).bind λe25=>next (IntKind.i64.wrap (v.1+e25),IntKind.i64.wrap (v.2+(1:Int)))) none) (x9 v.1)
def tz (k:Nat) (a0:ak) (a1:ay) (a2:Int) (a3:Int) (a4:Int):Option (Int):=
 cond (a1.kind==(0:Int)) ((dG k a0.sh).bind λr1=>cond (decide (0<=(IntKind.i64.wrap ((IntKind.i64.wrap (a4*r1))+r1))/\(IntKind.i64.wrap ((IntKind.i64.wrap (a4*r1))+r1))<=(a1.weights.length:Int))) (cond (decide (0<=(IntKind.i64.wrap (a4*r1))/\(IntKind.i64.wrap (a4*r1))<=((IntKind.i64.wrap ((IntKind.i64.wrap (a4*r1))+r1)).toNat:Int))) ((Cs k a0.data ((a1.weights.take ((IntKind.i64.wrap ((IntKind.i64.wrap (a4*r1))+r1)).toNat)).drop ((IntKind.i64.wrap (a4*r1)).toNat))).bind λr2=>(idx a1.m8 a4).bind λe3=>(mi k r2 e3).bind λr4=>(nw k r4 a1.mult a1.shift a1.zero).bind λr5=>some r5) none) none) (cond (a1.kind==(1:Int)) (iter (λu17 n17=>mr k (a2,a3,a4,a0.sh.h,a0.sh.w,a0.sh.c,a0.data,a1.kind,a1.out,a1.size,a1.step,a1.mult,a1.shift,a1.zero,a1.weights,a1.m8,a0.sh.h,a0.sh.w,a0.sh.c) u17 n17 (λy13=>(idx a1.m8 a4).bind λe14=>(mi k y13 e14).bind λr15=>(nw k r15 a1.mult a1.shift a1.zero).bind λr16=>some r16)) k ((0:Int),(0:Int))) (cond (a1.kind==(2:Int)) ((lK k a0 a1 a2 a3 a4).bind λr18=>cond (decide (0<=(0:Int)/\(0:Int)<(r18.length:Int))) ((r18[(0:Int).toNat]?).bind λe19=>iter (λu23 n23=>mu k r18 u23 n23 (λy22=>some y22)) k (e19,(1:Int))) none) (cond (a1.kind==(3:Int)) ((lK k a0 a1 a2 a3 a4).bind λr24=>iter (λu27 n27=>mv k r24 u27 n27 (λy26=>cond (decide (y26<(0:Int))) (cond (decide ((IntKind.i64.wrap ((2:Int)*(r24.length:Int)))=0)) none (some (IntKind.i64.wrap (0-(IntKind.i64.wrap ((IntKind.i64.wrap ((IntKind.i64.wrap ((-2:Int)*y26))+(r24.length:Int))).tdiv (IntKind.i64.wrap ((2:Int)*(r24.length:Int))))))))) (cond (decide ((IntKind.i64.wrap ((2:Int)*(r24.length:Int)))=0)) none (some (IntKind.i64.wrap ((IntKind.i64.wrap ((IntKind.i64.wrap ((2:Int)*y26))+(r24.length:Int))).tdiv (IntKind.i64.wrap ((2:Int)*(r24.length:Int))))))))) k ((0:Int),(0:Int))) (cond (a1.kind==(4:Int)) ((oA k a0 a2 a3 a4).bind λr28=>cond (decide (r28.1<a1.zero)) (some a1.zero) (some r28.1)) ((idx a0.data a4).bind λe29=>some e29)))))
def kH {ρ:Type} (k:Nat) (p:Int× Int× Int× Int× Int× List Int× Int× Int× Int× Int× Int× Int× Int× List Int× List Int× Int× Int× Int× Int× Int× Int× Int× Int× Int) (v:Int× List Int) (next:(Int× List Int)->Option ρ) (x4:(List Int)->Option ρ):Option ρ:=
 cond (decide (v.1<p.2.2.2.2.2.2.2.2.2.2.2.2.2.2.2.2.2.2.2.2.1)) ((tz k (⟨(⟨p.2.2.1,p.2.2.2.1,p.2.2.2.2.1⟩:Shape),p.2.2.2.2.2.1⟩:ak) (⟨p.2.2.2.2.2.2.1,p.2.2.2.2.2.2.2.1,p.2.2.2.2.2.2.2.2.1,p.2.2.2.2.2.2.2.2.2.1,p.2.2.2.2.2.2.2.2.2.2.1,p.2.2.2.2.2.2.2.2.2.2.2.1,p.2.2.2.2.2.2.2.2.2.2.2.2.1,p.2.2.2.2.2.2.2.2.2.2.2.2.2.1,p.2.2.2.2.2.2.2.2.2.2.2.2.2.2.1⟩:ay) p.1 p.2.1 v.1).bind λr3=>cond (Nat.ble (v.2.length+[r3].length) aQ) (next (IntKind.i64.wrap (v.1+(1:Int)),v.2++[r3])) none) (x4 v.2)
def kI {ρ:Type} (k:Nat) (p:Int× Int× Int× Int× List Int× Int× Int× Int× Int× Int× Int× Int× List Int× List Int× Int× Int× Int× Int× Int× Int× Int× Int× Int) (v:Int× List Int) (next:(Int× List Int)->Option ρ) (x2:(List Int)->Option ρ):Option ρ:=
 cond (decide (v.1<p.2.2.2.2.2.2.2.2.2.2.2.2.2.2.2.2.2.2.1)) (iter (λu5 n5=>kH k (p.1,v.1,p.2.1,p.2.2.1,p.2.2.2.1,p.2.2.2.2.1,p.2.2.2.2.2.1,p.2.2.2.2.2.2.1,p.2.2.2.2.2.2.2.1,p.2.2.2.2.2.2.2.2.1,p.2.2.2.2.2.2.2.2.2.1,p.2.2.2.2.2.2.2.2.2.2.1,p.2.2.2.2.2.2.2.2.2.2.2.1,p.2.2.2.2.2.2.2.2.2.2.2.2.1,p.2.2.2.2.2.2.2.2.2.2.2.2.2.1,p.2.2.2.2.2.2.2.2.2.2.2.2.2.2.1,p.2.2.2.2.2.2.2.2.2.2.2.2.2.2.2.1,p.2.2.2.2.2.2.2.2.2.2.2.2.2.2.2.2.1,p.2.2.2.2.2.2.2.2.2.2.2.2.2.2.2.2.2.1,p.2.2.2.2.2.2.2.2.2.2.2.2.2.2.2.2.2.2.1,p.2.2.2.2.2.2.2.2.2.2.2.2.2.2.2.2.2.2.2.1,p.2.2.2.2.2.2.2.2.2.2.2.2.2.2.2.2.2.2.2.2.1,p.2.2.2.2.2.2.2.2.2.2.2.2.2.2.2.2.2.2.2.2.2.1,p.2.2.2.2.2.2.2.2.2.2.2.2.2.2.2.2.2.2.2.2.2.2) u5 n5 (λy4=>next (IntKind.i64.wrap (v.1+(1:Int)),y4))) k ((0:Int),v.2)) (x2 v.2)
def kJ {ρ:Type} (k:Nat) (p:Int× Int× Int× List Int× Int× Int× Int× Int× Int× Int× Int× List Int× List Int× Int× Int× Int× Int× Int× Int× Int× Int× Int) (v:Int× List Int) (next:(Int× List Int)->Option ρ) (x0:(List Int)->Option ρ):Option ρ:=
 cond (decide (v.1<p.2.2.2.2.2.2.2.2.2.2.2.2.2.2.2.2.1)) (iter (λu7 n7=>kI k (v.1,p.1,p.2.1,p.2.2.1,p.2.2.2.1,p.2.2.2.2.1,p.2.2.2.2.2.1,p.2.2.2.2.2.2.1,p.2.2.2.2.2.2.2.1,p.2.2.2.2.2.2.2.2.1,p.2.2.2.2.2.2.2.2.2.1,p.2.2.2.2.2.2.2.2.2.2.1,p.2.2.2.2.2.2.2.2.2.2.2.1,p.2.2.2.2.2.2.2.2.2.2.2.2.1,p.2.2.2.2.2.2.2.2.2.2.2.2.2.1,p.2.2.2.2.2.2.2.2.2.2.2.2.2.2.1,p.2.2.2.2.2.2.2.2.2.2.2.2.2.2.2.1,p.2.2.2.2.2.2.2.2.2.2.2.2.2.2.2.2.1,p.2.2.2.2.2.2.2.2.2.2.2.2.2.2.2.2.2.1,p.2.2.2.2.2.2.2.2.2.2.2.2.2.2.2.2.2.2.1,p.2.2.2.2.2.2.2.2.2.2.2.2.2.2.2.2.2.2.2.1,p.2.2.2.2.2.2.2.2.2.2.2.2.2.2.2.2.2.2.2.2.1,p.2.2.2.2.2.2.2.2.2.2.2.2.2.2.2.2.2.2.2.2.2) u7 n7 (λy6=>next (IntKind.i64.wrap (v.1+(1:Int)),y6))) k ((0:Int),v.2)) (x0 v.2)
def ny (k:Nat) (a0:ak) (a1:ay):Option (ak× Bool):=
 (fW k a0).bind λr1=>cond (!r1) (some ((⟨(⟨(0:Int),(0:Int),(0:Int)⟩:Shape),([]:List Int)⟩:ak),false)) ((lg k a0.sh a1).bind λr2=>cond (!r2.2) (some ((⟨(⟨(0:Int),(0:Int),(0:Int)⟩:Shape),([]:List Int)⟩:ak),false)) (iter (λu9 n9=>kJ k (a0.sh.h,a0.sh.w,a0.sh.c,a0.data,a1.kind,a1.out,a1.size,a1.step,a1.mult,a1.shift,a1.zero,a1.weights,a1.m8,(0:Int),(0:Int),(0:Int),r2.1.h,r2.1.w,r2.1.c,r2.1.h,r2.1.w,r2.1.c) u9 n9 (λy8=>some ((⟨r2.1,y8⟩:ak),true))) k ((0:Int),([]:List Int))))
def lL {ρ:Type} (k:Nat) (p:List Int) (v:Int× List Int) (next:(Int× List Int)->Option ρ) (x0:(List Int)->Option ρ):Option ρ:=
 cond (decide (v.1<(p.length:Int))) (cond (decide (0<=v.1/\v.1<(p.length:Int))) ((p[v.1.toNat]?).bind λe3=>cond (Nat.ble (v.2.length+[e3].length) aQ) (next (IntKind.i64.wrap (v.1+(1:Int)),v.2++[e3])) none) none) (x0 v.2)
def wC (k:Nat) (a0:Job):Option (List Int):=
 (rZ k a0).bind λr1=>cond (!r1) (some ([]:List Int)) ((jU k a0.model).bind λr2=>iter (λu5 n5=>lL k r2 u5 n5 (λy4=>some y4)) k (a0.at_,([]:List Int)))
def qH (k:Nat) (a0:Job):Option (Int):=
 (wC k a0).bind λr1=>cond ((r1.length:Int)==(0:Int)) (some (0:Int)) (cond (decide (0<=(0:Int)/\(0:Int)<(r1.length:Int))) ((r1[(0:Int).toNat]?).bind λe2=>some e2) none)
def tA (k:Nat) (a0:Job):Option (Job× Bool):=
 (tu k a0).bind λr1=>(rZ k a0).bind λr2=>cond (!r2) (some (r1,false)) ((tv k a0).bind λr3=>cond (r3) (some (r1,false)) ((idx a0.model.ar a0.at_).bind λe4=>(ny k a0.act e4).bind λr5=>(qH k a0).bind λr6=>some ((⟨r1.model,(IntKind.i64.wrap (a0.at_+(1:Int))),r5.1,(IntKind.i64.wrap (a0.iU+r6))⟩:Job),true)))
def wD (k:Nat) (a0:Job):Option (List Int):=
 (xU k a0).bind λr1=>cond (!r1) (some ([]:List Int)) ((jX k a0.model).bind λr2=>cond (decide (0<=a0.at_/\a0.at_<=(r2.length:Int))) (some (((r2).drop a0.at_.toNat).take (r2.length-a0.at_.toNat))) none)
def qI (k:Nat) (a0:Job):Option (Int):=
 (wD k a0).bind λr1=>cond ((r1.length:Int)==(0:Int)) (some (0:Int)) ((idx r1 (0:Int)).bind λe2=>some e2)
def Jn (k:Nat) (a0:Int) (a1:Int) (a2:Int):Option (Int):=
 some (if(if a2<a0 then a2 else a0)>a1 then(if a2<a0 then a2 else a0)else a1)
def xX (k:Nat) (a0:Int):Option (Int):=
 (Jn k a0 (-128:Int) (127:Int)).bind λr1=>some r1
def mY (k:Nat) (a0:Int):Option (Int):=
 (Jn k a0 (-2147483648:Int) (2147483647:Int)).bind λr1=>some r1
def tB (k:Nat) (a0:Int) (a1:Int):Option (Int):=
 (mY k a0).bind λr1=>(mY k a1).bind λr2=>(mY k (IntKind.i64.wrap (r1+r2))).bind λr3=>some r3
def qJ {ρ:Type} (k:Nat) (p:List Int× List Int× Int) (v:Int× Int) (next:(Int× Int)->Option ρ) (x0:Int->Option ρ):Option ρ:=
 cond (decide (v.2<p.2.2)) ((idx p.1 v.2).bind λe1=>(xX k e1).bind λr2=>(idx p.2.1 v.2).bind λe3=>(xX k e3).bind λr4=>(tB k v.1 (IntKind.i64.wrap (r2*r4))).bind λr5=>next (r5,IntKind.i64.wrap (v.2+(1:Int)))) (x0 v.1)
def Ct (k:Nat) (a0:List Int) (a1:List Int):Option (Int):=
 iter (λu7 n7=>qJ k (a0,a1,if(a1.length:Int)<(a0.length:Int)then(a1.length:Int)else(a0.length:Int)) u7 n7 (λy6=>some y6)) k ((0:Int),(0:Int))
def tC (k:Nat) (a0:Int) (a1:Int):Option (Int):=
 (mY k a0).bind λr1=>(mY k a1).bind λr2=>(mY k ((IntKind.i64.wrap ((IntKind.i64.wrap (r1*r2))+(1073741824:Int))).fdiv (2^(min (31:Int).toNat IntKind.i64.bits)))).bind λr3=>some r3
def oB (k:Nat) (a0:Int) (a1:Int):Option (Int):=
 cond (decide (a0<(0:Int))) (none) (cond (decide ((IntKind.i64.wrap ((2:Int)*a1))=0)) none (some (IntKind.i64.wrap ((IntKind.i64.wrap ((IntKind.i64.wrap ((2:Int)*a0))+a1)).tdiv (IntKind.i64.wrap ((2:Int)*a1))))))
def nz (k:Nat) (a0:Int) (a1:Int):Option (Int):=
 cond (decide (a0<(0:Int))) ((oB k (IntKind.i64.wrap (0-a0)) a1).bind λr1=>some (IntKind.i64.wrap (0-r1))) (cond (decide ((IntKind.i64.wrap ((2:Int)*a1))=0)) none (some (IntKind.i64.wrap ((IntKind.i64.wrap ((IntKind.i64.wrap ((2:Int)*a0))+a1)).tdiv (IntKind.i64.wrap ((2:Int)*a1))))))
def mx (k:Nat) (a0:Int) (a1:Int):Option (Int):=
 (mY k a0).bind λr1=>(Jn k a1 (0:Int) (31:Int)).bind λr2=>cond (decide (r2<0)) none ((nz k r1 (IntKind.i64.wrap ((1:Int)*2^(min r2.toNat IntKind.i64.bits)))).bind λr3=>some r3)
def tD (k:Nat) (a0:Int) (a1:Int) (a2:Int) (a3:Int):Option (Int):=
 (tC k a0 a1).bind λr1=>(mx k r1 a2).bind λr2=>(xX k a3).bind λr3=>(xX k (IntKind.i64.wrap (r2+r3))).bind λr4=>some r4
def fu (k:Nat) (a0:ay) (a1:List Int) (a2:Int):Option (Int):=
 cond (decide (0<=(IntKind.i64.wrap ((IntKind.i64.wrap (a2+(1:Int)))*(a1.length:Int)))/\(IntKind.i64.wrap ((IntKind.i64.wrap (a2+(1:Int)))*(a1.length:Int)))<=(a0.weights.length:Int))) (cond (decide (0<=(IntKind.i64.wrap (a2*(a1.length:Int)))/\(IntKind.i64.wrap (a2*(a1.length:Int)))<=((IntKind.i64.wrap ((IntKind.i64.wrap (a2+(1:Int)))*(a1.length:Int))).toNat:Int))) ((Ct k a1 ((a0.weights.take ((IntKind.i64.wrap ((IntKind.i64.wrap (a2+(1:Int)))*(a1.length:Int))).toNat)).drop ((IntKind.i64.wrap (a2*(a1.length:Int))).toNat))).bind λr1=>(idx a0.m8 a2).bind λe2=>(tB k r1 e2).bind λr3=>(tD k r3 a0.mult a0.shift a0.zero).bind λr4=>some r4) none) none
def iE (k:Nat) (a0:Shape) (a1:Int) (a2:Int) (a3:Int):Option (Int):=
 some (IntKind.i64.wrap ((IntKind.i64.wrap ((IntKind.i64.wrap ((IntKind.i64.wrap (a1*a0.w))+a2))*a0.c))+a3))
def dJ {ρ:Type} (k:Nat) (p:Int× Int× Int× Int× Int× Int× Int× Int× Int× Int× Int× Int× Int× Int× List Int× List Int× Int× Int× Int× List Int) (v:Int× List Int) (next:(Int× List Int)->Option ρ) (x2:(List Int)->Option ρ):Option ρ:=
 cond (decide (v.1<p.2.2.2.2.2.2.1)) ((iE k (⟨p.2.2.2.2.2.2.2.2.2.2.2.2.2.2.2.2.1,p.2.2.2.2.2.2.2.2.2.2.2.2.2.2.2.2.2.1,p.2.2.2.2.2.2.2.2.2.2.2.2.2.2.2.2.2.2.1⟩:Shape) (IntKind.i64.wrap ((IntKind.i64.wrap (p.1*p.2.2.2.2.2.2.2.2.2.2.1))+p.2.2.2.1)) (IntKind.i64.wrap ((IntKind.i64.wrap (p.2.1*p.2.2.2.2.2.2.2.2.2.2.1))+v.1)) (0:Int)).bind λr1=>cond (decide (p.2.2.1<(0:Int))) (cond (decide (0<=(IntKind.i64.wrap (r1+p.2.2.2.2.2.2.2.2.2.2.2.2.2.2.2.2.2.2.1))/\(IntKind.i64.wrap (r1+p.2.2.2.2.2.2.2.2.2.2.2.2.2.2.2.2.2.2.1))<=(p.2.2.2.2.2.2.2.2.2.2.2.2.2.2.2.2.2.2.2.length:Int))) (cond (decide (0<=r1/\r1<=((IntKind.i64.wrap (r1+p.2.2.2.2.2.2.2.2.2.2.2.2.2.2.2.2.2.2.1)).toNat:Int))) (cond (Nat.ble (v.2.length+((p.2.2.2.2.2.2.2.2.2.2.2.2.2.2.2.2.2.2.2.take ((IntKind.i64.wrap (r1+p.2.2.2.2.2.2.2.2.2.2.2.2.2.2.2.2.2.2.1)).toNat)).drop r1.toNat).length) aQ) (next (IntKind.i64.wrap (v.1+(1:Int)),v.2++((p.2.2.2.2.2.2.2.2.2.2.2.2.2.2.2.2.2.2.2.take ((IntKind.i64.wrap (r1+p.2.2.2.2.2.2.2.2.2.2.2.2.2.2.2.2.2.2.1)).toNat)).drop r1.toNat))) none) none) none) ((idx p.2.2.2.2.2.2.2.2.2.2.2.2.2.2.2.2.2.2.2 (IntKind.i64.wrap (r1+p.2.2.1))).bind λe2=>cond (Nat.ble (v.2.length+[e2].length) aQ) (next (IntKind.i64.wrap (v.1+(1:Int)),v.2++[e2])) none)) (x2 v.2)
def dK {ρ:Type} (k:Nat) (p:Int× Int× Int× Int× Int× Int× Int× Int× Int× Int× Int× List Int× List Int× Int× Int× Int× List Int) (v:Int× List Int) (next:(Int× List Int)->Option ρ) (x0:(List Int)->Option ρ):Option ρ:=
 cond (decide (v.1<p.2.2.2.1)) (iter (λu4 n4=>dJ k (p.1,p.2.1,p.2.2.1,v.1,p.2.2.2.1,v.1,p.2.2.2.2.2.2.1,p.2.2.2.2.1,p.2.2.2.2.2.1,p.2.2.2.2.2.2.1,p.2.2.2.2.2.2.2.1,p.2.2.2.2.2.2.2.2.1,p.2.2.2.2.2.2.2.2.2.1,p.2.2.2.2.2.2.2.2.2.2.1,p.2.2.2.2.2.2.2.2.2.2.2.1,p.2.2.2.2.2.2.2.2.2.2.2.2.1,p.2.2.2.2.2.2.2.2.2.2.2.2.2.1,p.2.2.2.2.2.2.2.2.2.2.2.2.2.2.1,p.2.2.2.2.2.2.2.2.2.2.2.2.2.2.2.1,p.2.2.2.2.2.2.2.2.2.2.2.2.2.2.2.2) u4 n4 (λy3=>next (IntKind.i64.wrap (v.1+(1:Int)),y3))) k ((0:Int),v.2)) (x0 v.2)
def cH (k:Nat) (a0:ay) (a1:ak) (a2:Int) (a3:Int) (a4:Int):Option (List Int):=
 iter (λu6 n6=>dK k (a2,a3,a4,a0.size,a0.kind,a0.out,a0.size,a0.step,a0.mult,a0.shift,a0.zero,a0.weights,a0.m8,a1.sh.h,a1.sh.w,a1.sh.c,a1.data) u6 n6 (λy5=>some y5)) k ((0:Int),([]:List Int))
def dV {ρ:Type} (k:Nat) (p:List Int) (v:Int× Int) (next:(Int× Int)->Option ρ) (x0:Int->Option ρ):Option ρ:=
 cond (decide (v.2<(p.length:Int))) ((idx p v.2).bind λe2=>next (if e2>v.1 then e2 else v.1,IntKind.i64.wrap (v.2+(1:Int)))) (x0 v.1)
def ff (k:Nat) (a0:List Int):Option (Int):=
 cond (decide ((a0.length:Int)<(1:Int))) (none) ((idx a0 (0:Int)).bind λe1=>iter (λu4 n4=>dV k a0 u4 n4 (λy3=>some y3)) k (e1,(1:Int)))
def iF {ρ:Type} (k:Nat) (p:Int× Int× Int× Int× Int× Int× Int× Int× List Int× List Int× List Int) (v:Int× Int) (next:(Int× Int)->Option ρ) (x1:Int->Option ρ):Option ρ:=
 cond (decide (v.2<p.1)) (cond (decide (0<=v.2/\v.2<(p.2.2.2.2.2.2.2.2.2.2.length:Int))) ((p.2.2.2.2.2.2.2.2.2.2[v.2.toNat]?).bind λe7=>next (IntKind.i64.wrap (v.1+e7),IntKind.i64.wrap (v.2+(1:Int)))) none) (x1 v.1)
def my (k:Nat) (a0:ay) (a1:ak) (a2:Int) (a3:Int) (a4:Int):Option (Int):=
 cond (a0.kind==(0:Int)) ((fu k a0 a1.data a4).bind λr1=>some r1) (cond (a0.kind==(1:Int)) ((cH k a0 a1 a2 a3 (-1:Int)).bind λr2=>(fu k a0 r2 a4).bind λr3=>some r3) (cond (a0.kind==(2:Int)) ((cH k a0 a1 a2 a3 a4).bind λr4=>(ff k r4).bind λr5=>some r5) (cond (a0.kind==(3:Int)) ((cH k a0 a1 a2 a3 a4).bind λr6=>iter (λu10 n10=>iF k ((r6.length:Int),a0.kind,a0.out,a0.size,a0.step,a0.mult,a0.shift,a0.zero,a0.weights,a0.m8,r6) u10 n10 (λy8=>(nz k y8 (IntKind.i64.wrap (a0.size*a0.size))).bind λr9=>some r9)) k ((0:Int),(0:Int))) (cond (a0.kind==(4:Int)) ((iE k a1.sh a2 a3 a4).bind λr11=>(idx a1.data r11).bind λe12=>some (if a0.zero>e12 then a0.zero else e12)) ((idx a1.data a4).bind λe13=>some e13)))))
def kK {ρ:Type} (k:Nat) (p:Int× Int× Int× Int× Int× Int× Int× Int× Int× Int× List Int× Int× Int× Int× Int× Int× Int× Int× List Int× List Int× Int× Int× Int× Int× Int× Int× Int× Int× Int) (v:Int× List Int) (next:(Int× List Int)->Option ρ) (x4:(List Int)->Option ρ):Option ρ:=
 cond (decide (v.1<p.2.2.2.2.2.2.1)) ((my k (⟨p.2.2.2.2.2.2.2.2.2.2.2.1,p.2.2.2.2.2.2.2.2.2.2.2.2.1,p.2.2.2.2.2.2.2.2.2.2.2.2.2.1,p.2.2.2.2.2.2.2.2.2.2.2.2.2.2.1,p.2.2.2.2.2.2.2.2.2.2.2.2.2.2.2.1,p.2.2.2.2.2.2.2.2.2.2.2.2.2.2.2.2.1,p.2.2.2.2.2.2.2.2.2.2.2.2.2.2.2.2.2.1,p.2.2.2.2.2.2.2.2.2.2.2.2.2.2.2.2.2.2.1,p.2.2.2.2.2.2.2.2.2.2.2.2.2.2.2.2.2.2.2.1⟩:ay) (⟨(⟨p.2.2.2.2.2.2.2.1,p.2.2.2.2.2.2.2.2.1,p.2.2.2.2.2.2.2.2.2.1⟩:Shape),p.2.2.2.2.2.2.2.2.2.2.1⟩:ak) p.1 p.2.1 v.1).bind λr3=>cond (Nat.ble (v.2.length+[r3].length) aQ) (next (IntKind.i64.wrap (v.1+(1:Int)),v.2++[r3])) none) (x4 v.2)
def kL {ρ:Type} (k:Nat) (p:Int× Int× Int× Int× Int× Int× Int× List Int× Int× Int× Int× Int× Int× Int× Int× List Int× List Int× Int× Int× Int× Int× Int× Int× Int× Int× Int) (v:Int× List Int) (next:(Int× List Int)->Option ρ) (x2:(List Int)->Option ρ):Option ρ:=
 cond (decide (v.1<p.2.2.2.1)) (iter (λu5 n5=>kK k (p.1,v.1,p.2.1,p.2.2.1,p.2.2.2.1,v.1,p.2.2.2.2.2.2.2.2.2.2.2.2.2.2.2.2.2.2.2.2.2.2.1,p.2.2.2.2.1,p.2.2.2.2.2.1,p.2.2.2.2.2.2.1,p.2.2.2.2.2.2.2.1,p.2.2.2.2.2.2.2.2.1,p.2.2.2.2.2.2.2.2.2.1,p.2.2.2.2.2.2.2.2.2.2.1,p.2.2.2.2.2.2.2.2.2.2.2.1,p.2.2.2.2.2.2.2.2.2.2.2.2.1,p.2.2.2.2.2.2.2.2.2.2.2.2.2.1,p.2.2.2.2.2.2.2.2.2.2.2.2.2.2.1,p.2.2.2.2.2.2.2.2.2.2.2.2.2.2.2.1,p.2.2.2.2.2.2.2.2.2.2.2.2.2.2.2.2.1,p.2.2.2.2.2.2.2.2.2.2.2.2.2.2.2.2.2.1,p.2.2.2.2.2.2.2.2.2.2.2.2.2.2.2.2.2.2.1,p.2.2.2.2.2.2.2.2.2.2.2.2.2.2.2.2.2.2.2.1,p.2.2.2.2.2.2.2.2.2.2.2.2.2.2.2.2.2.2.2.2.1,p.2.2.2.2.2.2.2.2.2.2.2.2.2.2.2.2.2.2.2.2.2.1,p.2.2.2.2.2.2.2.2.2.2.2.2.2.2.2.2.2.2.2.2.2.2.1,p.2.2.2.2.2.2.2.2.2.2.2.2.2.2.2.2.2.2.2.2.2.2.2.1,p.2.2.2.2.2.2.2.2.2.2.2.2.2.2.2.2.2.2.2.2.2.2.2.2.1,p.2.2.2.2.2.2.2.2.2.2.2.2.2.2.2.2.2.2.2.2.2.2.2.2.2) u5 n5 (λy4=>next (IntKind.i64.wrap (v.1+(1:Int)),y4))) k ((0:Int),v.2)) (x2 v.2)
def kM {ρ:Type} (k:Nat) (p:Int× Int× Int× Int× List Int× Int× Int× Int× Int× Int× Int× Int× List Int× List Int× Int× Int× Int× Int× Int× Int× Int× Int× Int) (v:Int× List Int) (next:(Int× List Int)->Option ρ) (x0:(List Int)->Option ρ):Option ρ:=
 cond (decide (v.1<p.1)) (iter (λu7 n7=>kL k (v.1,p.1,v.1,p.2.2.2.2.2.2.2.2.2.2.2.2.2.2.2.2.2.2.1,p.2.1,p.2.2.1,p.2.2.2.1,p.2.2.2.2.1,p.2.2.2.2.2.1,p.2.2.2.2.2.2.1,p.2.2.2.2.2.2.2.1,p.2.2.2.2.2.2.2.2.1,p.2.2.2.2.2.2.2.2.2.1,p.2.2.2.2.2.2.2.2.2.2.1,p.2.2.2.2.2.2.2.2.2.2.2.1,p.2.2.2.2.2.2.2.2.2.2.2.2.1,p.2.2.2.2.2.2.2.2.2.2.2.2.2.1,p.2.2.2.2.2.2.2.2.2.2.2.2.2.2.1,p.2.2.2.2.2.2.2.2.2.2.2.2.2.2.2.1,p.2.2.2.2.2.2.2.2.2.2.2.2.2.2.2.2.1,p.2.2.2.2.2.2.2.2.2.2.2.2.2.2.2.2.2.1,p.2.2.2.2.2.2.2.2.2.2.2.2.2.2.2.2.2.2.1,p.2.2.2.2.2.2.2.2.2.2.2.2.2.2.2.2.2.2.2.1,p.2.2.2.2.2.2.2.2.2.2.2.2.2.2.2.2.2.2.2.2.1,p.2.2.2.2.2.2.2.2.2.2.2.2.2.2.2.2.2.2.2.2.2.1,p.2.2.2.2.2.2.2.2.2.2.2.2.2.2.2.2.2.2.2.2.2.2) u7 n7 (λy6=>next (IntKind.i64.wrap (v.1+(1:Int)),y6))) k ((0:Int),v.2)) (x0 v.2)
def lj (k:Nat) (a0:ak) (a1:ay):Option (ak× Bool):=
 (lh k a0.sh a1).bind λr1=>cond (!r1.2) (some ((⟨(⟨(0:Int),(0:Int),(0:Int)⟩:Shape),([]:List Int)⟩:ak),false)) ((lf k a0).bind λr2=>cond (!r2) (some ((⟨(⟨(0:Int),(0:Int),(0:Int)⟩:Shape),([]:List Int)⟩:ak),false)) (iter (λu9 n9=>kM k (r1.1.h,a0.sh.h,a0.sh.w,a0.sh.c,a0.data,a1.kind,a1.out,a1.size,a1.step,a1.mult,a1.shift,a1.zero,a1.weights,a1.m8,(0:Int),(0:Int),(0:Int),r1.1.h,r1.1.w,r1.1.c,r1.1.h,r1.1.w,r1.1.c) u9 n9 (λy8=>some ((⟨r1.1,y8⟩:ak),true))) k ((0:Int),([]:List Int))))
end
end
set_option maxRecDepth 100000
set_option maxHeartbeats 4000000
section
noncomputable section
def gG {ρ:Type} (k:Nat) (p:Int× Int× Int× List ay× Int× Int× Int) (v:Int× Int× Int× Int× List Int) (next:(Int× Int× Int× Int× List Int)->Option ρ) (x0:(Int× Int× Int× List Int)->Option ρ):Option ρ:=
 cond (decide (v.1<(p.2.2.2.1.length:Int))) ((idx p.2.2.2.1 v.1).bind λe4=>(ny k (⟨(⟨v.2.1,v.2.2.1,v.2.2.2.1⟩:Shape),v.2.2.2.2⟩:ak) e4).bind λr5=>next (IntKind.i64.wrap (v.1+(1:Int)),r5.1.sh.h,r5.1.sh.w,r5.1.sh.c,r5.1.data)) (x0 (v.2.1,v.2.2.1,v.2.2.2.1,v.2.2.2.2))
def oC (k:Nat) (a0:Model) (a1:ak):Option (ak× Bool):=
 (ns k a0).bind λr1=>cond (!r1) (some ((⟨(⟨(0:Int),(0:Int),(0:Int)⟩:Shape),([]:List Int)⟩:ak),false)) ((fW k a1).bind λr2=>cond (!r2) (some ((⟨(⟨(0:Int),(0:Int),(0:Int)⟩:Shape),([]:List Int)⟩:ak),false)) (cond (!(cond (a1.sh.h==a0.inp.h) (cond (a1.sh.w==a0.inp.w) (cond (a1.sh.c==a0.inp.c) (true) false) false) false)) (some ((⟨(⟨(0:Int),(0:Int),(0:Int)⟩:Shape),([]:List Int)⟩:ak),false)) ((lJ k a1).bind λr3=>iter (λu7 n7=>gG k (a0.inp.h,a0.inp.w,a0.inp.c,a0.ar,(0:Int),(0:Int),(0:Int)) u7 n7 (λy6=>some ((⟨(⟨y6.1,y6.2.1,y6.2.2.1⟩:Shape),y6.2.2.2⟩:ak),true))) k ((0:Int),r3.sh.h,r3.sh.w,r3.sh.c,r3.data))))
def gH {ρ:Type} (k:Nat) (p:List ay× Int× Int× Int× Int) (v:Int× Int× Int× Int× List Int) (next:(Int× Int× Int× Int× List Int)->Option ρ) (x0:(Int× Int× Int× List Int)->Option ρ):Option ρ:=
 cond (decide (v.1<p.2.1)) ((idx p.1 v.1).bind λe5=>(lj k (⟨(⟨v.2.1,v.2.2.1,v.2.2.2.1⟩:Shape),v.2.2.2.2⟩:ak) e5).bind λr6=>next (IntKind.i64.wrap (v.1+(1:Int)),r6.1.sh.h,r6.1.sh.w,r6.1.sh.c,r6.1.data)) (x0 (v.2.1,v.2.2.1,v.2.2.2.1,v.2.2.2.2))
def oD (k:Nat) (a0:Model) (a1:ak):Option (ak× Bool):=
 (jV k a0).bind λr1=>cond (!r1) (some ((⟨(⟨(0:Int),(0:Int),(0:Int)⟩:Shape),([]:List Int)⟩:ak),false)) ((lf k a1).bind λr2=>cond (!r2) (some ((⟨(⟨(0:Int),(0:Int),(0:Int)⟩:Shape),([]:List Int)⟩:ak),false)) (cond (!(cond (a1.sh.h==a0.inp.h) (cond (a1.sh.w==a0.inp.w) (cond (a1.sh.c==a0.inp.c) (true) false) false) false)) (some ((⟨(⟨(0:Int),(0:Int),(0:Int)⟩:Shape),([]:List Int)⟩:ak),false)) (cond (decide ((0:Int)<(a0.ar.length:Int))) ((idx a0.ar (0:Int)).bind λe3=>(lj k a1 e3).bind λr4=>iter (λu8 n8=>gH k (a0.ar,(a0.ar.length:Int),(0:Int),(0:Int),(0:Int)) u8 n8 (λy7=>some ((⟨(⟨y7.1,y7.2.1,y7.2.2.1⟩:Shape),y7.2.2.2⟩:ak),true))) k ((1:Int),r4.1.sh.h,r4.1.sh.w,r4.1.sh.c,r4.1.data)) (none))))
end
end
set_option maxRecDepth 100000
section
noncomputable section
def oE (k:Nat) (a0:Int):Option (Bool):=
 (ry k a0 (-1099511627776:Int) (1099511627775:Int)).bind λr1=>some r1
def fZ {ρ:Type} (k:Nat) (p:List Int× Int) (v:Int× Int) (next:(Int× Int)->Option ρ) (x0:Unit->Option ρ) (xret:(Int× Int)->Option ρ):Option ρ:=
 cond (decide (v.2<(6:Int))) (cond (decide (p.2<(0:Int))) (xret ((0:Int),(-1:Int))) (cond (decide (p.2>=(IntKind.i64.wrap ((p.1.length:Int)-v.2)))) (xret ((0:Int),(-1:Int))) ((idx p.1 (IntKind.i64.wrap (p.2+v.2))).bind λe1=>cond (decide ((IntKind.u64.wrap (IntKind.i64.wrap ((7:Int)*v.2)))<0)) none (cond (decide ((IntKind.i64.wrap (e1))<(128:Int))) (cond ((IntKind.i64.wrap (e1))==(0:Int)) (cond (decide (v.2>(0:Int))) (xret ((0:Int),(-1:Int))) (cond (decide ((IntKind.i64.wrap (v.1+(IntKind.i64.wrap (((IntKind.i64.wrap (e1)).tmod (128:Int))*2^(min (IntKind.u64.wrap (IntKind.i64.wrap ((7:Int)*v.2))).toNat IntKind.i64.bits)))))>(2199023255551:Int))) (xret ((0:Int),(-1:Int))) (cond (((IntKind.i64.wrap (v.1+(IntKind.i64.wrap (((IntKind.i64.wrap (e1)).tmod (128:Int))*2^(min (IntKind.u64.wrap (IntKind.i64.wrap ((7:Int)*v.2))).toNat IntKind.i64.bits))))).tmod (2:Int))==(1:Int)) (xret (IntKind.i64.wrap ((IntKind.i64.wrap (0-(IntKind.i64.wrap ((IntKind.i64.wrap (v.1+(IntKind.i64.wrap (((IntKind.i64.wrap (e1)).tmod (128:Int))*2^(min (IntKind.u64.wrap (IntKind.i64.wrap ((7:Int)*v.2))).toNat IntKind.i64.bits)))))+(1:Int))))).tdiv (2:Int)),IntKind.i64.wrap ((IntKind.i64.wrap (p.2+v.2))+(1:Int)))) (xret (IntKind.i64.wrap ((IntKind.i64.wrap (v.1+(IntKind.i64.wrap (((IntKind.i64.wrap (e1)).tmod (128:Int))*2^(min (IntKind.u64.wrap (IntKind.i64.wrap ((7:Int)*v.2))).toNat IntKind.i64.bits))))).tdiv (2:Int)),IntKind.i64.wrap ((IntKind.i64.wrap (p.2+v.2))+(1:Int))))))) (cond (decide ((IntKind.i64.wrap (v.1+(IntKind.i64.wrap (((IntKind.i64.wrap (e1)).tmod (128:Int))*2^(min (IntKind.u64.wrap (IntKind.i64.wrap ((7:Int)*v.2))).toNat IntKind.i64.bits)))))>(2199023255551:Int))) (xret ((0:Int),(-1:Int))) (cond (((IntKind.i64.wrap (v.1+(IntKind.i64.wrap (((IntKind.i64.wrap (e1)).tmod (128:Int))*2^(min (IntKind.u64.wrap (IntKind.i64.wrap ((7:Int)*v.2))).toNat IntKind.i64.bits))))).tmod (2:Int))==(1:Int)) (xret (IntKind.i64.wrap ((IntKind.i64.wrap (0-(IntKind.i64.wrap ((IntKind.i64.wrap (v.1+(IntKind.i64.wrap (((IntKind.i64.wrap (e1)).tmod (128:Int))*2^(min (IntKind.u64.wrap (IntKind.i64.wrap ((7:Int)*v.2))).toNat IntKind.i64.bits)))))+(1:Int))))).tdiv (2:Int)),IntKind.i64.wrap ((IntKind.i64.wrap (p.2+v.2))+(1:Int)))) (xret (IntKind.i64.wrap ((IntKind.i64.wrap (v.1+(IntKind.i64.wrap (((IntKind.i64.wrap (e1)).tmod (128:Int))*2^(min (IntKind.u64.wrap (IntKind.i64.wrap ((7:Int)*v.2))).toNat IntKind.i64.bits))))).tdiv (2:Int)),IntKind.i64.wrap ((IntKind.i64.wrap (p.2+v.2))+(1:Int))))))) (next (IntKind.i64.wrap (v.1+(IntKind.i64.wrap (((IntKind.i64.wrap (e1)).tmod (128:Int))*2^(min (IntKind.u64.wrap (IntKind.i64.wrap ((7:Int)*v.2))).toNat IntKind.i64.bits)))),IntKind.i64.wrap (v.2+(1:Int)))))))) (x0 ())
def qK (k:Nat) (a0:List Int) (a1:Int):Option (Int× Int):=
 iter (λu4 n4=>fZ k (a0,a1) u4 n4 (λy2=>some ((0:Int),(-1:Int))) (λy3=>some (y3.1,y3.2))) k ((0:Int),(0:Int))
def cC (k:Nat) (a0_0:List Int) (a0_1:Int) (a0_2:Bool):Option (Int× Int× Bool):=
 cond (a0_2) (cond (decide (a0_0=a0_0)) (some ((0:Int),a0_1,a0_2)) none) ((qK k a0_0 a0_1).bind λr1=>cond (decide (r1.2<(0:Int))) (cond (decide (a0_0=a0_0)) (some ((0:Int),a0_1,true)) none) (cond (decide (a0_0=a0_0)) (some (r1.1,r1.2,a0_2)) none))
def iG {ρ:Type} (k:Nat) (p:Int× List Int× Int) (v:Int× Int) (next:(Int× Int)->Option ρ) (x0:Unit->Option ρ) (xret:(Int× Int)->Option ρ):Option ρ:=
 cond (decide (v.2<p.2.2)) ((idx p.2.1 v.2).bind λe2=>cond (decide ((IntKind.i64.wrap ((7:Int)*v.2))<0)) none (cond (decide (e2>=(128:Int))) (next (IntKind.i64.wrap (((BitVec.ofInt IntKind.i64.bits v.1||| BitVec.ofInt IntKind.i64.bits (IntKind.i64.wrap ((IntKind.i64.wrap (IntKind.u8.wrap (((BitVec.ofInt IntKind.u8.bits e2&&& BitVec.ofInt IntKind.u8.bits (127:Int)).toNat:Int))))*2^(min (IntKind.i64.wrap ((7:Int)*v.2)).toNat IntKind.i64.bits)))).toNat:Int)),IntKind.i64.wrap (v.2+(1:Int)))) (cond (((IntKind.i64.wrap (((BitVec.ofInt IntKind.i64.bits v.1||| BitVec.ofInt IntKind.i64.bits (IntKind.i64.wrap ((IntKind.i64.wrap (IntKind.u8.wrap (((BitVec.ofInt IntKind.u8.bits e2&&& BitVec.ofInt IntKind.u8.bits (127:Int)).toNat:Int))))*2^(min (IntKind.i64.wrap ((7:Int)*v.2)).toNat IntKind.i64.bits)))).toNat:Int))).tmod (2:Int))==(1:Int)) (cond (decide (v.2>(0:Int))) (cond (e2==(0:Int)) (x0 ()) ((oE k (IntKind.i64.wrap ((IntKind.i64.wrap (0-(IntKind.i64.wrap ((IntKind.i64.wrap (((BitVec.ofInt IntKind.i64.bits v.1||| BitVec.ofInt IntKind.i64.bits (IntKind.i64.wrap ((IntKind.i64.wrap (IntKind.u8.wrap (((BitVec.ofInt IntKind.u8.bits e2&&& BitVec.ofInt IntKind.u8.bits (127:Int)).toNat:Int))))*2^(min (IntKind.i64.wrap ((7:Int)*v.2)).toNat IntKind.i64.bits)))).toNat:Int))).tdiv (2:Int)))))-(1:Int)))).bind λr3=>cond (!r3) (x0 ()) (xret (IntKind.i64.wrap ((IntKind.i64.wrap (0-(IntKind.i64.wrap ((IntKind.i64.wrap (((BitVec.ofInt IntKind.i64.bits v.1||| BitVec.ofInt IntKind.i64.bits (IntKind.i64.wrap ((IntKind.i64.wrap (IntKind.u8.wrap (((BitVec.ofInt IntKind.u8.bits e2&&& BitVec.ofInt IntKind.u8.bits (127:Int)).toNat:Int))))*2^(min (IntKind.i64.wrap ((7:Int)*v.2)).toNat IntKind.i64.bits)))).toNat:Int))).tdiv (2:Int)))))-(1:Int)),IntKind.i64.wrap ((IntKind.i64.wrap (p.1+v.2))+(1:Int)))))) ((oE k (IntKind.i64.wrap ((IntKind.i64.wrap (0-(IntKind.i64.wrap ((IntKind.i64.wrap (((BitVec.ofInt IntKind.i64.bits v.1||| BitVec.ofInt IntKind.i64.bits (IntKind.i64.wrap ((IntKind.i64.wrap (IntKind.u8.wrap (((BitVec.ofInt IntKind.u8.bits e2&&& BitVec.ofInt IntKind.u8.bits (127:Int)).toNat:Int))))*2^(min (IntKind.i64.wrap ((7:Int)*v.2)).toNat IntKind.i64.bits)))).toNat:Int))).tdiv (2:Int)))))-(1:Int)))).bind λr4=>cond (!r4) (x0 ()) (xret (IntKind.i64.wrap ((IntKind.i64.wrap (0-(IntKind.i64.wrap ((IntKind.i64.wrap (((BitVec.ofInt IntKind.i64.bits v.1||| BitVec.ofInt IntKind.i64.bits (IntKind.i64.wrap ((IntKind.i64.wrap (IntKind.u8.wrap (((BitVec.ofInt IntKind.u8.bits e2&&& BitVec.ofInt IntKind.u8.bits (127:Int)).toNat:Int))))*2^(min (IntKind.i64.wrap ((7:Int)*v.2)).toNat IntKind.i64.bits)))).toNat:Int))).tdiv (2:Int)))))-(1:Int)),IntKind.i64.wrap ((IntKind.i64.wrap (p.1+v.2))+(1:Int)))))) (cond (decide (v.2>(0:Int))) (cond (e2==(0:Int)) (x0 ()) ((oE k (IntKind.i64.wrap ((IntKind.i64.wrap (((BitVec.ofInt IntKind.i64.bits v.1||| BitVec.ofInt IntKind.i64.bits (IntKind.i64.wrap ((IntKind.i64.wrap (IntKind.u8.wrap (((BitVec.ofInt IntKind.u8.bits e2&&& BitVec.ofInt IntKind.u8.bits (127:Int)).toNat:Int))))*2^(min (IntKind.i64.wrap ((7:Int)*v.2)).toNat IntKind.i64.bits)))).toNat:Int))).tdiv (2:Int)))).bind λr5=>cond (!r5) (x0 ()) (xret (IntKind.i64.wrap ((IntKind.i64.wrap (((BitVec.ofInt IntKind.i64.bits v.1||| BitVec.ofInt IntKind.i64.bits (IntKind.i64.wrap ((IntKind.i64.wrap (IntKind.u8.wrap (((BitVec.ofInt IntKind.u8.bits e2&&& BitVec.ofInt IntKind.u8.bits (127:Int)).toNat:Int))))*2^(min (IntKind.i64.wrap ((7:Int)*v.2)).toNat IntKind.i64.bits)))).toNat:Int))).tdiv (2:Int)),IntKind.i64.wrap ((IntKind.i64.wrap (p.1+v.2))+(1:Int)))))) ((oE k (IntKind.i64.wrap ((IntKind.i64.wrap (((BitVec.ofInt IntKind.i64.bits v.1||| BitVec.ofInt IntKind.i64.bits (IntKind.i64.wrap ((IntKind.i64.wrap (IntKind.u8.wrap (((BitVec.ofInt IntKind.u8.bits e2&&& BitVec.ofInt IntKind.u8.bits (127:Int)).toNat:Int))))*2^(min (IntKind.i64.wrap ((7:Int)*v.2)).toNat IntKind.i64.bits)))).toNat:Int))).tdiv (2:Int)))).bind λr6=>cond (!r6) (x0 ()) (xret (IntKind.i64.wrap ((IntKind.i64.wrap (((BitVec.ofInt IntKind.i64.bits v.1||| BitVec.ofInt IntKind.i64.bits (IntKind.i64.wrap ((IntKind.i64.wrap (IntKind.u8.wrap (((BitVec.ofInt IntKind.u8.bits e2&&& BitVec.ofInt IntKind.u8.bits (127:Int)).toNat:Int))))*2^(min (IntKind.i64.wrap ((7:Int)*v.2)).toNat IntKind.i64.bits)))).toNat:Int))).tdiv (2:Int)),IntKind.i64.wrap ((IntKind.i64.wrap (p.1+v.2))+(1:Int))))))))) (x0 ())
def qL (k:Nat) (a0:List Int) (a1:Int):Option (Int× Int):=
 (ry k a1 (0:Int) (IntKind.i64.wrap ((a0.length:Int)-(1:Int)))).bind λr1=>cond (!r1) (some ((0:Int),(-1:Int))) (cond (decide (0<=(if(IntKind.i64.wrap (a1+(6:Int)))<(a0.length:Int)then(IntKind.i64.wrap (a1+(6:Int)))else(a0.length:Int))/\(if(IntKind.i64.wrap (a1+(6:Int)))<(a0.length:Int)then(IntKind.i64.wrap (a1+(6:Int)))else(a0.length:Int))<=(a0.length:Int))) (cond (decide (0<=a1/\a1<=((if(IntKind.i64.wrap (a1+(6:Int)))<(a0.length:Int)then(IntKind.i64.wrap (a1+(6:Int)))else(a0.length:Int)).toNat:Int))) (iter (λu9 n9=>iG k (a1,(a0.take ((if(IntKind.i64.wrap (a1+(6:Int)))<(a0.length:Int)then(IntKind.i64.wrap (a1+(6:Int)))else(a0.length:Int)).toNat)).drop a1.toNat,(((a0.take ((if(IntKind.i64.wrap (a1+(6:Int)))<(a0.length:Int)then(IntKind.i64.wrap (a1+(6:Int)))else(a0.length:Int)).toNat)).drop a1.toNat).length:Int)) u9 n9 (λy7=>some ((0:Int),(-1:Int))) (λy8=>some (y8.1,y8.2))) k ((0:Int),(0:Int))) none) none)
def aD (k:Nat) (a0:Reader):Option (Int× Int× Bool):=
 cond (a0.bad) (cond (decide (a0.b=a0.b)) (some ((0:Int),a0.at_,a0.bad)) none) ((qL k a0.b a0.at_).bind λr1=>cond (decide (r1.2<(0:Int))) (cond (decide (a0.b=a0.b)) (some ((0:Int),a0.at_,true)) none) (cond (decide (a0.b=a0.b)) (some (r1.1,r1.2,a0.bad)) none))
def dr (k:Nat) (a0:Reader) (a1:Int):Option (Int× Int× Bool):=
 (aD k a0).bind λr1=>(ry k r1.1 (0:Int) a1).bind λr2=>cond (!r2) (cond (decide (a0.b=a0.b)) (some ((0:Int),r1.2.1,true)) none) (cond (decide (a0.b=a0.b)) (some (r1.1,r1.2.1,r1.2.2)) none)
def er (k:Nat) (a0:Reader):Option (Shape× Int× Bool):=
 (aD k a0).bind λr1=>(aD k (⟨a0.b,r1.2.1,r1.2.2⟩:Reader)).bind λr2=>(aD k (⟨a0.b,r2.2.1,r2.2.2⟩:Reader)).bind λr3=>cond (decide (a0.b=a0.b)) (some ((⟨r1.1,r2.1,r3.1⟩:Shape),r3.2.1,r3.2.2)) none
def bR {ρ:Type} (k:Nat) (p:List Int) (v:Int× Int× Bool× List Int) (next:(Int× Int× Bool× List Int)->Option ρ) (x0:(List Int× Int× Bool)->Option ρ):Option ρ:=
 cond (decide (v.1>(0:Int))) (cond (!v.2.2.1) ((aD k (⟨p,v.2.1,v.2.2.1⟩:Reader)).bind λr2=>cond (Nat.ble (v.2.2.2.length+[r2.1].length) aQ) (next (IntKind.i64.wrap (v.1-(1:Int)),r2.2.1,r2.2.2,v.2.2.2++[r2.1])) none) (x0 (v.2.2.2,v.2.1,v.2.2.1))) (x0 (v.2.2.2,v.2.1,v.2.2.1))
def dD (k:Nat) (a0:Reader) (a1:Int):Option (List Int× Int× Bool):=
 (dr k a0 a1).bind λr1=>iter (λu4 n4=>bR k a0.b u4 n4 (λy3=>cond (decide (a0.b=a0.b)) (some (y3.1,y3.2.1,y3.2.2)) none)) k (r1.1,r1.2.1,r1.2.2,([]:List Int))
def nA {ρ:Type} (k:Nat) (p:List Int) (v:Int× Int) (next:(Int× Int)->Option ρ) (x0:Int->Option ρ):Option ρ:=
 cond (decide (v.2<(p.length:Int))) ((idx p v.2).bind λe1=>next ((IntKind.i64.wrap ((IntKind.i64.wrap ((IntKind.i64.wrap ((257:Int)*v.1))+(IntKind.i64.wrap (e1))))+(1:Int))).tmod (1000003:Int),IntKind.i64.wrap (v.2+(1:Int)))) (x0 v.1)
def Cu (k:Nat) (a0:List Int):Option (Int):=
 iter (λu3 n3=>nA k a0 u3 n3 (λy2=>some y2)) k ((1:Int),(0:Int))
def nB {ρ:Type} (k:Nat) (p:List Int× Int) (v:Int× Int) (next:(Int× Int)->Option ρ) (x0:Int->Option ρ):Option ρ:=
 cond (decide (v.2<p.2)) ((idx p.1 v.2).bind λe1=>next ((IntKind.i64.wrap ((IntKind.i64.wrap ((IntKind.i64.wrap (v.1*(257:Int)))+(IntKind.i64.wrap (e1))))+(1:Int))).tmod (1000003:Int),IntKind.i64.wrap (v.2+(1:Int)))) (x0 v.1)
def xY (k:Nat) (a0:List Int):Option (Int):=
 iter (λu3 n3=>nB k (a0,(a0.length:Int)) u3 n3 (λy2=>some y2)) k ((1:Int),(0:Int))
def iH (k:Nat) (a0:List Int) (a1:List Int):Option (Bool):=
 cond (decide ((a0.length:Int)>=(a1.length:Int))) (cond (decide (0<=(a1.length:Int)/\(a1.length:Int)<=(a0.length:Int))) ((ov k ((a0.take ((a1.length:Int).toNat)).drop 0) a1).bind λr1=>some r1) none) (some false)
end
end
set_option maxRecDepth 100000
section
noncomputable section
def jZ {ρ:Type} (k:Nat) (p:Int× Int× Int× List Task× Int× Int× Int× Int× Int× Int× Int× Int× Int× Int× Int× Int× Int× Int× Int× Int× Int× Int) (v:Int× List Task) (next:(Int× List Task)->Option ρ) (x0:(List Task)->Option ρ):Option ρ:=
 cond (decide (v.1<(p.2.2.2.1.length:Int))) ((idx p.2.2.2.1 v.1).bind λe1=>(jO k e1.av).bind λr2=>cond (Nat.ble (v.2.length+1) aQ) (next (IntKind.i64.wrap (v.1+(1:Int)),v.2++[(⟨e1.id,r2,e1.at_,e1.due,e1.born⟩:Task)])) none) (x0 v.2)
def lM (k:Nat) (a0:aj):Option (aj):=
 iter (λu4 n4=>jZ k (a0.now,a0.ai,a0.age,a0.tasks,a0.run,a0.left,a0.turns,a0.next,(0:Int),(0:Int),(0:Int),(0:Int),(0:Int),(0:Int),(0:Int),a0.now,a0.ai,a0.age,a0.run,a0.left,a0.turns,a0.next) u4 n4 (λy3=>some (⟨a0.now,a0.ai,a0.age,y3,a0.run,a0.left,a0.turns,a0.next⟩:aj))) k ((0:Int),([]:List Task))
def j3 (k:Nat) (a0:Int):Option (Bool):=
 (b9 k a0 (0:Int) (1000000:Int)).bind λr1=>some r1
def oF {ρ:Type} (k:Nat) (p:Int× List Int× Int× Int× Int) (v:Int) (next:Int->Option ρ) (x0:Unit->Option ρ) (xret:Bool->Option ρ):Option ρ:=
 cond (decide (v<(p.2.1.length:Int))) ((idx p.2.1 v).bind λe6=>(b9 k e6 (1:Int) (1000:Int)).bind λr7=>cond (!r7) (xret false) (next (IntKind.i64.wrap (v+(1:Int))))) (x0 ())
def tE (k:Nat) (a0:Task):Option (Bool):=
 (b9 k a0.id (1:Int) (1000000:Int)).bind λr1=>cond (!r1) (some false) ((b9 k (a0.av.length:Int) (1:Int) (6:Int)).bind λr2=>cond (!r2) (some false) ((b9 k a0.at_ (0:Int) (IntKind.i64.wrap ((a0.av.length:Int)-(1:Int)))).bind λr3=>cond (!r3) (some false) ((j3 k a0.due).bind λr4=>cond (!r4) (some false) ((j3 k a0.born).bind λr5=>cond (!r5) (some false) (iter (λu10 n10=>oF k (a0.id,a0.av,a0.at_,a0.due,a0.born) u10 n10 (λy8=>some true) (λy9=>some y9)) k (0:Int))))))
def qM {ρ:Type} (k:Nat) (p:Int× Int× Int× Int× List Task× Int× Int× Int× Int) (v:Int) (next:Int->Option ρ) (x0:Unit->Option ρ) (xret:Int->Option ρ):Option ρ:=
 cond (decide (v<(p.2.2.2.2.1.length:Int))) ((idx p.2.2.2.2.1 v).bind λe1=>cond (e1.id==p.1) (xret v) (next (IntKind.i64.wrap (v+(1:Int))))) (x0 ())
def kB (k:Nat) (a0:aj) (a1:Int):Option (Int):=
 iter (λu4 n4=>qM k (a1,a0.now,a0.ai,a0.age,a0.tasks,a0.run,a0.left,a0.turns,a0.next) u4 n4 (λy2=>some (-1:Int)) (λy3=>some y3)) k (0:Int)
def mz {ρ:Type} (k:Nat) (p:Int× Int× Int× List Task× Int× Int× Int× Int) (v:Int) (next:Int->Option ρ) (x0:Unit->Option ρ) (xret:Bool->Option ρ):Option ρ:=
 cond (decide (v<(p.2.2.2.1.length:Int))) ((idx p.2.2.2.1 v).bind λe6=>(tE k e6).bind λr7=>cond (!r7) (xret false) (cond (decide (e6.id>=p.2.2.2.2.2.2.2)) (xret false) (cond (decide (e6.born>p.1)) (xret false) (cond (decide (v>(0:Int))) ((idx p.2.2.2.1 (IntKind.i64.wrap (v-(1:Int)))).bind λe8=>cond (decide (e8.id>=e6.id)) (xret false) (next (IntKind.i64.wrap (v+(1:Int))))) (next (IntKind.i64.wrap (v+(1:Int)))))))) (x0 ())
def eT (k:Nat) (a0:aj):Option (Bool):=
 (j3 k a0.now).bind λr1=>cond (!r1) (some false) ((b9 k a0.ai (0:Int) (1000:Int)).bind λr2=>cond (!r2) (some false) ((b9 k a0.age (0:Int) (20:Int)).bind λr3=>cond (!r3) (some false) (cond (decide ((a0.tasks.length:Int)>(12:Int))) (some false) ((j3 k a0.turns).bind λr4=>cond (!r4) (some false) ((b9 k a0.next (1:Int) (1000000:Int)).bind λr5=>cond (!r5) (some false) (iter (λu16 n16=>mz k (a0.now,a0.ai,a0.age,a0.tasks,a0.run,a0.left,a0.turns,a0.next) u16 n16 (λy9=>cond (a0.run==(0:Int)) (some (a0.left==(0:Int))) ((kB k a0 a0.run).bind λr10=>cond (decide (r10>=(0:Int))) ((idx a0.tasks r10).bind λe11=>(idx a0.tasks r10).bind λe12=>(idx e11.av e12.at_).bind λe13=>(b9 k a0.left (1:Int) e13).bind λr14=>some r14) (some false))) (λy15=>some y15)) k (0:Int)))))))
def lN {ρ:Type} (k:Nat) (p:Int× Int× Int× List Task× Int× Int× Int× Int) (v:Int× List Int) (next:(Int× List Int)->Option ρ) (x0:(List Int)->Option ρ):Option ρ:=
 cond (decide (v.1<(p.2.2.2.1.length:Int))) ((idx p.2.2.2.1 v.1).bind λe2=>cond (decide (e2.due<=p.1)) ((idx p.2.2.2.1 v.1).bind λe3=>cond (Nat.ble (v.2.length+[e3.id].length) aQ) (next (IntKind.i64.wrap (v.1+(1:Int)),v.2++[e3.id])) none) (next (IntKind.i64.wrap (v.1+(1:Int)),v.2))) (x0 v.2)
def wE (k:Nat) (a0:aj):Option (List Int):=
 (eT k a0).bind λr1=>cond (!r1) (some ([]:List Int)) (iter (λu5 n5=>lN k (a0.now,a0.ai,a0.age,a0.tasks,a0.run,a0.left,a0.turns,a0.next) u5 n5 (λy4=>some y4)) k ((0:Int),([]:List Int)))
def iI {ρ:Type} (k:Nat) (p:Int× Int× Int× Int× List Task× Int× Int× Int× Int× Int× List Int× Int× Int× Int) (v:Int× Int) (next:(Int× Int)->Option ρ) (x0:Int->Option ρ):Option ρ:=
 cond (decide (v.2<(p.2.2.2.2.2.2.2.2.2.2.1.length:Int))) ((idx p.2.2.2.2.2.2.2.2.2.2.1 v.2).bind λe4=>next (IntKind.i64.wrap (v.1+e4),IntKind.i64.wrap (v.2+(1:Int)))) (x0 v.1)
def qN (k:Nat) (a0:aj) (a1:Int):Option (Int):=
 (kB k a0 a1).bind λr1=>(eT k a0).bind λr2=>cond (!r2) (some (-1:Int)) (cond (decide (r1<(0:Int))) (some (-1:Int)) ((idx a0.tasks r1).bind λe3=>iter (λu7 n7=>iI k (a1,a0.now,a0.ai,a0.age,a0.tasks,a0.run,a0.left,a0.turns,a0.next,e3.id,e3.av,e3.at_,e3.due,e3.born) u7 n7 (λy5=>cond (a0.run==a1) ((idx e3.av e3.at_).bind λe6=>some (IntKind.i64.wrap ((IntKind.i64.wrap (y5-e6))+a0.left))) (some y5))) k ((0:Int),e3.at_)))
def iJ {ρ:Type} (k:Nat) (p:Int× Int× Int× Int× List Task× Int× Int× Int× Int) (v:Int× Int) (next:(Int× Int)->Option ρ) (x0:Int->Option ρ):Option ρ:=
 cond (decide (v.2<(p.2.2.2.2.1.length:Int))) ((idx p.2.2.2.2.1 v.2).bind λe2=>cond (decide (e2.due<=p.1)) ((idx p.2.2.2.2.1 v.2).bind λe3=>(qN k (⟨p.2.1,p.2.2.1,p.2.2.2.1,p.2.2.2.2.1,p.2.2.2.2.2.1,p.2.2.2.2.2.2.1,p.2.2.2.2.2.2.2.1,p.2.2.2.2.2.2.2.2⟩:aj) e3.id).bind λr4=>next (IntKind.i64.wrap (v.1+r4),IntKind.i64.wrap (v.2+(1:Int)))) (next (v.1,IntKind.i64.wrap (v.2+(1:Int))))) (x0 v.1)
def qO (k:Nat) (a0:aj) (a1:Int):Option (Int):=
 (eT k a0).bind λr1=>cond (!r1) (some (-1:Int)) (iter (λu6 n6=>iJ k (a1,a0.now,a0.ai,a0.age,a0.tasks,a0.run,a0.left,a0.turns,a0.next) u6 n6 (λy5=>some y5)) k ((0:Int),(0:Int)))
def tF (k:Nat) (a0:aj) (a1:Int):Option (Int):=
 (eT k a0).bind λr1=>cond (!r1) (some (-1:Int)) ((kB k a0 a0.run).bind λr2=>cond (decide (r2>=(0:Int))) ((idx a0.tasks r2).bind λe3=>cond (decide (e3.due>a1)) (some a0.left) (some (0:Int))) (some (0:Int)))
def oG {ρ:Type} (k:Nat) (p:Int× Int× Int× List Task× Int× Int× Int× Int) (v:Int) (next:Int->Option ρ) (x0:Unit->Option ρ) (xret:Bool->Option ρ):Option ρ:=
 cond (decide (v<(p.2.2.2.1.length:Int))) ((idx p.2.2.2.1 v).bind λe3=>(qO k (⟨p.1,p.2.1,p.2.2.1,p.2.2.2.1,p.2.2.2.2.1,p.2.2.2.2.2.1,p.2.2.2.2.2.2.1,p.2.2.2.2.2.2.2⟩:aj) e3.due).bind λr4=>(tF k (⟨p.1,p.2.1,p.2.2.1,p.2.2.2.1,p.2.2.2.2.1,p.2.2.2.2.2.1,p.2.2.2.2.2.2.1,p.2.2.2.2.2.2.2⟩:aj) e3.due).bind λr5=>cond (decide ((IntKind.i64.wrap ((IntKind.i64.wrap (r4+r5))+p.2.1))>(IntKind.i64.wrap (e3.due-p.1)))) (xret false) (next (IntKind.i64.wrap (v+(1:Int))))) (x0 ())
def wF (k:Nat) (a0:aj):Option (Bool):=
 (eT k a0).bind λr1=>cond (!r1) (some false) ((wE k a0).bind λr2=>cond (decide ((r2.length:Int)>(0:Int))) (some false) (iter (λu8 n8=>oG k (a0.now,a0.ai,a0.age,a0.tasks,a0.run,a0.left,a0.turns,a0.next) u8 n8 (λy6=>some true) (λy7=>some y7)) k (0:Int)))
def Cv (k:Nat) (a0:aj) (a1:List Int) (a2:Int):Option (aj× Int× Int):=
 (lM k a0).bind λr1=>(jO k a1).bind λr2=>(eT k a0).bind λr3=>cond (!r3) (some (r1,(0:Int),(1:Int))) ((tE k (⟨a0.next,r2,(0:Int),a2,a0.now⟩:Task)).bind λr4=>cond (!r4) (some (r1,(0:Int),(1:Int))) (cond ((a0.tasks.length:Int)==(12:Int)) (some (r1,(0:Int),(2:Int))) (cond (a0.next==(1000000:Int)) (some (r1,(0:Int),(2:Int))) (cond (Nat.ble (r1.tasks.length+1) aQ) ((wF k (⟨r1.now,r1.ai,r1.age,(r1.tasks++[(⟨a0.next,r2,(0:Int),a2,a0.now⟩:Task)]),r1.run,r1.left,r1.turns,(IntKind.i64.wrap (a0.next+(1:Int)))⟩:aj)).bind λr5=>cond (!r5) ((lM k a0).bind λr6=>some (r6,(0:Int),(3:Int))) (some ((⟨r1.now,r1.ai,r1.age,(r1.tasks++[(⟨a0.next,r2,(0:Int),a2,a0.now⟩:Task)]),r1.run,r1.left,r1.turns,(IntKind.i64.wrap (a0.next+(1:Int)))⟩:aj),a0.next,(0:Int)))) none))))
def eU {ρ:Type} (k:Nat) (p:List Task× Int× Int× Int× Int× Int× Int× Int× Int× Int× Int× Int× Int× Int× Int× Int) (v:Int× List Task) (next:(Int× List Task)->Option ρ) (x0:(List Task)->Option ρ):Option ρ:=
 cond (decide (v.1<p.2.1)) ((idx p.1 v.1).bind λe1=>(bO k e1.av).bind λr2=>cond (Nat.ble (v.2.length+1) aQ) (next (IntKind.i64.wrap (v.1+(1:Int)),v.2++[(⟨e1.id,r2,e1.at_,e1.due,e1.born⟩:Task)])) none) (x0 v.2)
def fv (k:Nat) (a0:aj):Option (aj):=
 iter (λu4 n4=>eU k (a0.tasks,(a0.tasks.length:Int),a0.now,a0.ai,a0.age,a0.run,a0.left,a0.turns,a0.next,(0:Int),(0:Int),(0:Int),(0:Int),(0:Int),(0:Int),(0:Int)) u4 n4 (λy3=>some (⟨a0.now,a0.ai,a0.age,y3,a0.run,a0.left,a0.turns,a0.next⟩:aj))) k ((0:Int),([]:List Task))
def mA (k:Nat) (a0:Int):Option (Bool):=
 (ry k a0 (0:Int) (1000000:Int)).bind λr1=>some r1
def sa (k:Nat) (a0:Int):Option (Bool):=
 (ry k a0 (1:Int) (1000:Int)).bind λr1=>some (!r1)
def bm {ρ:Type} (k:Nat) (p:List Int× Int) (v:Int) (next:Int->Option ρ) (x0:Unit->Option ρ) (xret:Int->Option ρ):Option ρ:=
 cond (decide (v<p.2)) ((idx p.1 v).bind λe1=>(sa k e1).bind λr2=>cond (r2) (xret v) (next (IntKind.i64.wrap (v+(1:Int))))) (x0 ())
def cu (k:Nat) (a0:List Int):Option (Int):=
 iter (λu5 n5=>bm k (a0,(a0.length:Int)) u5 n5 (λy3=>some (-1:Int)) (λy4=>some y4)) k (0:Int)
def ca (k:Nat) (a0:List Int):Option (Bool):=
 (cu k a0).bind λr1=>some (decide (r1>=(0:Int)))
def tG (k:Nat) (a0:Task):Option (Bool):=
 (ry k a0.id (1:Int) (1000000:Int)).bind λr1=>cond (r1) ((ry k (a0.av.length:Int) (1:Int) (6:Int)).bind λr2=>cond (r2) ((ca k a0.av).bind λr3=>cond (!r3) ((ry k a0.at_ (0:Int) (IntKind.i64.wrap ((a0.av.length:Int)-(1:Int)))).bind λr4=>cond (r4) ((mA k a0.due).bind λr5=>cond (r5) ((mA k a0.born).bind λr6=>some r6) (some false)) (some false)) (some false)) (some false)) (some false)
def fg {ρ:Type} (k:Nat) (p:List Task× Int× Int× Int× Int× List Task× Int× Int× Int× Int) (v:Int) (next:Int->Option ρ) (x0:Unit->Option ρ) (xret:Bool->Option ρ):Option ρ:=
 cond (decide (v<p.2.1)) ((idx p.1 v).bind λe1=>(tG k e1).bind λr2=>cond (!r2) (xret false) (cond (decide (e1.id>=p.2.2.2.2.2.2.2.2.2)) (xret false) (cond (decide (e1.born>p.2.2.1)) (xret false) (cond (decide (v>(0:Int))) ((idx p.2.2.2.2.2.1 (IntKind.i64.wrap (v-(1:Int)))).bind λe3=>cond (decide (e3.id>=e1.id)) (xret false) (next (IntKind.i64.wrap (v+(1:Int))))) (next (IntKind.i64.wrap (v+(1:Int)))))))) (x0 ())
def gO (k:Nat) (a0:aj):Option (Bool):=
 iter (λu6 n6=>fg k (a0.tasks,(a0.tasks.length:Int),a0.now,a0.ai,a0.age,a0.tasks,a0.run,a0.left,a0.turns,a0.next) u6 n6 (λy4=>some (decide ((a0.tasks.length:Int)<=(12:Int)))) (λy5=>some y5)) k (0:Int)
def jm (k:Nat) (a0:Task) (a1_0:Int):Option (Bool):=
 cond (decide (a1_0=a1_0)) (some (a0.id==a1_0)) none
def bM {ρ:Type} (k:Nat) (p:List Task× Int× Int) (v:Int) (next:Int->Option ρ) (x0:Unit->Option ρ) (xret:Int->Option ρ):Option ρ:=
 cond (decide (v<p.2.1)) ((idx p.1 v).bind λe1=>(jm k e1 p.2.2).bind λr2=>cond (r2) (xret v) (next (IntKind.i64.wrap (v+(1:Int))))) (x0 ())
def c7 (k:Nat) (a0:List Task) (a1c0_0:Int):Option (Int):=
 iter (λu5 n5=>bM k (a0,(a0.length:Int),a1c0_0) u5 n5 (λy3=>cond (decide (a1c0_0=a1c0_0)) (some (-1:Int)) none) (λy4=>cond (decide (a1c0_0=a1c0_0)) (some y4) none)) k (0:Int)
def dc (k:Nat) (a0:aj) (a1:Int):Option (Int):=
 (c7 k a0.tasks a1).bind λr1=>some r1
def lO (k:Nat) (a0:aj):Option (Bool):=
 (mA k a0.now).bind λr1=>cond (!r1) (some false) ((ry k a0.ai (0:Int) (1000:Int)).bind λr2=>cond (!r2) (some false) ((ry k a0.age (0:Int) (20:Int)).bind λr3=>cond (!r3) (some false) ((mA k a0.turns).bind λr4=>cond (!r4) (some false) ((ry k a0.next (1:Int) (1000000:Int)).bind λr5=>cond (!r5) (some false) ((gO k a0).bind λr6=>cond (!r6) (some false) ((dc k a0 a0.run).bind λr7=>cond (a0.run==(0:Int)) (cond (a0.run==(0:Int)) (some (a0.left==(0:Int))) (some false)) (cond (decide (r7<(0:Int))) (cond (a0.run==(0:Int)) (some (a0.left==(0:Int))) (some false)) ((idx a0.tasks r7).bind λe8=>(idx a0.tasks r7).bind λe9=>(idx e8.av e9.at_).bind λe10=>(ry k a0.left (1:Int) e10).bind λr11=>some r11))))))))
def cX (k:Nat) (a0:aj) (a1:Task):Option (Bool):=
 some (decide (a1.due<=a0.now))
def jB (k:Nat) (a0:aj) (a1:Task):Option (Int):=
 cond (decide (0<=a1.at_/\a1.at_<=(a1.av.length:Int))) ((LA k ((a1.av.take a1.av.length).drop a1.at_.toNat)).bind λr1=>cond (a0.run==a1.id) ((idx a1.av a1.at_).bind λe2=>some (IntKind.i64.wrap (r1+(IntKind.i64.wrap (a0.left-e2))))) (some r1)) none
def eV {ρ:Type} (k:Nat) (p:Int× List Task× Int× Int× Int× Int× List Task× Int× Int× Int× Int) (v:Int× Int) (next:(Int× Int)->Option ρ) (x0:Int->Option ρ):Option ρ:=
 cond (decide (v.2<p.2.2.1)) ((idx p.2.1 v.2).bind λe1=>cond (decide (e1.due<=p.1)) ((jB k (⟨p.2.2.2.1,p.2.2.2.2.1,p.2.2.2.2.2.1,p.2.2.2.2.2.2.1,p.2.2.2.2.2.2.2.1,p.2.2.2.2.2.2.2.2.1,p.2.2.2.2.2.2.2.2.2.1,p.2.2.2.2.2.2.2.2.2.2⟩:aj) e1).bind λr2=>next (IntKind.i64.wrap (v.1+r2),IntKind.i64.wrap (v.2+(1:Int)))) (next (v.1,IntKind.i64.wrap (v.2+(1:Int))))) (x0 v.1)
def jC (k:Nat) (a0:aj) (a1:Int):Option (Int):=
 iter (λu4 n4=>eV k (a1,a0.tasks,(a0.tasks.length:Int),a0.now,a0.ai,a0.age,a0.tasks,a0.run,a0.left,a0.turns,a0.next) u4 n4 (λy3=>some y3)) k ((0:Int),(0:Int))
def kN (k:Nat) (a0:aj) (a1:Int):Option (Int):=
 (dc k a0 a0.run).bind λr1=>cond (decide (r1>=(0:Int))) ((idx a0.tasks r1).bind λe2=>cond (decide (e2.due>a1)) (some a0.left) (some (0:Int))) (some (0:Int))
def kO (k:Nat) (a0:Task) (a1:aj):Option (Bool):=
 (cX k a1 a0).bind λr1=>cond (r1) (cond (decide (a1.now=a1.now)) (cond (decide (a1.ai=a1.ai)) (cond (decide (a1.age=a1.age)) (cond (decide (a1.tasks=a1.tasks)) (cond (decide (a1.run=a1.run)) (cond (decide (a1.left=a1.left)) (cond (decide (a1.turns=a1.turns)) (cond (decide (a1.next=a1.next)) (some true) none) none) none) none) none) none) none) none) ((jC k a1 a0.due).bind λr2=>(kN k a1 a0.due).bind λr3=>cond (decide (a1.now=a1.now)) (cond (decide (a1.ai=a1.ai)) (cond (decide (a1.age=a1.age)) (cond (decide (a1.tasks=a1.tasks)) (cond (decide (a1.run=a1.run)) (cond (decide (a1.left=a1.left)) (cond (decide (a1.turns=a1.turns)) (cond (decide (a1.next=a1.next)) (some (decide ((IntKind.i64.wrap ((IntKind.i64.wrap (r2+r3))+a1.ai))>(IntKind.i64.wrap (a0.due-a1.now))))) none) none) none) none) none) none) none) none)
def bH {ρ:Type} (k:Nat) (p:List Task× Int× Int× Int× Int× List Task× Int× Int× Int× Int) (v:Int) (next:Int->Option ρ) (x0:Unit->Option ρ) (xret:Int->Option ρ):Option ρ:=
 cond (decide (v<p.2.1)) ((idx p.1 v).bind λe1=>(kO k e1 (⟨p.2.2.1,p.2.2.2.1,p.2.2.2.2.1,p.2.2.2.2.2.1,p.2.2.2.2.2.2.1,p.2.2.2.2.2.2.2.1,p.2.2.2.2.2.2.2.2.1,p.2.2.2.2.2.2.2.2.2⟩:aj)).bind λr2=>cond (r2) (xret v) (next (IntKind.i64.wrap (v+(1:Int))))) (x0 ())
def cU (k:Nat) (a0:List Task) (a1c0:aj):Option (Int):=
 iter (λu5 n5=>bH k (a0,(a0.length:Int),a1c0.now,a1c0.ai,a1c0.age,a1c0.tasks,a1c0.run,a1c0.left,a1c0.turns,a1c0.next) u5 n5 (λy3=>cond (decide (a1c0.now=a1c0.now)) (cond (decide (a1c0.ai=a1c0.ai)) (cond (decide (a1c0.age=a1c0.age)) (cond (decide (a1c0.tasks=a1c0.tasks)) (cond (decide (a1c0.run=a1c0.run)) (cond (decide (a1c0.left=a1c0.left)) (cond (decide (a1c0.turns=a1c0.turns)) (cond (decide (a1c0.next=a1c0.next)) (some (-1:Int)) none) none) none) none) none) none) none) none) (λy4=>cond (decide (a1c0.now=a1c0.now)) (cond (decide (a1c0.ai=a1c0.ai)) (cond (decide (a1c0.age=a1c0.age)) (cond (decide (a1c0.tasks=a1c0.tasks)) (cond (decide (a1c0.run=a1c0.run)) (cond (decide (a1c0.left=a1c0.left)) (cond (decide (a1c0.turns=a1c0.turns)) (cond (decide (a1c0.next=a1c0.next)) (some y4) none) none) none) none) none) none) none) none)) k (0:Int)
def cI (k:Nat) (a0:List Task) (a1c0:aj):Option (Bool):=
 (cU k a0 a1c0).bind λr1=>cond (decide (a1c0.now=a1c0.now)) (cond (decide (a1c0.ai=a1c0.ai)) (cond (decide (a1c0.age=a1c0.age)) (cond (decide (a1c0.tasks=a1c0.tasks)) (cond (decide (a1c0.run=a1c0.run)) (cond (decide (a1c0.left=a1c0.left)) (cond (decide (a1c0.turns=a1c0.turns)) (cond (decide (a1c0.next=a1c0.next)) (some (decide (r1>=(0:Int)))) none) none) none) none) none) none) none) none
def wG (k:Nat) (a0:aj):Option (Bool):=
 (lO k a0).bind λr1=>cond (r1) ((cI k a0.tasks a0).bind λr2=>some (!r2)) (some false)
def Cw (k:Nat) (a0:aj) (a1:List Int) (a2:Int):Option (aj× Int× Int):=
 (bO k a1).bind λr1=>(fv k a0).bind λr2=>(lO k a0).bind λr3=>cond (!r3) (some (r2,(0:Int),(1:Int))) ((tG k (⟨a0.next,r1,(0:Int),a2,a0.now⟩:Task)).bind λr4=>cond (!r4) (some (r2,(0:Int),(1:Int))) (cond ((a0.tasks.length:Int)==(12:Int)) (some (r2,(0:Int),(2:Int))) (cond (a0.next==(1000000:Int)) (some (r2,(0:Int),(2:Int))) ((fv k a0).bind λr5=>cond (Nat.ble (r5.tasks.length+1) aQ) ((wG k (⟨r5.now,r5.ai,r5.age,(r5.tasks++[(⟨a0.next,r1,(0:Int),a2,a0.now⟩:Task)]),r5.run,r5.left,r5.turns,(IntKind.i64.wrap (r5.next+(1:Int)))⟩:aj)).bind λr6=>cond (!r6) (some (r2,(0:Int),(3:Int))) (some ((⟨r5.now,r5.ai,r5.age,(r5.tasks++[(⟨a0.next,r1,(0:Int),a2,a0.now⟩:Task)]),r5.run,r5.left,r5.turns,(IntKind.i64.wrap (r5.next+(1:Int)))⟩:aj),a0.next,(0:Int)))) none))))
end
end
set_option maxRecDepth 100000
section
noncomputable section
def gI {ρ:Type} (k:Nat) (p:Int× Int× Int× Int× Int× Int× Int× Int× List dE) (v:Int× List dE) (next:(Int× List dE)->Option ρ) (x0:(List dE)->Option ρ):Option ρ:=
 cond (decide (v.1<(p.2.2.2.2.2.2.2.2.length:Int))) (cond (decide (0<=v.1/\v.1<(p.2.2.2.2.2.2.2.2.length:Int))) ((p.2.2.2.2.2.2.2.2[v.1.toNat]?).bind λe1=>cond (e1.id !=p.1) (cond (decide (0<=v.1/\v.1<(p.2.2.2.2.2.2.2.2.length:Int))) ((p.2.2.2.2.2.2.2.2[v.1.toNat]?).bind λe2=>cond (Nat.ble (v.2.length+[e2].length) aQ) (next (IntKind.i64.wrap (v.1+(1:Int)),v.2++[e2])) none) none) (next (IntKind.i64.wrap (v.1+(1:Int)),v.2))) none) (x0 v.2)
def fI (k:Nat) (a0_0:Int) (a0_1:Int) (a0_2:Int) (a0_3:List dE) (a0_4:Int) (a0_5:Int) (a0_6:Int) (a0_7:Int) (a1:Int):Option (List dE):=
 iter (λu4 n4=>gI k (a1,a0_0,a0_1,a0_2,a0_4,a0_5,a0_6,a0_7,a0_3) u4 n4 (λy3=>cond (decide (a0_0=a0_0)) (cond (decide (a0_1=a0_1)) (cond (decide (a0_2=a0_2)) (cond (decide (a0_4=a0_4)) (cond (decide (a0_5=a0_5)) (cond (decide (a0_6=a0_6)) (cond (decide (a0_7=a0_7)) (some y3) none) none) none) none) none) none) none)) k ((0:Int),([]:List dE))
def j4 (k:Nat) (a0:aj) (a1:Int):Option (aj× Bool):=
 (lM k a0).bind λr1=>(eT k a0).bind λr2=>cond (!r2) (some (r1,false)) ((kB k a0 a1).bind λr3=>cond (decide (r3<(0:Int))) (some (r1,false)) ((kA r1.tasks).bind λy4=>(fI k r1.now r1.ai r1.age y4 r1.run r1.left r1.turns r1.next a1).bind λr5=>cond (jk r5) ((o5 r1.tasks r5).bind λz6=>cond (r1.run==a1) (some ((⟨r1.now,r1.ai,r1.age,z6,(0:Int),(0:Int),r1.turns,r1.next⟩:aj),true)) (some ((⟨r1.now,r1.ai,r1.age,z6,r1.run,r1.left,r1.turns,r1.next⟩:aj),true))) none))
def dQ (k:Nat) (a0:dE) (a1_0:Int):Option (Bool):=
 cond (decide (a1_0=a1_0)) (some (a0.id==a1_0)) none
def bI {ρ:Type} (k:Nat) (p:List dE× Int× Int) (v:Int) (next:Int->Option ρ) (x0:Unit->Option ρ) (xret:Int->Option ρ):Option ρ:=
 cond (decide (v<p.2.1)) ((idx p.1 v).bind λe1=>(dQ k e1 p.2.2).bind λr2=>cond (r2) (xret v) (next (IntKind.i64.wrap (v+(1:Int))))) (x0 ())
def bX (k:Nat) (a0:List dE) (a1c0_0:Int):Option (Int):=
 iter (λu5 n5=>bI k (a0,(a0.length:Int),a1c0_0) u5 n5 (λy3=>cond (decide (a1c0_0=a1c0_0)) (some (-1:Int)) none) (λy4=>cond (decide (a1c0_0=a1c0_0)) (some y4) none)) k (0:Int)
def aS {ρ:Type} (k:Nat) (p:Int) (v:Int× Int× List dE) (next:(Int× Int× List dE)->Option ρ) (x0:(Int× List dE)->Option ρ):Option ρ:=
 cond (decide (v.2.1<(v.2.2.length:Int))) (cond (decide (0<=v.2.1/\v.2.1<(v.2.2.length:Int))) ((v.2.2[v.2.1.toNat]?).bind λe2=>(dQ k e2 p).bind λr3=>cond (!r3) (cond (decide (0<=v.1/\v.1<(v.2.2.length:Int))) (next (IntKind.i64.wrap (v.1+(1:Int)),IntKind.i64.wrap (v.2.1+(1:Int)),v.2.2.set v.1.toNat e2)) none) (next (v.1,IntKind.i64.wrap (v.2.1+(1:Int)),v.2.2))) none) (x0 (v.1,v.2.2))
def bf (k:Nat) (a0:List dE) (a1c0_0:Int):Option (List dE):=
 (bX k a0 a1c0_0).bind λr1=>cond (r1==(-1:Int)) (cond (decide (a1c0_0=a1c0_0)) (some a0) none) (iter (λu5 n5=>aS k a1c0_0 u5 n5 (λy4=>cond (decide (0<=y4.1/\y4.1<=(y4.2.length:Int))) (cond (decide (0<=y4.1/\y4.1<=(((y4.2).take y4.1.toNat++List.replicate (y4.2.length-y4.1.toNat) (⟨(0:Int),(0:Nat),(0:Int),(0:Int),(0:Int)⟩:dE)++(y4.2).drop (y4.1.toNat+(y4.2.length-y4.1.toNat))).length:Int))) (cond (decide (a1c0_0=a1c0_0)) (some (((y4.2).take y4.1.toNat++List.replicate (y4.2.length-y4.1.toNat) (⟨(0:Int),(0:Nat),(0:Int),(0:Int),(0:Int)⟩:dE)++(y4.2).drop (y4.1.toNat+(y4.2.length-y4.1.toNat))).take (y4.1.toNat-0))) none) none) none)) k (r1,IntKind.i64.wrap (r1+(1:Int)),a0))
def dv (k:Nat) (a0_0:Int) (a0_1:Int) (a0_2:Int) (a0_3:List dE) (a0_4:Int) (a0_5:Int) (a0_6:Int) (a0_7:Int) (a1:Int):Option (List dE× Int× Int):=
 (bf k a0_3 a1).bind λr1=>cond (a0_4==a1) (cond (decide (a0_0=a0_0)) (cond (decide (a0_1=a0_1)) (cond (decide (a0_2=a0_2)) (cond (decide (a0_6=a0_6)) (cond (decide (a0_7=a0_7)) (some (r1,(0:Int),(0:Int))) none) none) none) none) none) (cond (decide (a0_0=a0_0)) (cond (decide (a0_1=a0_1)) (cond (decide (a0_2=a0_2)) (cond (decide (a0_6=a0_6)) (cond (decide (a0_7=a0_7)) (some (r1,a0_4,a0_5)) none) none) none) none) none)
end
end
end Go.Proofs.Ev
