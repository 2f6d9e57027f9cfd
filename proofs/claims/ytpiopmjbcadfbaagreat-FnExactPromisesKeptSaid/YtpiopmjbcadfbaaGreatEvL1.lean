/- Typed functions and what holds of them: part 1. -/
import Derived.Test.YtpiopmjbcadfbaaGreatEvK6
import Derived.Test.YtpiopmjbcadfbaaGreatEvK7
set_option linter.unusedVariables false
set_option linter.unusedSimpArgs false
set_option linter.unusedSectionVars false
namespace Go.Proofs.Ev
set_option maxRecDepth 100000
section
noncomputable section
def sV (k:Nat) (a0:List Int) (a1:Int):Option (Int):=
 cond (decide ((IntKind.i64.wrap (a1-(a0.length:Int)))<(0:Int))) (some (-1:Int)) (some (IntKind.i64.wrap (a1-(a0.length:Int))))
def uL (k:Nat) (a0:aA) (a1:Int):Option (Int):=
 (sV k a0.data a1).bind λr1=>cond (decide (r1<(0:Int))) (some (-1:Int)) (some r1)
def xI (k:Nat) (a0:Shape):Option (Shape):=
 some a0
def oa {ρ:Type} (k:Nat) (p:List Int) (v:Int× List Int) (next:(Int× List Int)->Option ρ) (x0:(List Int)->Option ρ):Option ρ:=
 cond (decide (v.1<(p.length:Int))) ((idx p v.1).bind λe1=>cond (decide (0<=v.1/\v.1<(v.2.length:Int))) (next (IntKind.i64.wrap (v.1+(1:Int)),v.2.set v.1.toNat e1)) none) (x0 v.2)
def sW (k:Nat) (a0:List Int):Option (List Int):=
 cond (decide (0<=(a0.length:Int)/\(a0.length:Int)<=(a0.length:Int)/\(a0.length:Int)<=(aU:Int))) (iter (λu3 n3=>oa k a0 u3 n3 (λy2=>some y2)) k ((0:Int),List.replicate ((a0.length:Int).toNat) (0:Int))) none
def qq (k:Nat) (a0:aA):Option (aA):=
 (xI k a0.sh).bind λr1=>(sW k a0.data).bind λr2=>some (⟨r1,r2⟩:aA)
def jL {ρ:Type} (k:Nat) (p:List Int) (v:Int× List Int) (next:(Int× List Int)->Option ρ) (x0:(List Int)->Option ρ):Option ρ:=
 cond (decide (v.1<(p.length:Int))) ((idx p v.1).bind λe1=>cond (Nat.ble (v.2.length+[e1].length) aU) (next (IntKind.i64.wrap (v.1+(1:Int)),v.2++[e1])) none) (x0 v.2)
def jM (k:Nat) (a0:List Int):Option (List Int):=
 iter (λu3 n3=>jL k a0 u3 n3 (λy2=>some y2)) k ((0:Int),([]:List Int))
def ng (k:Nat) (a0:aA):Option (aA):=
 (jM k a0.data).bind λr1=>some (⟨a0.sh,r1⟩:aA)
def bU (k:Nat) (a0:Int) (a1:Int) (a2:Int):Option (Bool):=
 cond (decide (a1<=a0)) (some (decide (a0<=a2))) (some false)
def jN (k:Nat) (a0:Shape):Option (Bool):=
 (bU k a0.h (1:Int) (8:Int)).bind λr1=>cond (r1) ((bU k a0.w (1:Int) (8:Int)).bind λr2=>cond (r2) ((bU k a0.c (1:Int) (8:Int)).bind λr3=>some r3) (some false)) (some false)
def dD (k:Nat) (a0:Shape):Option (Int):=
 (jN k a0).bind λr1=>cond (!r1) (some (0:Int)) (some (IntKind.i64.wrap ((IntKind.i64.wrap (a0.h*a0.w))*a0.c)))
def gG (k:Nat) (a0:Int):Option (Bool):=
 (bU k a0 (-128:Int) (127:Int)).bind λr1=>some r1
def kz {ρ:Type} (k:Nat) (p:Int× Int× Int× List Int) (v:Int) (next:Int->Option ρ) (x0:Unit->Option ρ) (xret:Bool->Option ρ):Option ρ:=
 cond (decide (v<(p.2.2.2.length:Int))) ((idx p.2.2.2 v).bind λe3=>(gG k e3).bind λr4=>cond (!r4) (xret false) (next (IntKind.i64.wrap (v+(1:Int))))) (x0 ())
def k8 (k:Nat) (a0:aA):Option (Bool):=
 (jN k a0.sh).bind λr1=>cond (!r1) (some false) ((dD k a0.sh).bind λr2=>cond ((a0.data.length:Int) !=r2) (some false) (iter (λu7 n7=>kz k (a0.sh.h,a0.sh.w,a0.sh.c,a0.data) u7 n7 (λy5=>some true) (λy6=>some y6)) k (0:Int)))
def bS (k:Nat) (a0:List Int):Option (List Int):=
 cond (isNil a0) (both (some ([]:List Int)) (cond (Nat.ble (([]:List Int).length+a0.length) aU) (some (([]:List Int)++a0)) none)) (cond (Nat.ble (([]:List Int).length+a0.length) aU) (some (([]:List Int)++a0)) none)
def fR (k:Nat) (a0:aA):Option (aA):=
 (bS k a0.data).bind λr1=>some (⟨a0.sh,r1⟩:aA)
def qt (k:Nat) (a0:Int) (a1:Int) (a2:Int):Option (Bool):=
 cond (decide (a1<=a0)) (some (decide (a0<=a2))) (some false)
def nh (k:Nat) (a0:Shape):Option (Bool):=
 (qt k a0.h (1:Int) (8:Int)).bind λr1=>cond (r1) ((qt k a0.w (1:Int) (8:Int)).bind λr2=>cond (r2) ((qt k a0.c (1:Int) (8:Int)).bind λr3=>some r3) (some false)) (some false)
def jv (k:Nat) (a0:Shape):Option (Int):=
 (nh k a0).bind λr1=>cond (!r1) (some (0:Int)) (some (IntKind.i64.wrap ((IntKind.i64.wrap (a0.h*a0.w))*a0.c)))
def oc (k:Nat) (a0:Int):Option (Bool):=
 (qt k a0 (-128:Int) (127:Int)).bind λr1=>some (!r1)
def aI {ρ:Type} (k:Nat) (p:List Int× Int) (v:Int) (next:Int->Option ρ) (x0:Unit->Option ρ) (xret:Int->Option ρ):Option ρ:=
 cond (decide (v<p.2)) ((idx p.1 v).bind λe1=>(oc k e1).bind λr2=>cond (r2) (xret v) (next (IntKind.i64.wrap (v+(1:Int))))) (x0 ())
def bz (k:Nat) (a0:List Int):Option (Int):=
 iter (λu5 n5=>aI k (a0,(a0.length:Int)) u5 n5 (λy3=>some (-1:Int)) (λy4=>some y4)) k (0:Int)
def ba (k:Nat) (a0:List Int):Option (Bool):=
 (bz k a0).bind λr1=>some (decide (r1>=(0:Int)))
def ni (k:Nat) (a0:List Int):Option (Bool):=
 (ba k a0).bind λr1=>some (!r1)
def nj (k:Nat) (a0:aA):Option (Bool):=
 (nh k a0.sh).bind λr1=>cond (r1) ((jv k a0.sh).bind λr2=>cond ((a0.data.length:Int)==r2) ((ni k a0.data).bind λr3=>some r3) (some false)) (some false)
def xJ (k:Nat) (a0:Shape) (a1:Shape):Option (Bool):=
 cond (a0.h !=a1.h) (some false) (cond (a0.w !=a1.w) (some false) (cond (a0.c !=a1.c) (some false) (some true)))
def xK {ρ:Type} (k:Nat) (p:List Int× List Int) (v:Int) (next:Int->Option ρ) (x0:Unit->Option ρ) (xret:Bool->Option ρ):Option ρ:=
 cond (decide (v<(p.1.length:Int))) ((idx p.1 v).bind λe1=>(idx p.2 v).bind λe2=>cond (e1 !=e2) (xret false) (next (IntKind.i64.wrap (v+(1:Int))))) (x0 ())
def wm (k:Nat) (a0:List Int) (a1:List Int):Option (Bool):=
 cond ((a0.length:Int) !=(a1.length:Int)) (some false) (iter (λu5 n5=>xK k (a0,a1) u5 n5 (λy3=>some true) (λy4=>some y4)) k (0:Int))
def uM (k:Nat) (a0:aA) (a1:aA):Option (Bool):=
 (xJ k a0.sh a1.sh).bind λr1=>cond (!r1) (some false) ((wm k a0.data a1.data).bind λr2=>cond (!r2) (some false) (some true))
def pH (k:Nat) (a0:List Int) (a1:Int):Option (Int):=
 cond (decide ((IntKind.i64.wrap (a1-(a0.length:Int)))<(0:Int))) (some (-1:Int)) (some (IntKind.i64.wrap (a1-(a0.length:Int))))
def wo (k:Nat) (a0:Step) (a1:Int):Option (Int):=
 (pH k a0.data a1).bind λr1=>cond (decide (r1<(0:Int))) (some (-1:Int)) ((uL k a0.input r1).bind λr2=>cond (decide (r2<(0:Int))) (some (-1:Int)) (some r2))
def l8 {ρ:Type} (k:Nat) (p:List Int) (v:Int× List Int) (next:(Int× List Int)->Option ρ) (x0:(List Int)->Option ρ):Option ρ:=
 cond (decide (v.1<(p.length:Int))) ((idx p v.1).bind λe1=>cond (decide (0<=v.1/\v.1<(v.2.length:Int))) (next (IntKind.i64.wrap (v.1+(1:Int)),v.2.set v.1.toNat e1)) none) (x0 v.2)
def pI (k:Nat) (a0:List Int):Option (List Int):=
 cond (decide (0<=(a0.length:Int)/\(a0.length:Int)<=(a0.length:Int)/\(a0.length:Int)<=(aU:Int))) (iter (λu3 n3=>l8 k a0 u3 n3 (λy2=>some y2)) k ((0:Int),List.replicate ((a0.length:Int).toNat) (0:Int))) none
def sX (k:Nat) (a0:Step):Option (Step):=
 (pI k a0.data).bind λr1=>(qq k a0.input).bind λr2=>some (⟨a0.kind,a0.a,a0.b,r1,r2⟩:Step)
def od (k:Nat) (a0:List Int) (a1:List Int):Option (Bool):=
 some ((bytesOf a0)==(bytesOf a1))
def vt {ρ:Type} (k:Nat) (p:List Int× List Int) (v:Int) (next:Int->Option ρ) (x0:Unit->Option ρ) (xret:Bool->Option ρ):Option ρ:=
 cond (decide (v<(p.1.length:Int))) ((idx p.1 v).bind λe1=>(idx p.2 v).bind λe2=>cond (e1 !=e2) (xret false) (next (IntKind.i64.wrap (v+(1:Int))))) (x0 ())
def sY (k:Nat) (a0:List Int) (a1:List Int):Option (Bool):=
 cond ((a0.length:Int) !=(a1.length:Int)) (some false) (iter (λu5 n5=>vt k (a0,a1) u5 n5 (λy3=>some true) (λy4=>some y4)) k (0:Int))
def wq (k:Nat) (a0:Step) (a1:Step):Option (Bool):=
 cond (a0.kind !=a1.kind) (some false) (cond (a0.a !=a1.a) (some false) (cond (a0.b !=a1.b) (some false) ((sY k a0.data a1.data).bind λr1=>cond (!r1) (some false) ((uM k a0.input a1.input).bind λr2=>cond (!r2) (some false) (some true)))))
def jO {ρ:Type} (k:Nat) (p:List Step) (v:Int× Int) (next:(Int× Int)->Option ρ) (x0:Int->Option ρ) (xret:Int->Option ρ):Option ρ:=
 cond (decide (v.2<(p.length:Int))) ((idx p v.2).bind λe1=>(wo k e1 v.1).bind λr2=>cond (decide (r2<(0:Int))) (xret (-1:Int)) (next (r2,IntKind.i64.wrap (v.2+(1:Int))))) (x0 v.1)
def xL (k:Nat) (a0:List Step) (a1:Int):Option (Int):=
 cond (decide ((IntKind.i64.wrap (a1-(a0.length:Int)))<(0:Int))) (some (-1:Int)) (iter (λu5 n5=>jO k a0 u5 n5 (λy3=>some y3) (λy4=>some y4)) k (IntKind.i64.wrap (a1-(a0.length:Int)),(0:Int)))
def jP {ρ:Type} (k:Nat) (p:List Step) (v:Int× List Step) (next:(Int× List Step)->Option ρ) (x0:(List Step)->Option ρ):Option ρ:=
 cond (decide (v.1<(p.length:Int))) ((idx p v.1).bind λe1=>(sX k e1).bind λr2=>cond (decide (0<=v.1/\v.1<(v.2.length:Int))) (next (IntKind.i64.wrap (v.1+(1:Int)),v.2.set v.1.toNat r2)) none) (x0 v.2)
def pJ (k:Nat) (a0:List Step):Option (List Step):=
 cond (decide (0<=(a0.length:Int)/\(a0.length:Int)<=(a0.length:Int)/\(a0.length:Int)<=(aU:Int))) (iter (λu4 n4=>jP k a0 u4 n4 (λy3=>some y3)) k ((0:Int),List.replicate ((a0.length:Int).toNat) (⟨(0:Int),(0:Int),(0:Int),([]:List Int),(⟨(⟨(0:Int),(0:Int),(0:Int)⟩:Shape),([]:List Int)⟩:aA)⟩:Step))) none
def jQ {ρ:Type} (k:Nat) (p:List Step× List Step) (v:Int) (next:Int->Option ρ) (x0:Unit->Option ρ) (xret:Bool->Option ρ):Option ρ:=
 cond (decide (v<(p.1.length:Int))) ((idx p.1 v).bind λe1=>(idx p.2 v).bind λe2=>(wq k e1 e2).bind λr3=>cond (!r3) (xret false) (next (IntKind.i64.wrap (v+(1:Int))))) (x0 ())
def xM (k:Nat) (a0:List Step) (a1:List Step):Option (Bool):=
 cond ((a0.length:Int) !=(a1.length:Int)) (some false) (iter (λu6 n6=>jQ k (a0,a1) u6 n6 (λy4=>some true) (λy5=>some y5)) k (0:Int))
end
end
set_option maxRecDepth 100000
section
noncomputable section
end
end
set_option maxRecDepth 100000
section
noncomputable section
def qu (k:Nat) (a0:Step):Option (Int):=
 (bU k a0.kind (4:Int) (5:Int)).bind λr1=>cond (r1) ((bU k a0.a (0:Int) (200:Int)).bind λr2=>cond (r2) (some a0.a) (some (0:Int))) (some (0:Int))
def kA (k:Nat) (a0:Step):Option (Bool):=
 cond (a0.kind==(4:Int)) ((qt k a0.a (0:Int) (200:Int)).bind λr1=>some r1) (cond (a0.kind==(5:Int)) ((qt k a0.a (0:Int) (200:Int)).bind λr2=>some r2) (some false))
def gj {ρ:Type} (k:Nat) (p:Int× Int× Int× Int× Int× Int× Int× List Int× List Int) (v:Int) (next:Int->Option ρ) (x0:Unit->Option ρ) (xret:Bool->Option ρ):Option ρ:=
 cond (decide (v<(p.2.2.2.2.2.2.2.2.length:Int))) ((idx p.2.2.2.2.2.2.2.2 v).bind λe7=>(bU k e7 (-1000000:Int) (1000000:Int)).bind λr8=>cond (!r8) (xret false) (next (IntKind.i64.wrap (v+(1:Int))))) (x0 ())
def gl {ρ:Type} (k:Nat) (p:Int× Int× Int× Int× Int× Int× Int× List Int× List Int) (v:Int) (next:Int->Option ρ) (x2:Unit->Option ρ) (xret:Bool->Option ρ):Option ρ:=
 cond (decide (v<(p.2.2.2.2.2.2.2.1.length:Int))) ((idx p.2.2.2.2.2.2.2.1 v).bind λe10=>(gG k e10).bind λr11=>cond (!r11) (xret false) (next (IntKind.i64.wrap (v+(1:Int))))) (x2 ())
def qv (k:Nat) (a0:av) (a1:Bool) (a2:Bool):Option (Bool):=
 cond (a1) ((bU k a0.size (1:Int) (3:Int)).bind λr1=>cond (!r1) (some false) ((bU k a0.step (1:Int) (2:Int)).bind λr2=>cond (!r2) (some false) (cond (a2) ((bU k a0.out (1:Int) (8:Int)).bind λr3=>cond (!r3) (some false) ((bU k a0.mult (0:Int) (2147483647:Int)).bind λr4=>cond (!r4) (some false) ((bU k a0.shift (0:Int) (31:Int)).bind λr5=>cond (!r5) (some false) ((gG k a0.zero).bind λr6=>cond (!r6) (some false) (cond ((a0.mT.length:Int) !=a0.out) (some false) (iter (λu16 n16=>gj k (a0.kind,a0.out,a0.size,a0.step,a0.mult,a0.shift,a0.zero,a0.weights,a0.mT) u16 n16 (λy9=>iter (λu14 n14=>gl k (a0.kind,a0.out,a0.size,a0.step,a0.mult,a0.shift,a0.zero,a0.weights,a0.mT) u14 n14 (λy12=>some true) (λy13=>some y13)) k (0:Int)) (λy15=>some y15)) k (0:Int))))))) (cond (a0.out !=(0:Int)) (some false) (cond (a0.mult !=(0:Int)) (some false) (cond (a0.shift !=(0:Int)) (some false) (cond (decide ((a0.weights.length:Int)>(0:Int))) (some false) (cond (decide ((a0.mT.length:Int)>(0:Int))) (some false) (cond (a0.kind==(4:Int)) ((gG k a0.zero).bind λr17=>some r17) (some (a0.zero==(0:Int)))))))))))) (cond (a0.size !=(0:Int)) (some false) (cond (a0.step !=(0:Int)) (some false) (cond (a2) ((bU k a0.out (1:Int) (8:Int)).bind λr18=>cond (!r18) (some false) ((bU k a0.mult (0:Int) (2147483647:Int)).bind λr19=>cond (!r19) (some false) ((bU k a0.shift (0:Int) (31:Int)).bind λr20=>cond (!r20) (some false) ((gG k a0.zero).bind λr21=>cond (!r21) (some false) (cond ((a0.mT.length:Int) !=a0.out) (some false) (iter (λu31 n31=>gj k (a0.kind,a0.out,a0.size,a0.step,a0.mult,a0.shift,a0.zero,a0.weights,a0.mT) u31 n31 (λy24=>iter (λu29 n29=>gl k (a0.kind,a0.out,a0.size,a0.step,a0.mult,a0.shift,a0.zero,a0.weights,a0.mT) u29 n29 (λy27=>some true) (λy28=>some y28)) k (0:Int)) (λy30=>some y30)) k (0:Int))))))) (cond (a0.out !=(0:Int)) (some false) (cond (a0.mult !=(0:Int)) (some false) (cond (a0.shift !=(0:Int)) (some false) (cond (decide ((a0.weights.length:Int)>(0:Int))) (some false) (cond (decide ((a0.mT.length:Int)>(0:Int))) (some false) (cond (a0.kind==(4:Int)) ((gG k a0.zero).bind λr32=>some r32) (some (a0.zero==(0:Int))))))))))))
def k9 (k:Nat) (a0:Shape) (a1:av):Option (Shape× Bool):=
 (jN k a0).bind λr1=>cond (!r1) (some ((⟨(0:Int),(0:Int),(0:Int)⟩:Shape),false)) ((bU k a1.kind (0:Int) (5:Int)).bind λr2=>cond (!r2) (some ((⟨(0:Int),(0:Int),(0:Int)⟩:Shape),false)) ((bU k a1.kind (1:Int) (3:Int)).bind λr3=>(qv k a1 r3 (decide (a1.kind<=(1:Int)))).bind λr4=>cond (!r4) (some ((⟨(0:Int),(0:Int),(0:Int)⟩:Shape),false)) (cond (r3) (cond (decide (a1.size>a0.h)) (some ((⟨(0:Int),(0:Int),(0:Int)⟩:Shape),false)) (cond (decide (a1.size>a0.w)) (some ((⟨(0:Int),(0:Int),(0:Int)⟩:Shape),false)) (cond (decide (a1.step=0)) none (cond (decide (a1.step=0)) none (cond (a1.kind==(0:Int)) ((dD k a0).bind λr5=>cond (decide (r5>(64:Int))) (some ((⟨(0:Int),(0:Int),(0:Int)⟩:Shape),false)) ((dD k a0).bind λr6=>cond ((a1.weights.length:Int) !=(IntKind.i64.wrap (a1.out*r6))) (some ((⟨(0:Int),(0:Int),(0:Int)⟩:Shape),false)) (some ((⟨(1:Int),(1:Int),a1.out⟩:Shape),true)))) (cond (a1.kind==(1:Int)) (cond ((a1.weights.length:Int) !=(IntKind.i64.wrap ((IntKind.i64.wrap ((IntKind.i64.wrap (a1.out*a1.size))*a1.size))*a0.c))) (some ((⟨(0:Int),(0:Int),(0:Int)⟩:Shape),false)) (cond (decide ((a1.weights.length:Int)>(600:Int))) (some ((⟨(0:Int),(0:Int),(0:Int)⟩:Shape),false)) (some ((⟨(IntKind.i64.wrap ((IntKind.i64.wrap ((IntKind.i64.wrap (a0.h-a1.size)).tdiv a1.step))+(1:Int))),(IntKind.i64.wrap ((IntKind.i64.wrap ((IntKind.i64.wrap (a0.w-a1.size)).tdiv a1.step))+(1:Int))),a1.out⟩:Shape),true)))) (cond (a1.kind==(5:Int)) ((dD k a0).bind λr7=>cond (decide (r7>(8:Int))) (some ((⟨(0:Int),(0:Int),(0:Int)⟩:Shape),false)) ((dD k a0).bind λr8=>some ((⟨(1:Int),(1:Int),r8⟩:Shape),true))) (some ((⟨(IntKind.i64.wrap ((IntKind.i64.wrap ((IntKind.i64.wrap (a0.h-a1.size)).tdiv a1.step))+(1:Int))),(IntKind.i64.wrap ((IntKind.i64.wrap ((IntKind.i64.wrap (a0.w-a1.size)).tdiv a1.step))+(1:Int))),a0.c⟩:Shape),true))))))))) (cond (a1.kind==(0:Int)) ((dD k a0).bind λr9=>cond (decide (r9>(64:Int))) (some ((⟨(0:Int),(0:Int),(0:Int)⟩:Shape),false)) ((dD k a0).bind λr10=>cond ((a1.weights.length:Int) !=(IntKind.i64.wrap (a1.out*r10))) (some ((⟨(0:Int),(0:Int),(0:Int)⟩:Shape),false)) (some ((⟨(1:Int),(1:Int),a1.out⟩:Shape),true)))) (cond (a1.kind==(1:Int)) (cond ((a1.weights.length:Int) !=(IntKind.i64.wrap ((IntKind.i64.wrap ((IntKind.i64.wrap (a1.out*a1.size))*a1.size))*a0.c))) (some ((⟨(0:Int),(0:Int),(0:Int)⟩:Shape),false)) (cond (decide ((a1.weights.length:Int)>(600:Int))) (some ((⟨(0:Int),(0:Int),(0:Int)⟩:Shape),false)) (some ((⟨a0.h,a0.w,a1.out⟩:Shape),true)))) (cond (a1.kind==(5:Int)) ((dD k a0).bind λr11=>cond (decide (r11>(8:Int))) (some ((⟨(0:Int),(0:Int),(0:Int)⟩:Shape),false)) ((dD k a0).bind λr12=>some ((⟨(1:Int),(1:Int),r12⟩:Shape),true))) (some (a0,true))))))))
def gH {ρ:Type} (k:Nat) (p:Int× Int× Int× List av) (v:Int× List Shape) (next:(Int× List Shape)->Option ρ) (x0:(List Shape)->Option ρ) (xret:Bool->Option ρ):Option ρ:=
 cond (decide (v.1<(p.2.2.2.length:Int))) (cond (decide (0<=v.1/\v.1<(v.2.length:Int))) ((v.2[v.1.toNat]?).bind λe3=>(idx p.2.2.2 v.1).bind λe4=>(k9 k e3 e4).bind λr5=>cond (!r5.2) (xret false) (cond (Nat.ble (v.2.length+[r5.1].length) aU) (next (IntKind.i64.wrap (v.1+(1:Int)),v.2++[r5.1])) none)) none) (x0 v.2)
def jj (k:Nat) (a0:Model):Option (List Shape× Bool):=
 (jN k a0.inp).bind λr1=>cond (!r1) (some (([]:List Shape),false)) ((bU k (a0.aB.length:Int) (1:Int) (6:Int)).bind λr2=>cond (!r2) (some (([]:List Shape),false)) (iter (λu8 n8=>gH k (a0.inp.h,a0.inp.w,a0.inp.c,a0.aB) u8 n8 (λy6=>some (y6,true)) (λy7=>some (([]:List Shape),y7))) k ((0:Int),[a0.inp])))
def pK (k:Nat) (a0:Model):Option (Bool):=
 (jj k a0).bind λr1=>some r1.2
def wu (k:Nat) (a0:Shape) (a1:av):Option (Int):=
 (k9 k a0 a1).bind λr1=>cond (!r1.2) (some (0:Int)) ((dD k a0).bind λr2=>cond (a1.kind==(0:Int)) ((dD k r1.1).bind λr3=>(dD k a0).bind λr4=>some (IntKind.i64.wrap ((1:Int)+(IntKind.i64.wrap ((IntKind.i64.wrap (r3*r4)).tdiv (16:Int)))))) (cond (a1.kind==(1:Int)) ((dD k r1.1).bind λr5=>some (IntKind.i64.wrap ((1:Int)+(IntKind.i64.wrap ((IntKind.i64.wrap ((IntKind.i64.wrap ((IntKind.i64.wrap (r5*a1.size))*a1.size))*a0.c)).tdiv (16:Int)))))) (cond (a1.kind==(2:Int)) ((dD k r1.1).bind λr6=>some (IntKind.i64.wrap ((1:Int)+(IntKind.i64.wrap ((IntKind.i64.wrap ((IntKind.i64.wrap (r6*a1.size))*a1.size)).tdiv (16:Int)))))) (cond (a1.kind==(3:Int)) ((dD k r1.1).bind λr7=>some (IntKind.i64.wrap ((1:Int)+(IntKind.i64.wrap ((IntKind.i64.wrap ((IntKind.i64.wrap (r7*a1.size))*a1.size)).tdiv (16:Int)))))) (some (IntKind.i64.wrap ((1:Int)+(IntKind.i64.wrap (r2.tdiv (16:Int))))))))))
def jR {ρ:Type} (k:Nat) (p:Int× Int× Int× List av× List Shape) (v:Int× List Int) (next:(Int× List Int)->Option ρ) (x0:(List Int)->Option ρ):Option ρ:=
 cond (decide (v.1<(p.2.2.2.1.length:Int))) (cond (decide (0<=v.1/\v.1<(p.2.2.2.2.length:Int))) ((p.2.2.2.2[v.1.toNat]?).bind λe2=>(idx p.2.2.2.1 v.1).bind λe3=>(wu k e2 e3).bind λr4=>cond (Nat.ble (v.2.length+[r4].length) aU) (next (IntKind.i64.wrap (v.1+(1:Int)),v.2++[r4])) none) none) (x0 v.2)
def jS (k:Nat) (a0:Model):Option (List Int):=
 (jj k a0).bind λr1=>cond (!r1.2) (some ([]:List Int)) (iter (λu6 n6=>jR k (a0.inp.h,a0.inp.w,a0.inp.c,a0.aB,r1.1) u6 n6 (λy5=>some y5)) k ((0:Int),([]:List Int)))
def gI {ρ:Type} (k:Nat) (p:List Int) (v:Int× Int) (next:(Int× Int)->Option ρ) (x0:Int->Option ρ):Option ρ:=
 cond (decide (v.2<(p.length:Int))) (cond (decide (0<=v.2/\v.2<(p.length:Int))) ((p[v.2.toNat]?).bind λe2=>next (IntKind.i64.wrap (v.1+e2),IntKind.i64.wrap (v.2+(1:Int)))) none) (x0 v.1)
def oe (k:Nat) (a0:Model):Option (Int):=
 (jS k a0).bind λr1=>iter (λu4 n4=>gI k r1 u4 n4 (λy3=>some y3)) k ((0:Int),(0:Int))
def eS (k:Nat) (a0:av):Option (Bool):=
 cond (a0.size==(0:Int)) (some (a0.step==(0:Int))) (some false)
def gS (k:Nat) (a0:Int):Option (Bool):=
 (qt k a0 (-1000000:Int) (1000000:Int)).bind λr1=>some (!r1)
def aE {ρ:Type} (k:Nat) (p:List Int× Int) (v:Int) (next:Int->Option ρ) (x0:Unit->Option ρ) (xret:Int->Option ρ):Option ρ:=
 cond (decide (v<p.2)) ((idx p.1 v).bind λe1=>(gS k e1).bind λr2=>cond (r2) (xret v) (next (IntKind.i64.wrap (v+(1:Int))))) (x0 ())
def aW (k:Nat) (a0:List Int):Option (Int):=
 iter (λu5 n5=>aE k (a0,(a0.length:Int)) u5 n5 (λy3=>some (-1:Int)) (λy4=>some y4)) k (0:Int)
def aJ (k:Nat) (a0:List Int):Option (Bool):=
 (aW k a0).bind λr1=>some (decide (r1>=(0:Int)))
def fA (k:Nat) (a0:av) (a1:Int):Option (Bool):=
 (qt k a0.out (1:Int) (8:Int)).bind λr1=>cond (r1) ((qt k a0.mult (0:Int) (2147483647:Int)).bind λr2=>cond (r2) ((qt k a0.shift (0:Int) (31:Int)).bind λr3=>cond (r3) ((qt k a0.zero (-128:Int) (127:Int)).bind λr4=>cond (r4) (cond ((a0.weights.length:Int)==(IntKind.i64.wrap (a0.out*a1))) ((ni k a0.weights).bind λr5=>cond (r5) (cond ((a0.mT.length:Int)==a0.out) ((aJ k a0.mT).bind λr6=>some (!r6)) (some false)) (some false)) (some false)) (some false)) (some false)) (some false)) (some false)
def dZ (k:Nat) (a0:av) (a1:Shape):Option (Bool):=
 (qt k a0.size (1:Int) (if a1.w<(if a1.h<(3:Int)then a1.h else(3:Int))then a1.w else(if a1.h<(3:Int)then a1.h else(3:Int)))).bind λr1=>cond (r1) ((qt k a0.step (1:Int) (2:Int)).bind λr2=>some r2) (some false)
def eT (k:Nat) (a0:av) (a1:Shape) (a2:Int):Option (Shape):=
 cond (decide (a0.step=0)) none (cond (decide (a0.step=0)) none (some (⟨(IntKind.i64.wrap ((IntKind.i64.wrap ((IntKind.i64.wrap (a1.h-a0.size)).tdiv a0.step))+(1:Int))),(IntKind.i64.wrap ((IntKind.i64.wrap ((IntKind.i64.wrap (a1.w-a0.size)).tdiv a0.step))+(1:Int))),a2⟩:Shape)))
def eE (k:Nat) (a0:av):Option (Bool):=
 cond (a0.out==(0:Int)) (cond (a0.mult==(0:Int)) (cond (a0.shift==(0:Int)) (cond ((a0.weights.length:Int)==(0:Int)) (some ((a0.mT.length:Int)==(0:Int))) (some false)) (some false)) (some false)) (some false)
def la (k:Nat) (a0:Shape) (a1:av):Option (Shape× Bool):=
 (nh k a0).bind λr1=>cond (!r1) (some ((⟨(0:Int),(0:Int),(0:Int)⟩:Shape),false)) ((jv k a0).bind λr2=>cond (a1.kind==(0:Int)) (cond (decide (r2<=(64:Int))) ((eS k a1).bind λr3=>cond (r3) ((fA k a1 r2).bind λr4=>cond (r4) (some ((⟨(1:Int),(1:Int),a1.out⟩:Shape),true)) (some ((⟨(0:Int),(0:Int),(0:Int)⟩:Shape),false))) (some ((⟨(0:Int),(0:Int),(0:Int)⟩:Shape),false))) (some ((⟨(0:Int),(0:Int),(0:Int)⟩:Shape),false))) (cond (a1.kind==(1:Int)) ((dZ k a1 a0).bind λr5=>cond (r5) (cond (decide ((a1.weights.length:Int)<=(600:Int))) ((fA k a1 (IntKind.i64.wrap ((IntKind.i64.wrap (a1.size*a1.size))*a0.c))).bind λr6=>cond (r6) ((eT k a1 a0 a1.out).bind λr7=>some (r7,true)) (some ((⟨(0:Int),(0:Int),(0:Int)⟩:Shape),false))) (some ((⟨(0:Int),(0:Int),(0:Int)⟩:Shape),false))) (some ((⟨(0:Int),(0:Int),(0:Int)⟩:Shape),false))) (cond (a1.kind==(2:Int)) ((dZ k a1 a0).bind λr8=>cond (r8) ((eE k a1).bind λr9=>cond (r9) (cond (a1.zero==(0:Int)) ((eT k a1 a0 a0.c).bind λr10=>some (r10,true)) (some ((⟨(0:Int),(0:Int),(0:Int)⟩:Shape),false))) (some ((⟨(0:Int),(0:Int),(0:Int)⟩:Shape),false))) (some ((⟨(0:Int),(0:Int),(0:Int)⟩:Shape),false))) (cond (a1.kind==(3:Int)) ((dZ k a1 a0).bind λr11=>cond (r11) ((eE k a1).bind λr12=>cond (r12) (cond (a1.zero==(0:Int)) ((eT k a1 a0 a0.c).bind λr13=>some (r13,true)) (some ((⟨(0:Int),(0:Int),(0:Int)⟩:Shape),false))) (some ((⟨(0:Int),(0:Int),(0:Int)⟩:Shape),false))) (some ((⟨(0:Int),(0:Int),(0:Int)⟩:Shape),false))) (cond (a1.kind==(4:Int)) ((eS k a1).bind λr14=>cond (r14) ((eE k a1).bind λr15=>cond (r15) ((qt k a1.zero (-128:Int) (127:Int)).bind λr16=>cond (r16) (some (a0,true)) (some ((⟨(0:Int),(0:Int),(0:Int)⟩:Shape),false))) (some ((⟨(0:Int),(0:Int),(0:Int)⟩:Shape),false))) (some ((⟨(0:Int),(0:Int),(0:Int)⟩:Shape),false))) (cond (a1.kind==(5:Int)) ((eS k a1).bind λr17=>cond (r17) ((eE k a1).bind λr18=>cond (r18) (cond (a1.zero==(0:Int)) (cond (decide (r2<=(8:Int))) (some ((⟨(1:Int),(1:Int),r2⟩:Shape),true)) (some ((⟨(0:Int),(0:Int),(0:Int)⟩:Shape),false))) (some ((⟨(0:Int),(0:Int),(0:Int)⟩:Shape),false))) (some ((⟨(0:Int),(0:Int),(0:Int)⟩:Shape),false))) (some ((⟨(0:Int),(0:Int),(0:Int)⟩:Shape),false))) (some ((⟨(0:Int),(0:Int),(0:Int)⟩:Shape),false))))))))
def eU {ρ:Type} (k:Nat) (p:List av× Int) (v:Int× List Shape× Int× Int× Int) (next:(Int× List Shape× Int× Int× Int)->Option ρ) (x0:(List Shape)->Option ρ) (xret:Bool->Option ρ):Option ρ:=
 cond (decide (v.1<p.2)) ((idx p.1 v.1).bind λe1=>(la k (⟨v.2.2.1,v.2.2.2.1,v.2.2.2.2⟩:Shape) e1).bind λr2=>cond (!r2.2) (xret false) (cond (Nat.ble (v.2.1.length+[r2.1].length) aU) (next (IntKind.i64.wrap (v.1+(1:Int)),v.2.1++[r2.1],r2.1.h,r2.1.w,r2.1.c)) none)) (x0 v.2.1)
def gJ (k:Nat) (a0:Model):Option (List Shape× Bool):=
 iter (λu5 n5=>eU k (a0.aB,(a0.aB.length:Int)) u5 n5 (λy3=>some (y3,true)) (λy4=>some (([]:List Shape),y4))) k ((0:Int),[a0.inp],a0.inp.h,a0.inp.w,a0.inp.c)
def lC (k:Nat) (a0:Model):Option (Bool):=
 (qt k (a0.aB.length:Int) (1:Int) (6:Int)).bind λr1=>cond (!r1) (some false) ((gJ k a0).bind λr2=>some r2.2)
def nk (k:Nat) (a0:Model):Option (List Shape):=
 (lC k a0).bind λr1=>cond (!r1) (some ([]:List Shape)) ((gJ k a0).bind λr2=>some r2.1)
def wv (k:Nat) (a0:Shape) (a1:av):Option (Int):=
 (la k a0 a1).bind λr1=>cond (!r1.2) (some (0:Int)) ((jv k a0).bind λr2=>cond (a1.kind==(0:Int)) ((jv k r1.1).bind λr3=>some (IntKind.i64.wrap ((1:Int)+(IntKind.i64.wrap ((IntKind.i64.wrap (r2*r3)).tdiv (16:Int)))))) (cond (a1.kind==(1:Int)) ((jv k r1.1).bind λr4=>some (IntKind.i64.wrap ((1:Int)+(IntKind.i64.wrap ((IntKind.i64.wrap ((IntKind.i64.wrap ((IntKind.i64.wrap (r4*a1.size))*a1.size))*a0.c)).tdiv (16:Int)))))) (cond (a1.kind==(2:Int)) ((jv k r1.1).bind λr5=>some (IntKind.i64.wrap ((1:Int)+(IntKind.i64.wrap ((IntKind.i64.wrap ((IntKind.i64.wrap (r5*a1.size))*a1.size)).tdiv (16:Int)))))) (cond (a1.kind==(3:Int)) ((jv k r1.1).bind λr6=>some (IntKind.i64.wrap ((1:Int)+(IntKind.i64.wrap ((IntKind.i64.wrap ((IntKind.i64.wrap (r6*a1.size))*a1.size)).tdiv (16:Int)))))) (some (IntKind.i64.wrap ((1:Int)+(IntKind.i64.wrap (r2.tdiv (16:Int))))))))))
def jT {ρ:Type} (k:Nat) (p:Int× Int× Int× Int× List av× List Shape) (v:Int× List Int) (next:(Int× List Int)->Option ρ) (x0:(List Int)->Option ρ):Option ρ:=
 cond (decide (v.1<p.1)) (cond (decide (0<=v.1/\v.1<(p.2.2.2.2.2.length:Int))) ((p.2.2.2.2.2[v.1.toNat]?).bind λe2=>cond (decide (v.1<(p.2.2.2.2.1.length:Int))) ((idx p.2.2.2.2.1 v.1).bind λe3=>(wv k e2 e3).bind λr4=>cond (Nat.ble (v.2.length+[r4].length) aU) (next (IntKind.i64.wrap (v.1+(1:Int)),v.2++[r4])) none) (next (IntKind.i64.wrap (v.1+(1:Int)),v.2))) none) (x0 v.2)
def jU (k:Nat) (a0:Model):Option (List Int):=
 (nk k a0).bind λr1=>iter (λu6 n6=>jT k ((r1.length:Int),a0.inp.h,a0.inp.w,a0.inp.c,a0.aB,r1) u6 n6 (λy5=>some y5)) k ((0:Int),([]:List Int))
def sZ {ρ:Type} (k:Nat) (p:List Int× Int) (v:Int× Int) (next:(Int× Int)->Option ρ) (x0:Int->Option ρ):Option ρ:=
 cond (decide (v.2<p.2)) ((idx p.1 v.2).bind λe1=>next (IntKind.i64.wrap (v.1+e1),IntKind.i64.wrap (v.2+(1:Int)))) (x0 v.1)
def Ld (k:Nat) (a0:List Int):Option (Int):=
 iter (λu3 n3=>sZ k (a0,(a0.length:Int)) u3 n3 (λy2=>some y2)) k ((0:Int),(0:Int))
def oh (k:Nat) (a0:Model):Option (Int):=
 (jU k a0).bind λr1=>(Ld k r1).bind λr2=>some r2
end
end
set_option maxRecDepth 100000
section
noncomputable section
def s3 (k:Nat) (a0:av):Option (av):=
 (jM k a0.weights).bind λr1=>(jM k a0.mT).bind λr2=>some (⟨a0.kind,a0.out,a0.size,a0.step,a0.mult,a0.shift,a0.zero,r1,r2⟩:av)
def jx (k:Nat) (a0:av):Option (av):=
 (bS k a0.weights).bind λr1=>(bS k a0.mT).bind λr2=>some (⟨a0.kind,a0.out,a0.size,a0.step,a0.mult,a0.shift,a0.zero,r1,r2⟩:av)
def eV {ρ:Type} (k:Nat) (p:List av× Int) (v:Int× List av) (next:(Int× List av)->Option ρ) (x0:(List av)->Option ρ):Option ρ:=
 cond (decide (v.1<p.2)) ((idx p.1 v.1).bind λe1=>(jx k e1).bind λr2=>cond (Nat.ble (v.2.length+1) aU) (next (IntKind.i64.wrap (v.1+(1:Int)),v.2++[r2])) none) (x0 v.2)
def mN (k:Nat) (a0:List av):Option (List av):=
 iter (λu4 n4=>eV k (a0,(a0.length:Int)) u4 n4 (λy3=>some y3)) k ((0:Int),([]:List av))
def jV {ρ:Type} (k:Nat) (p:Int× Int× Int× List av× Int× Int× Int× Int× Int× Int) (v:Int× List av) (next:(Int× List av)->Option ρ) (x0:(List av)->Option ρ):Option ρ:=
 cond (decide (v.1<(p.2.2.2.1.length:Int))) ((idx p.2.2.2.1 v.1).bind λe1=>(s3 k e1).bind λr2=>cond (Nat.ble (v.2.length+1) aU) (next (IntKind.i64.wrap (v.1+(1:Int)),v.2++[r2])) none) (x0 v.2)
def pL (k:Nat) (a0:Model):Option (Model):=
 iter (λu4 n4=>jV k (a0.inp.h,a0.inp.w,a0.inp.c,a0.aB,(0:Int),(0:Int),(0:Int),a0.inp.h,a0.inp.w,a0.inp.c) u4 n4 (λy3=>some (⟨a0.inp,y3⟩:Model))) k ((0:Int),([]:List av))
def nm {ρ:Type} (k:Nat) (p:Int× Int× Int× List av× Int× Int× Int× Int× List Int× Int× List Int) (v:Int× Int) (next:(Int× Int)->Option ρ) (x0:Int->Option ρ):Option ρ:=
 cond (decide (v.2<p.2.2.2.2.1)) (cond (decide (0<=v.2/\v.2<(p.2.2.2.2.2.2.2.2.2.2.length:Int))) ((p.2.2.2.2.2.2.2.2.2.2[v.2.toNat]?).bind λe6=>next (IntKind.i64.wrap (v.1+e6),IntKind.i64.wrap (v.2+(1:Int)))) none) (x0 v.1)
def rP (k:Nat) (a0:Job):Option (Bool):=
 (jj k a0.model).bind λr1=>cond (!r1.2) (some false) ((bU k a0.at_ (0:Int) (a0.model.aB.length:Int)).bind λr2=>cond (!r2) (some false) ((k8 k a0.act).bind λr3=>cond (!r3) (some false) (cond (decide (0<=a0.at_/\a0.at_<(r1.1.length:Int))) ((r1.1[a0.at_.toNat]?).bind λe4=>cond (!(cond (a0.act.sh.h==e4.h) (cond (a0.act.sh.w==e4.w) (cond (a0.act.sh.c==e4.c) (true) false) false) false)) (some false) ((jS k a0.model).bind λr5=>iter (λu8 n8=>nm k (a0.model.inp.h,a0.model.inp.w,a0.model.inp.c,a0.model.aB,a0.at_,a0.act.sh.h,a0.act.sh.w,a0.act.sh.c,a0.act.data,a0.iR,r5) u8 n8 (λy7=>some (a0.iR==y7))) k ((0:Int),(0:Int)))) none)))
def qw (k:Nat) (a0:Model) (a1:aA):Option (Job× Bool):=
 (pL k a0).bind λr1=>(ng k a1).bind λr2=>(rP k (⟨r1,(0:Int),r2,(0:Int)⟩:Job)).bind λr3=>cond (!r3) (some ((⟨(⟨(⟨(0:Int),(0:Int),(0:Int)⟩:Shape),([]:List av)⟩:Model),(0:Int),(⟨(⟨(0:Int),(0:Int),(0:Int)⟩:Shape),([]:List Int)⟩:aA),(0:Int)⟩:Job),false)) (some ((⟨r1,(0:Int),r2,(0:Int)⟩:Job),true))
def xN (k:Nat) (a0:Job):Option (Bool):=
 (lC k a0.model).bind λr1=>cond (r1) ((qt k a0.at_ (0:Int) (a0.model.aB.length:Int)).bind λr2=>cond (r2) ((nj k a0.act).bind λr3=>cond (r3) ((nk k a0.model).bind λr4=>cond (decide (0<=a0.at_/\a0.at_<(r4.length:Int))) ((r4[a0.at_.toNat]?).bind λe5=>cond (cond (a0.act.sh.h==e5.h) (cond (a0.act.sh.w==e5.w) (cond (a0.act.sh.c==e5.c) (true) false) false) false) ((jU k a0.model).bind λr6=>cond (decide (0<=a0.at_/\a0.at_<=(r6.length:Int))) ((Ld k (((r6).drop 0).take (a0.at_.toNat-0))).bind λr7=>some (a0.iR==r7)) none) (some false)) none) (some false)) (some false)) (some false)
def gK (k:Nat) (a0:Model):Option (Model):=
 (mN k a0.aB).bind λr1=>some (⟨a0.inp,r1⟩:Model)
def l9 (k:Nat) (a0:Job):Option (Job):=
 (gK k a0.model).bind λr1=>(fR k a0.act).bind λr2=>some (⟨r1,a0.at_,r2,a0.iR⟩:Job)
def qx (k:Nat) (a0:Model) (a1:aA):Option (Job× Bool):=
 (xN k (⟨a0,(0:Int),a1,(0:Int)⟩:Job)).bind λr1=>cond (!r1) (some ((⟨(⟨(⟨(0:Int),(0:Int),(0:Int)⟩:Shape),([]:List av)⟩:Model),(0:Int),(⟨(⟨(0:Int),(0:Int),(0:Int)⟩:Shape),([]:List Int)⟩:aA),(0:Int)⟩:Job),false)) ((l9 k (⟨a0,(0:Int),a1,(0:Int)⟩:Job)).bind λr2=>some (r2,true))
end
end
set_option maxRecDepth 100000
section
noncomputable section
def s4 (k:Nat) (a0:Job):Option (Job):=
 (pL k a0.model).bind λr1=>(ng k a0.act).bind λr2=>some (⟨r1,a0.at_,r2,a0.iR⟩:Job)
def s5 (k:Nat) (a0:Job):Option (Bool):=
 (rP k a0).bind λr1=>cond (r1) (some (a0.at_==(a0.model.aB.length:Int))) (some false)
def np (k:Nat) (a0:Int) (a1:Int) (a2:Int):Option (Int):=
 cond (decide (a0<a1)) (some a1) (cond (decide (a1>a2)) (some a1) (cond (decide (a0>a2)) (some a2) (some a0)))
def xO (k:Nat) (a0:Int):Option (Int):=
 (np k a0 (-128:Int) (127:Int)).bind λr1=>some r1
def mO (k:Nat) (a0:Int):Option (Int):=
 (np k a0 (-2147483648:Int) (2147483647:Int)).bind λr1=>some r1
def ma (k:Nat) (a0:Int) (a1:Int):Option (Int):=
 (mO k a0).bind λr1=>(mO k a1).bind λr2=>(mO k (IntKind.i64.wrap (r1+r2))).bind λr3=>some r3
def qy {ρ:Type} (k:Nat) (p:List Int× List Int) (v:Int× Int) (next:(Int× Int)->Option ρ) (x0:Int->Option ρ):Option ρ:=
 cond (decide (v.2<(p.1.length:Int))) (cond (decide (v.2<(p.2.length:Int))) ((idx p.1 v.2).bind λe1=>(xO k e1).bind λr2=>(idx p.2 v.2).bind λe3=>(xO k e3).bind λr4=>(ma k v.1 (IntKind.i64.wrap (r2*r4))).bind λr5=>next (r5,IntKind.i64.wrap (v.2+(1:Int)))) (x0 v.1)) (x0 v.1)
def Ch (k:Nat) (a0:List Int) (a1:List Int):Option (Int):=
 iter (λu7 n7=>qy k (a0,a1) u7 n7 (λy6=>some y6)) k ((0:Int),(0:Int))
def s6 (k:Nat) (a0:Int) (a1:Int):Option (Int):=
 cond (decide (a1=0)) none (cond (decide (a1=0)) none (cond (decide ((a0.tmod a1)<(0:Int))) (some (IntKind.i64.wrap ((IntKind.i64.wrap (a0.tdiv a1))-(1:Int)))) (some (IntKind.i64.wrap (a0.tdiv a1)))))
def s7 (k:Nat) (a0:Int) (a1:Int):Option (Int):=
 (mO k a0).bind λr1=>(mO k a1).bind λr2=>(s6 k (IntKind.i64.wrap ((IntKind.i64.wrap (r1*r2))+(1073741824:Int))) (2147483648:Int)).bind λr3=>(mO k r3).bind λr4=>some r4
def mb (k:Nat) (a0:Int) (a1:Int):Option (Int):=
 (mO k a0).bind λr1=>(np k a1 (0:Int) (31:Int)).bind λr2=>cond (decide ((IntKind.u64.wrap (r2))<0)) none (cond (decide (r1<(0:Int))) (cond (decide ((IntKind.i64.wrap ((1:Int)*2^(min (IntKind.u64.wrap (r2)).toNat IntKind.i64.bits)))=0)) none (some (IntKind.i64.wrap (0-(IntKind.i64.wrap ((IntKind.i64.wrap ((IntKind.i64.wrap (0-r1))+(IntKind.i64.wrap ((IntKind.i64.wrap ((1:Int)*2^(min (IntKind.u64.wrap (r2)).toNat IntKind.i64.bits))).tdiv (2:Int))))).tdiv (IntKind.i64.wrap ((1:Int)*2^(min (IntKind.u64.wrap (r2)).toNat IntKind.i64.bits))))))))) (cond (decide ((IntKind.i64.wrap ((1:Int)*2^(min (IntKind.u64.wrap (r2)).toNat IntKind.i64.bits)))=0)) none (some (IntKind.i64.wrap ((IntKind.i64.wrap (r1+(IntKind.i64.wrap ((IntKind.i64.wrap ((1:Int)*2^(min (IntKind.u64.wrap (r2)).toNat IntKind.i64.bits))).tdiv (2:Int))))).tdiv (IntKind.i64.wrap ((1:Int)*2^(min (IntKind.u64.wrap (r2)).toNat IntKind.i64.bits))))))))
def nq (k:Nat) (a0:Int) (a1:Int) (a2:Int) (a3:Int):Option (Int):=
 (s7 k a0 a1).bind λr1=>(mb k r1 a2).bind λr2=>(xO k a3).bind λr3=>(xO k (IntKind.i64.wrap (r2+r3))).bind λr4=>some r4
def xP (k:Nat) (a0:Shape) (a1:Int) (a2:Int) (a3:Int):Option (Int):=
 (jN k a0).bind λr1=>cond (!r1) (some (-1:Int)) ((bU k a1 (0:Int) (IntKind.i64.wrap (a0.h-(1:Int)))).bind λr2=>cond (!r2) (some (-1:Int)) ((bU k a2 (0:Int) (IntKind.i64.wrap (a0.w-(1:Int)))).bind λr3=>cond (!r3) (some (-1:Int)) ((bU k a3 (0:Int) (IntKind.i64.wrap (a0.c-(1:Int)))).bind λr4=>cond (!r4) (some (-1:Int)) (some (IntKind.i64.wrap ((IntKind.i64.wrap ((IntKind.i64.wrap ((IntKind.i64.wrap (a1*a0.w))+a2))*a0.c))+a3))))))
def om (k:Nat) (a0:aA) (a1:Int) (a2:Int) (a3:Int):Option (Int× Bool):=
 (xP k a0.sh a1 a2 a3).bind λr1=>(k8 k a0).bind λr2=>cond (!r2) (some ((0:Int),false)) (cond (decide (r1<(0:Int))) (some ((0:Int),false)) ((idx a0.data r1).bind λe3=>some (e3,true)))
def md {ρ:Type} (k:Nat) (p:Int× Int× Int× Int× Int× Int× Int× List Int× Int× Int× Int× Int× Int× Int× Int× List Int× List Int) (v:Int× List Int) (next:(Int× List Int)->Option ρ) (x2:(List Int)->Option ρ):Option ρ:=
 cond (decide (v.1<p.2.2.2.2.2.2.2.2.2.2.1)) ((om k (⟨(⟨p.2.2.2.2.1,p.2.2.2.2.2.1,p.2.2.2.2.2.2.1⟩:Shape),p.2.2.2.2.2.2.2.1⟩:aA) (IntKind.i64.wrap ((IntKind.i64.wrap (p.1*p.2.2.2.2.2.2.2.2.2.2.2.1))+p.2.2.2.1)) (IntKind.i64.wrap ((IntKind.i64.wrap (p.2.1*p.2.2.2.2.2.2.2.2.2.2.2.1))+v.1)) p.2.2.1).bind λr1=>cond (Nat.ble (v.2.length+[r1.1].length) aU) (next (IntKind.i64.wrap (v.1+(1:Int)),v.2++[r1.1])) none) (x2 v.2)
def mf {ρ:Type} (k:Nat) (p:Int× Int× Int× Int× Int× Int× List Int× Int× Int× Int× Int× Int× Int× Int× List Int× List Int) (v:Int× List Int) (next:(Int× List Int)->Option ρ) (x0:(List Int)->Option ρ):Option ρ:=
 cond (decide (v.1<p.2.2.2.2.2.2.2.2.2.1)) (iter (λu3 n3=>md k (p.1,p.2.1,p.2.2.1,v.1,p.2.2.2.1,p.2.2.2.2.1,p.2.2.2.2.2.1,p.2.2.2.2.2.2.1,p.2.2.2.2.2.2.2.1,p.2.2.2.2.2.2.2.2.1,p.2.2.2.2.2.2.2.2.2.1,p.2.2.2.2.2.2.2.2.2.2.1,p.2.2.2.2.2.2.2.2.2.2.2.1,p.2.2.2.2.2.2.2.2.2.2.2.2.1,p.2.2.2.2.2.2.2.2.2.2.2.2.2.1,p.2.2.2.2.2.2.2.2.2.2.2.2.2.2.1,p.2.2.2.2.2.2.2.2.2.2.2.2.2.2.2) u3 n3 (λy2=>next (IntKind.i64.wrap (v.1+(1:Int)),y2))) k ((0:Int),v.2)) (x0 v.2)
def lD (k:Nat) (a0:aA) (a1:av) (a2:Int) (a3:Int) (a4:Int):Option (List Int):=
 iter (λu5 n5=>mf k (a2,a3,a4,a0.sh.h,a0.sh.w,a0.sh.c,a0.data,a1.kind,a1.out,a1.size,a1.step,a1.mult,a1.shift,a1.zero,a1.weights,a1.mT) u5 n5 (λy4=>some y4)) k ((0:Int),([]:List Int))
def mg {ρ:Type} (k:Nat) (p:Int× Int× Int× Int× Int× Int× Int× Int× List Int× Int× Int× Int× Int× Int× Int× Int× List Int× List Int× Int× Int× Int) (v:Int× Int) (next:(Int× Int)->Option ρ) (x5:Int->Option ρ):Option ρ:=
 cond (decide (v.2<p.2.2.2.2.2.2.2.2.2.2.2.2.2.2.2.2.2.2.2.2)) ((om k (⟨(⟨p.2.2.2.2.2.1,p.2.2.2.2.2.2.1,p.2.2.2.2.2.2.2.1⟩:Shape),p.2.2.2.2.2.2.2.2.1⟩:aA) (IntKind.i64.wrap ((IntKind.i64.wrap (p.1*p.2.2.2.2.2.2.2.2.2.2.2.2.1))+p.2.2.2.1)) (IntKind.i64.wrap ((IntKind.i64.wrap (p.2.1*p.2.2.2.2.2.2.2.2.2.2.2.2.1))+p.2.2.2.2.1)) v.2).bind λr6=>(idx p.2.2.2.2.2.2.2.2.2.2.2.2.2.2.2.2.1 (IntKind.i64.wrap ((IntKind.i64.wrap ((IntKind.i64.wrap ((IntKind.i64.wrap ((IntKind.i64.wrap ((IntKind.i64.wrap (p.2.2.1*p.2.2.2.2.2.2.2.2.2.2.2.1))+p.2.2.2.1))*p.2.2.2.2.2.2.2.2.2.2.2.1))+p.2.2.2.2.1))*p.2.2.2.2.2.2.2.2.2.2.2.2.2.2.2.2.2.2.2.2))+v.2))).bind λe7=>(ma k v.1 (IntKind.i64.wrap (r6.1*e7))).bind λr8=>next (r8,IntKind.i64.wrap (v.2+(1:Int)))) (x5 v.1)
def mi {ρ:Type} (k:Nat) (p:Int× Int× Int× Int× Int× Int× Int× List Int× Int× Int× Int× Int× Int× Int× Int× List Int× List Int× Int× Int× Int) (v:Int× Int) (next:(Int× Int)->Option ρ) (x3:Int->Option ρ):Option ρ:=
 cond (decide (v.2<p.2.2.2.2.2.2.2.2.2.2.1)) (iter (λu10 n10=>mg k (p.1,p.2.1,p.2.2.1,p.2.2.2.1,v.2,p.2.2.2.2.1,p.2.2.2.2.2.1,p.2.2.2.2.2.2.1,p.2.2.2.2.2.2.2.1,p.2.2.2.2.2.2.2.2.1,p.2.2.2.2.2.2.2.2.2.1,p.2.2.2.2.2.2.2.2.2.2.1,p.2.2.2.2.2.2.2.2.2.2.2.1,p.2.2.2.2.2.2.2.2.2.2.2.2.1,p.2.2.2.2.2.2.2.2.2.2.2.2.2.1,p.2.2.2.2.2.2.2.2.2.2.2.2.2.2.1,p.2.2.2.2.2.2.2.2.2.2.2.2.2.2.2.1,p.2.2.2.2.2.2.2.2.2.2.2.2.2.2.2.2.1,p.2.2.2.2.2.2.2.2.2.2.2.2.2.2.2.2.2.1,p.2.2.2.2.2.2.2.2.2.2.2.2.2.2.2.2.2.2.1,p.2.2.2.2.2.2.2.2.2.2.2.2.2.2.2.2.2.2.2) u10 n10 (λy9=>next (y9,IntKind.i64.wrap (v.2+(1:Int))))) k (v.1,(0:Int))) (x3 v.1)
def mj {ρ:Type} (k:Nat) (p:Int× Int× Int× Int× Int× Int× List Int× Int× Int× Int× Int× Int× Int× Int× List Int× List Int× Int× Int× Int) (v:Int× Int) (next:(Int× Int)->Option ρ) (x1:Int->Option ρ):Option ρ:=
 cond (decide (v.2<p.2.2.2.2.2.2.2.2.2.1)) (iter (λu12 n12=>mi k (p.1,p.2.1,p.2.2.1,v.2,p.2.2.2.1,p.2.2.2.2.1,p.2.2.2.2.2.1,p.2.2.2.2.2.2.1,p.2.2.2.2.2.2.2.1,p.2.2.2.2.2.2.2.2.1,p.2.2.2.2.2.2.2.2.2.1,p.2.2.2.2.2.2.2.2.2.2.1,p.2.2.2.2.2.2.2.2.2.2.2.1,p.2.2.2.2.2.2.2.2.2.2.2.2.1,p.2.2.2.2.2.2.2.2.2.2.2.2.2.1,p.2.2.2.2.2.2.2.2.2.2.2.2.2.2.1,p.2.2.2.2.2.2.2.2.2.2.2.2.2.2.2.1,p.2.2.2.2.2.2.2.2.2.2.2.2.2.2.2.2.1,p.2.2.2.2.2.2.2.2.2.2.2.2.2.2.2.2.2.1,p.2.2.2.2.2.2.2.2.2.2.2.2.2.2.2.2.2.2) u12 n12 (λy11=>next (y11,IntKind.i64.wrap (v.2+(1:Int))))) k (v.1,(0:Int))) (x1 v.1)
def mm {ρ:Type} (k:Nat) (p:List Int) (v:Int× Int) (next:(Int× Int)->Option ρ) (x7:Int->Option ρ):Option ρ:=
 cond (decide (v.2<(p.length:Int))) (cond (decide (0<=v.2/\v.2<(p.length:Int))) ((p[v.2.toNat]?).bind λe20=>cond (decide (e20>v.1)) (cond (decide (0<=v.2/\v.2<(p.length:Int))) ((p[v.2.toNat]?).bind λe21=>next (e21,IntKind.i64.wrap (v.2+(1:Int)))) none) (next (v.1,IntKind.i64.wrap (v.2+(1:Int))))) none) (x7 v.1)
def mn {ρ:Type} (k:Nat) (p:List Int) (v:Int× Int) (next:(Int× Int)->Option ρ) (x9:Int->Option ρ):Option ρ:=
 cond (decide (v.2<(p.length:Int))) (cond (decide (0<=v.2/\v.2<(p.length:Int))) ((p[v.2.toNat]?).bind λe25=>next (IntKind.i64.wrap (v.1+e25),IntKind.i64.wrap (v.2+(1:Int)))) none) (x9 v.1)
def s8 (k:Nat) (a0:aA) (a1:av) (a2:Int) (a3:Int) (a4:Int):Option (Int):=
 cond (a1.kind==(0:Int)) ((dD k a0.sh).bind λr1=>cond (decide (0<=(IntKind.i64.wrap ((IntKind.i64.wrap (a4*r1))+r1))/\(IntKind.i64.wrap ((IntKind.i64.wrap (a4*r1))+r1))<=(a1.weights.length:Int))) (cond (decide (0<=(IntKind.i64.wrap (a4*r1))/\(IntKind.i64.wrap (a4*r1))<=((IntKind.i64.wrap ((IntKind.i64.wrap (a4*r1))+r1)).toNat:Int))) ((Ch k a0.data ((a1.weights.take ((IntKind.i64.wrap ((IntKind.i64.wrap (a4*r1))+r1)).toNat)).drop ((IntKind.i64.wrap (a4*r1)).toNat))).bind λr2=>(idx a1.mT a4).bind λe3=>(ma k r2 e3).bind λr4=>(nq k r4 a1.mult a1.shift a1.zero).bind λr5=>some r5) none) none) (cond (a1.kind==(1:Int)) (iter (λu17 n17=>mj k (a2,a3,a4,a0.sh.h,a0.sh.w,a0.sh.c,a0.data,a1.kind,a1.out,a1.size,a1.step,a1.mult,a1.shift,a1.zero,a1.weights,a1.mT,a0.sh.h,a0.sh.w,a0.sh.c) u17 n17 (λy13=>(idx a1.mT a4).bind λe14=>(ma k y13 e14).bind λr15=>(nq k r15 a1.mult a1.shift a1.zero).bind λr16=>some r16)) k ((0:Int),(0:Int))) (cond (a1.kind==(2:Int)) ((lD k a0 a1 a2 a3 a4).bind λr18=>cond (decide (0<=(0:Int)/\(0:Int)<(r18.length:Int))) ((r18[(0:Int).toNat]?).bind λe19=>iter (λu23 n23=>mm k r18 u23 n23 (λy22=>some y22)) k (e19,(1:Int))) none) (cond (a1.kind==(3:Int)) ((lD k a0 a1 a2 a3 a4).bind λr24=>iter (λu27 n27=>mn k r24 u27 n27 (λy26=>cond (decide (y26<(0:Int))) (cond (decide ((IntKind.i64.wrap ((2:Int)*(r24.length:Int)))=0)) none (some (IntKind.i64.wrap (0-(IntKind.i64.wrap ((IntKind.i64.wrap ((IntKind.i64.wrap ((-2:Int)*y26))+(r24.length:Int))).tdiv (IntKind.i64.wrap ((2:Int)*(r24.length:Int))))))))) (cond (decide ((IntKind.i64.wrap ((2:Int)*(r24.length:Int)))=0)) none (some (IntKind.i64.wrap ((IntKind.i64.wrap ((IntKind.i64.wrap ((2:Int)*y26))+(r24.length:Int))).tdiv (IntKind.i64.wrap ((2:Int)*(r24.length:Int))))))))) k ((0:Int),(0:Int))) (cond (a1.kind==(4:Int)) ((om k a0 a2 a3 a4).bind λr28=>cond (decide (r28.1<a1.zero)) (some a1.zero) (some r28.1)) ((idx a0.data a4).bind λe29=>some e29)))))
def kB {ρ:Type} (k:Nat) (p:Int× Int× Int× Int× Int× List Int× Int× Int× Int× Int× Int× Int× Int× List Int× List Int× Int× Int× Int× Int× Int× Int× Int× Int× Int) (v:Int× List Int) (next:(Int× List Int)->Option ρ) (x4:(List Int)->Option ρ):Option ρ:=
 cond (decide (v.1<p.2.2.2.2.2.2.2.2.2.2.2.2.2.2.2.2.2.2.2.2.1)) ((s8 k (⟨(⟨p.2.2.1,p.2.2.2.1,p.2.2.2.2.1⟩:Shape),p.2.2.2.2.2.1⟩:aA) (⟨p.2.2.2.2.2.2.1,p.2.2.2.2.2.2.2.1,p.2.2.2.2.2.2.2.2.1,p.2.2.2.2.2.2.2.2.2.1,p.2.2.2.2.2.2.2.2.2.2.1,p.2.2.2.2.2.2.2.2.2.2.2.1,p.2.2.2.2.2.2.2.2.2.2.2.2.1,p.2.2.2.2.2.2.2.2.2.2.2.2.2.1,p.2.2.2.2.2.2.2.2.2.2.2.2.2.2.1⟩:av) p.1 p.2.1 v.1).bind λr3=>cond (Nat.ble (v.2.length+[r3].length) aU) (next (IntKind.i64.wrap (v.1+(1:Int)),v.2++[r3])) none) (x4 v.2)
def kC {ρ:Type} (k:Nat) (p:Int× Int× Int× Int× List Int× Int× Int× Int× Int× Int× Int× Int× List Int× List Int× Int× Int× Int× Int× Int× Int× Int× Int× Int) (v:Int× List Int) (next:(Int× List Int)->Option ρ) (x2:(List Int)->Option ρ):Option ρ:=
 cond (decide (v.1<p.2.2.2.2.2.2.2.2.2.2.2.2.2.2.2.2.2.2.1)) (iter (λu5 n5=>kB k (p.1,v.1,p.2.1,p.2.2.1,p.2.2.2.1,p.2.2.2.2.1,p.2.2.2.2.2.1,p.2.2.2.2.2.2.1,p.2.2.2.2.2.2.2.1,p.2.2.2.2.2.2.2.2.1,p.2.2.2.2.2.2.2.2.2.1,p.2.2.2.2.2.2.2.2.2.2.1,p.2.2.2.2.2.2.2.2.2.2.2.1,p.2.2.2.2.2.2.2.2.2.2.2.2.1,p.2.2.2.2.2.2.2.2.2.2.2.2.2.1,p.2.2.2.2.2.2.2.2.2.2.2.2.2.2.1,p.2.2.2.2.2.2.2.2.2.2.2.2.2.2.2.1,p.2.2.2.2.2.2.2.2.2.2.2.2.2.2.2.2.1,p.2.2.2.2.2.2.2.2.2.2.2.2.2.2.2.2.2.1,p.2.2.2.2.2.2.2.2.2.2.2.2.2.2.2.2.2.2.1,p.2.2.2.2.2.2.2.2.2.2.2.2.2.2.2.2.2.2.2.1,p.2.2.2.2.2.2.2.2.2.2.2.2.2.2.2.2.2.2.2.2.1,p.2.2.2.2.2.2.2.2.2.2.2.2.2.2.2.2.2.2.2.2.2.1,p.2.2.2.2.2.2.2.2.2.2.2.2.2.2.2.2.2.2.2.2.2.2) u5 n5 (λy4=>next (IntKind.i64.wrap (v.1+(1:Int)),y4))) k ((0:Int),v.2)) (x2 v.2)
def kD {ρ:Type} (k:Nat) (p:Int× Int× Int× List Int× Int× Int× Int× Int× Int× Int× Int× List Int× List Int× Int× Int× Int× Int× Int× Int× Int× Int× Int) (v:Int× List Int) (next:(Int× List Int)->Option ρ) (x0:(List Int)->Option ρ):Option ρ:=
 cond (decide (v.1<p.2.2.2.2.2.2.2.2.2.2.2.2.2.2.2.2.1)) (iter (λu7 n7=>kC k (v.1,p.1,p.2.1,p.2.2.1,p.2.2.2.1,p.2.2.2.2.1,p.2.2.2.2.2.1,p.2.2.2.2.2.2.1,p.2.2.2.2.2.2.2.1,p.2.2.2.2.2.2.2.2.1,p.2.2.2.2.2.2.2.2.2.1,p.2.2.2.2.2.2.2.2.2.2.1,p.2.2.2.2.2.2.2.2.2.2.2.1,p.2.2.2.2.2.2.2.2.2.2.2.2.1,p.2.2.2.2.2.2.2.2.2.2.2.2.2.1,p.2.2.2.2.2.2.2.2.2.2.2.2.2.2.1,p.2.2.2.2.2.2.2.2.2.2.2.2.2.2.2.1,p.2.2.2.2.2.2.2.2.2.2.2.2.2.2.2.2.1,p.2.2.2.2.2.2.2.2.2.2.2.2.2.2.2.2.2.1,p.2.2.2.2.2.2.2.2.2.2.2.2.2.2.2.2.2.2.1,p.2.2.2.2.2.2.2.2.2.2.2.2.2.2.2.2.2.2.2.1,p.2.2.2.2.2.2.2.2.2.2.2.2.2.2.2.2.2.2.2.2.1,p.2.2.2.2.2.2.2.2.2.2.2.2.2.2.2.2.2.2.2.2.2) u7 n7 (λy6=>next (IntKind.i64.wrap (v.1+(1:Int)),y6))) k ((0:Int),v.2)) (x0 v.2)
def qz (k:Nat) (a0:aA) (a1:av):Option (aA× Bool):=
 (k8 k a0).bind λr1=>cond (!r1) (some ((⟨(⟨(0:Int),(0:Int),(0:Int)⟩:Shape),([]:List Int)⟩:aA),false)) ((k9 k a0.sh a1).bind λr2=>cond (!r2.2) (some ((⟨(⟨(0:Int),(0:Int),(0:Int)⟩:Shape),([]:List Int)⟩:aA),false)) (iter (λu9 n9=>kD k (a0.sh.h,a0.sh.w,a0.sh.c,a0.data,a1.kind,a1.out,a1.size,a1.step,a1.mult,a1.shift,a1.zero,a1.weights,a1.mT,(0:Int),(0:Int),(0:Int),r2.1.h,r2.1.w,r2.1.c,r2.1.h,r2.1.w,r2.1.c) u9 n9 (λy8=>some ((⟨r2.1,y8⟩:aA),true))) k ((0:Int),([]:List Int))))
def lE {ρ:Type} (k:Nat) (p:List Int) (v:Int× List Int) (next:(Int× List Int)->Option ρ) (x0:(List Int)->Option ρ):Option ρ:=
 cond (decide (v.1<(p.length:Int))) (cond (decide (0<=v.1/\v.1<(p.length:Int))) ((p[v.1.toNat]?).bind λe3=>cond (Nat.ble (v.2.length+[e3].length) aU) (next (IntKind.i64.wrap (v.1+(1:Int)),v.2++[e3])) none) none) (x0 v.2)
def wx (k:Nat) (a0:Job):Option (List Int):=
 (rP k a0).bind λr1=>cond (!r1) (some ([]:List Int)) ((jS k a0.model).bind λr2=>iter (λu5 n5=>lE k r2 u5 n5 (λy4=>some y4)) k (a0.at_,([]:List Int)))
def qA (k:Nat) (a0:Job):Option (Int):=
 (wx k a0).bind λr1=>cond ((r1.length:Int)==(0:Int)) (some (0:Int)) (cond (decide (0<=(0:Int)/\(0:Int)<(r1.length:Int))) ((r1[(0:Int).toNat]?).bind λe2=>some e2) none)
def s9 (k:Nat) (a0:Job):Option (Job× Bool):=
 (s4 k a0).bind λr1=>(rP k a0).bind λr2=>cond (!r2) (some (r1,false)) ((s5 k a0).bind λr3=>cond (r3) (some (r1,false)) ((idx a0.model.aB a0.at_).bind λe4=>(qz k a0.act e4).bind λr5=>(qA k a0).bind λr6=>some ((⟨r1.model,(IntKind.i64.wrap (a0.at_+(1:Int))),r5.1,(IntKind.i64.wrap (a0.iR+r6))⟩:Job),true)))
def wy (k:Nat) (a0:Job):Option (List Int):=
 (xN k a0).bind λr1=>cond (!r1) (some ([]:List Int)) ((jU k a0.model).bind λr2=>cond (decide (0<=a0.at_/\a0.at_<=(r2.length:Int))) (some (((r2).drop a0.at_.toNat).take (r2.length-a0.at_.toNat))) none)
def qB (k:Nat) (a0:Job):Option (Int):=
 (wy k a0).bind λr1=>cond ((r1.length:Int)==(0:Int)) (some (0:Int)) ((idx r1 (0:Int)).bind λe2=>some e2)
def I5 (k:Nat) (a0:Int) (a1:Int) (a2:Int):Option (Int):=
 some (if(if a2<a0 then a2 else a0)>a1 then(if a2<a0 then a2 else a0)else a1)
def xQ (k:Nat) (a0:Int):Option (Int):=
 (I5 k a0 (-128:Int) (127:Int)).bind λr1=>some r1
def mP (k:Nat) (a0:Int):Option (Int):=
 (I5 k a0 (-2147483648:Int) (2147483647:Int)).bind λr1=>some r1
def ta (k:Nat) (a0:Int) (a1:Int):Option (Int):=
 (mP k a0).bind λr1=>(mP k a1).bind λr2=>(mP k (IntKind.i64.wrap (r1+r2))).bind λr3=>some r3
def qC {ρ:Type} (k:Nat) (p:List Int× List Int× Int) (v:Int× Int) (next:(Int× Int)->Option ρ) (x0:Int->Option ρ):Option ρ:=
 cond (decide (v.2<p.2.2)) ((idx p.1 v.2).bind λe1=>(xQ k e1).bind λr2=>(idx p.2.1 v.2).bind λe3=>(xQ k e3).bind λr4=>(ta k v.1 (IntKind.i64.wrap (r2*r4))).bind λr5=>next (r5,IntKind.i64.wrap (v.2+(1:Int)))) (x0 v.1)
def Ci (k:Nat) (a0:List Int) (a1:List Int):Option (Int):=
 iter (λu7 n7=>qC k (a0,a1,if(a1.length:Int)<(a0.length:Int)then(a1.length:Int)else(a0.length:Int)) u7 n7 (λy6=>some y6)) k ((0:Int),(0:Int))
def tb (k:Nat) (a0:Int) (a1:Int):Option (Int):=
 (mP k a0).bind λr1=>(mP k a1).bind λr2=>(mP k ((IntKind.i64.wrap ((IntKind.i64.wrap (r1*r2))+(1073741824:Int))).fdiv (2^(min (31:Int).toNat IntKind.i64.bits)))).bind λr3=>some r3
def oo (k:Nat) (a0:Int) (a1:Int):Option (Int):=
 cond (decide (a0<(0:Int))) (none) (cond (decide ((IntKind.i64.wrap ((2:Int)*a1))=0)) none (some (IntKind.i64.wrap ((IntKind.i64.wrap ((IntKind.i64.wrap ((2:Int)*a0))+a1)).tdiv (IntKind.i64.wrap ((2:Int)*a1))))))
def nr (k:Nat) (a0:Int) (a1:Int):Option (Int):=
 cond (decide (a0<(0:Int))) ((oo k (IntKind.i64.wrap (0-a0)) a1).bind λr1=>some (IntKind.i64.wrap (0-r1))) (cond (decide ((IntKind.i64.wrap ((2:Int)*a1))=0)) none (some (IntKind.i64.wrap ((IntKind.i64.wrap ((IntKind.i64.wrap ((2:Int)*a0))+a1)).tdiv (IntKind.i64.wrap ((2:Int)*a1))))))
def mo (k:Nat) (a0:Int) (a1:Int):Option (Int):=
 (mP k a0).bind λr1=>(I5 k a1 (0:Int) (31:Int)).bind λr2=>cond (decide (r2<0)) none ((nr k r1 (IntKind.i64.wrap ((1:Int)*2^(min r2.toNat IntKind.i64.bits)))).bind λr3=>some r3)
def tc (k:Nat) (a0:Int) (a1:Int) (a2:Int) (a3:Int):Option (Int):=
 (tb k a0 a1).bind λr1=>(mo k r1 a2).bind λr2=>(xQ k a3).bind λr3=>(xQ k (IntKind.i64.wrap (r2+r3))).bind λr4=>some r4
def fH (k:Nat) (a0:av) (a1:List Int) (a2:Int):Option (Int):=
 cond (decide (0<=(IntKind.i64.wrap ((IntKind.i64.wrap (a2+(1:Int)))*(a1.length:Int)))/\(IntKind.i64.wrap ((IntKind.i64.wrap (a2+(1:Int)))*(a1.length:Int)))<=(a0.weights.length:Int))) (cond (decide (0<=(IntKind.i64.wrap (a2*(a1.length:Int)))/\(IntKind.i64.wrap (a2*(a1.length:Int)))<=((IntKind.i64.wrap ((IntKind.i64.wrap (a2+(1:Int)))*(a1.length:Int))).toNat:Int))) ((Ci k a1 ((a0.weights.take ((IntKind.i64.wrap ((IntKind.i64.wrap (a2+(1:Int)))*(a1.length:Int))).toNat)).drop ((IntKind.i64.wrap (a2*(a1.length:Int))).toNat))).bind λr1=>(idx a0.mT a2).bind λe2=>(ta k r1 e2).bind λr3=>(tc k r3 a0.mult a0.shift a0.zero).bind λr4=>some r4) none) none
def iB (k:Nat) (a0:Shape) (a1:Int) (a2:Int) (a3:Int):Option (Int):=
 some (IntKind.i64.wrap ((IntKind.i64.wrap ((IntKind.i64.wrap ((IntKind.i64.wrap (a1*a0.w))+a2))*a0.c))+a3))
def dJ {ρ:Type} (k:Nat) (p:Int× Int× Int× Int× Int× Int× Int× Int× Int× Int× Int× Int× Int× Int× List Int× List Int× Int× Int× Int× List Int) (v:Int× List Int) (next:(Int× List Int)->Option ρ) (x2:(List Int)->Option ρ):Option ρ:=
 cond (decide (v.1<p.2.2.2.2.2.2.1)) ((iB k (⟨p.2.2.2.2.2.2.2.2.2.2.2.2.2.2.2.2.1,p.2.2.2.2.2.2.2.2.2.2.2.2.2.2.2.2.2.1,p.2.2.2.2.2.2.2.2.2.2.2.2.2.2.2.2.2.2.1⟩:Shape) (IntKind.i64.wrap ((IntKind.i64.wrap (p.1*p.2.2.2.2.2.2.2.2.2.2.1))+p.2.2.2.1)) (IntKind.i64.wrap ((IntKind.i64.wrap (p.2.1*p.2.2.2.2.2.2.2.2.2.2.1))+v.1)) (0:Int)).bind λr1=>cond (decide (p.2.2.1<(0:Int))) (cond (decide (0<=(IntKind.i64.wrap (r1+p.2.2.2.2.2.2.2.2.2.2.2.2.2.2.2.2.2.2.1))/\(IntKind.i64.wrap (r1+p.2.2.2.2.2.2.2.2.2.2.2.2.2.2.2.2.2.2.1))<=(p.2.2.2.2.2.2.2.2.2.2.2.2.2.2.2.2.2.2.2.length:Int))) (cond (decide (0<=r1/\r1<=((IntKind.i64.wrap (r1+p.2.2.2.2.2.2.2.2.2.2.2.2.2.2.2.2.2.2.1)).toNat:Int))) (cond (Nat.ble (v.2.length+((p.2.2.2.2.2.2.2.2.2.2.2.2.2.2.2.2.2.2.2.take ((IntKind.i64.wrap (r1+p.2.2.2.2.2.2.2.2.2.2.2.2.2.2.2.2.2.2.1)).toNat)).drop r1.toNat).length) aU) (next (IntKind.i64.wrap (v.1+(1:Int)),v.2++((p.2.2.2.2.2.2.2.2.2.2.2.2.2.2.2.2.2.2.2.take ((IntKind.i64.wrap (r1+p.2.2.2.2.2.2.2.2.2.2.2.2.2.2.2.2.2.2.1)).toNat)).drop r1.toNat))) none) none) none) ((idx p.2.2.2.2.2.2.2.2.2.2.2.2.2.2.2.2.2.2.2 (IntKind.i64.wrap (r1+p.2.2.1))).bind λe2=>cond (Nat.ble (v.2.length+[e2].length) aU) (next (IntKind.i64.wrap (v.1+(1:Int)),v.2++[e2])) none)) (x2 v.2)
def dK {ρ:Type} (k:Nat) (p:Int× Int× Int× Int× Int× Int× Int× Int× Int× Int× Int× List Int× List Int× Int× Int× Int× List Int) (v:Int× List Int) (next:(Int× List Int)->Option ρ) (x0:(List Int)->Option ρ):Option ρ:=
 cond (decide (v.1<p.2.2.2.1)) (iter (λu4 n4=>dJ k (p.1,p.2.1,p.2.2.1,v.1,p.2.2.2.1,v.1,p.2.2.2.2.2.2.1,p.2.2.2.2.1,p.2.2.2.2.2.1,p.2.2.2.2.2.2.1,p.2.2.2.2.2.2.2.1,p.2.2.2.2.2.2.2.2.1,p.2.2.2.2.2.2.2.2.2.1,p.2.2.2.2.2.2.2.2.2.2.1,p.2.2.2.2.2.2.2.2.2.2.2.1,p.2.2.2.2.2.2.2.2.2.2.2.2.1,p.2.2.2.2.2.2.2.2.2.2.2.2.2.1,p.2.2.2.2.2.2.2.2.2.2.2.2.2.2.1,p.2.2.2.2.2.2.2.2.2.2.2.2.2.2.2.1,p.2.2.2.2.2.2.2.2.2.2.2.2.2.2.2.2) u4 n4 (λy3=>next (IntKind.i64.wrap (v.1+(1:Int)),y3))) k ((0:Int),v.2)) (x0 v.2)
def cE (k:Nat) (a0:av) (a1:aA) (a2:Int) (a3:Int) (a4:Int):Option (List Int):=
 iter (λu6 n6=>dK k (a2,a3,a4,a0.size,a0.kind,a0.out,a0.size,a0.step,a0.mult,a0.shift,a0.zero,a0.weights,a0.mT,a1.sh.h,a1.sh.w,a1.sh.c,a1.data) u6 n6 (λy5=>some y5)) k ((0:Int),([]:List Int))
def dW {ρ:Type} (k:Nat) (p:List Int) (v:Int× Int) (next:(Int× Int)->Option ρ) (x0:Int->Option ρ):Option ρ:=
 cond (decide (v.2<(p.length:Int))) ((idx p v.2).bind λe2=>next (if e2>v.1 then e2 else v.1,IntKind.i64.wrap (v.2+(1:Int)))) (x0 v.1)
def fm (k:Nat) (a0:List Int):Option (Int):=
 cond (decide ((a0.length:Int)<(1:Int))) (none) ((idx a0 (0:Int)).bind λe1=>iter (λu4 n4=>dW k a0 u4 n4 (λy3=>some y3)) k (e1,(1:Int)))
def iC {ρ:Type} (k:Nat) (p:Int× Int× Int× Int× Int× Int× Int× Int× List Int× List Int× List Int) (v:Int× Int) (next:(Int× Int)->Option ρ) (x1:Int->Option ρ):Option ρ:=
 cond (decide (v.2<p.1)) (cond (decide (0<=v.2/\v.2<(p.2.2.2.2.2.2.2.2.2.2.length:Int))) ((p.2.2.2.2.2.2.2.2.2.2[v.2.toNat]?).bind λe7=>next (IntKind.i64.wrap (v.1+e7),IntKind.i64.wrap (v.2+(1:Int)))) none) (x1 v.1)
def mq (k:Nat) (a0:av) (a1:aA) (a2:Int) (a3:Int) (a4:Int):Option (Int):=
 cond (a0.kind==(0:Int)) ((fH k a0 a1.data a4).bind λr1=>some r1) (cond (a0.kind==(1:Int)) ((cE k a0 a1 a2 a3 (-1:Int)).bind λr2=>(fH k a0 r2 a4).bind λr3=>some r3) (cond (a0.kind==(2:Int)) ((cE k a0 a1 a2 a3 a4).bind λr4=>(fm k r4).bind λr5=>some r5) (cond (a0.kind==(3:Int)) ((cE k a0 a1 a2 a3 a4).bind λr6=>iter (λu10 n10=>iC k ((r6.length:Int),a0.kind,a0.out,a0.size,a0.step,a0.mult,a0.shift,a0.zero,a0.weights,a0.mT,r6) u10 n10 (λy8=>(nr k y8 (IntKind.i64.wrap (a0.size*a0.size))).bind λr9=>some r9)) k ((0:Int),(0:Int))) (cond (a0.kind==(4:Int)) ((iB k a1.sh a2 a3 a4).bind λr11=>(idx a1.data r11).bind λe12=>some (if a0.zero>e12 then a0.zero else e12)) ((idx a1.data a4).bind λe13=>some e13)))))
def kE {ρ:Type} (k:Nat) (p:Int× Int× Int× Int× Int× Int× Int× Int× Int× Int× List Int× Int× Int× Int× Int× Int× Int× Int× List Int× List Int× Int× Int× Int× Int× Int× Int× Int× Int× Int) (v:Int× List Int) (next:(Int× List Int)->Option ρ) (x4:(List Int)->Option ρ):Option ρ:=
 cond (decide (v.1<p.2.2.2.2.2.2.1)) ((mq k (⟨p.2.2.2.2.2.2.2.2.2.2.2.1,p.2.2.2.2.2.2.2.2.2.2.2.2.1,p.2.2.2.2.2.2.2.2.2.2.2.2.2.1,p.2.2.2.2.2.2.2.2.2.2.2.2.2.2.1,p.2.2.2.2.2.2.2.2.2.2.2.2.2.2.2.1,p.2.2.2.2.2.2.2.2.2.2.2.2.2.2.2.2.1,p.2.2.2.2.2.2.2.2.2.2.2.2.2.2.2.2.2.1,p.2.2.2.2.2.2.2.2.2.2.2.2.2.2.2.2.2.2.1,p.2.2.2.2.2.2.2.2.2.2.2.2.2.2.2.2.2.2.2.1⟩:av) (⟨(⟨p.2.2.2.2.2.2.2.1,p.2.2.2.2.2.2.2.2.1,p.2.2.2.2.2.2.2.2.2.1⟩:Shape),p.2.2.2.2.2.2.2.2.2.2.1⟩:aA) p.1 p.2.1 v.1).bind λr3=>cond (Nat.ble (v.2.length+[r3].length) aU) (next (IntKind.i64.wrap (v.1+(1:Int)),v.2++[r3])) none) (x4 v.2)
def kF {ρ:Type} (k:Nat) (p:Int× Int× Int× Int× Int× Int× Int× List Int× Int× Int× Int× Int× Int× Int× Int× List Int× List Int× Int× Int× Int× Int× Int× Int× Int× Int× Int) (v:Int× List Int) (next:(Int× List Int)->Option ρ) (x2:(List Int)->Option ρ):Option ρ:=
 cond (decide (v.1<p.2.2.2.1)) (iter (λu5 n5=>kE k (p.1,v.1,p.2.1,p.2.2.1,p.2.2.2.1,v.1,p.2.2.2.2.2.2.2.2.2.2.2.2.2.2.2.2.2.2.2.2.2.2.1,p.2.2.2.2.1,p.2.2.2.2.2.1,p.2.2.2.2.2.2.1,p.2.2.2.2.2.2.2.1,p.2.2.2.2.2.2.2.2.1,p.2.2.2.2.2.2.2.2.2.1,p.2.2.2.2.2.2.2.2.2.2.1,p.2.2.2.2.2.2.2.2.2.2.2.1,p.2.2.2.2.2.2.2.2.2.2.2.2.1,p.2.2.2.2.2.2.2.2.2.2.2.2.2.1,p.2.2.2.2.2.2.2.2.2.2.2.2.2.2.1,p.2.2.2.2.2.2.2.2.2.2.2.2.2.2.2.1,p.2.2.2.2.2.2.2.2.2.2.2.2.2.2.2.2.1,p.2.2.2.2.2.2.2.2.2.2.2.2.2.2.2.2.2.1,p.2.2.2.2.2.2.2.2.2.2.2.2.2.2.2.2.2.2.1,p.2.2.2.2.2.2.2.2.2.2.2.2.2.2.2.2.2.2.2.1,p.2.2.2.2.2.2.2.2.2.2.2.2.2.2.2.2.2.2.2.2.1,p.2.2.2.2.2.2.2.2.2.2.2.2.2.2.2.2.2.2.2.2.2.1,p.2.2.2.2.2.2.2.2.2.2.2.2.2.2.2.2.2.2.2.2.2.2.1,p.2.2.2.2.2.2.2.2.2.2.2.2.2.2.2.2.2.2.2.2.2.2.2.1,p.2.2.2.2.2.2.2.2.2.2.2.2.2.2.2.2.2.2.2.2.2.2.2.2.1,p.2.2.2.2.2.2.2.2.2.2.2.2.2.2.2.2.2.2.2.2.2.2.2.2.2) u5 n5 (λy4=>next (IntKind.i64.wrap (v.1+(1:Int)),y4))) k ((0:Int),v.2)) (x2 v.2)
def kG {ρ:Type} (k:Nat) (p:Int× Int× Int× Int× List Int× Int× Int× Int× Int× Int× Int× Int× List Int× List Int× Int× Int× Int× Int× Int× Int× Int× Int× Int) (v:Int× List Int) (next:(Int× List Int)->Option ρ) (x0:(List Int)->Option ρ):Option ρ:=
 cond (decide (v.1<p.1)) (iter (λu7 n7=>kF k (v.1,p.1,v.1,p.2.2.2.2.2.2.2.2.2.2.2.2.2.2.2.2.2.2.1,p.2.1,p.2.2.1,p.2.2.2.1,p.2.2.2.2.1,p.2.2.2.2.2.1,p.2.2.2.2.2.2.1,p.2.2.2.2.2.2.2.1,p.2.2.2.2.2.2.2.2.1,p.2.2.2.2.2.2.2.2.2.1,p.2.2.2.2.2.2.2.2.2.2.1,p.2.2.2.2.2.2.2.2.2.2.2.1,p.2.2.2.2.2.2.2.2.2.2.2.2.1,p.2.2.2.2.2.2.2.2.2.2.2.2.2.1,p.2.2.2.2.2.2.2.2.2.2.2.2.2.2.1,p.2.2.2.2.2.2.2.2.2.2.2.2.2.2.2.1,p.2.2.2.2.2.2.2.2.2.2.2.2.2.2.2.2.1,p.2.2.2.2.2.2.2.2.2.2.2.2.2.2.2.2.2.1,p.2.2.2.2.2.2.2.2.2.2.2.2.2.2.2.2.2.2.1,p.2.2.2.2.2.2.2.2.2.2.2.2.2.2.2.2.2.2.2.1,p.2.2.2.2.2.2.2.2.2.2.2.2.2.2.2.2.2.2.2.2.1,p.2.2.2.2.2.2.2.2.2.2.2.2.2.2.2.2.2.2.2.2.2.1,p.2.2.2.2.2.2.2.2.2.2.2.2.2.2.2.2.2.2.2.2.2.2) u7 n7 (λy6=>next (IntKind.i64.wrap (v.1+(1:Int)),y6))) k ((0:Int),v.2)) (x0 v.2)
def qD (k:Nat) (a0:aA) (a1:av):Option (aA× Bool):=
 (la k a0.sh a1).bind λr1=>cond (!r1.2) (some ((⟨(⟨(0:Int),(0:Int),(0:Int)⟩:Shape),([]:List Int)⟩:aA),false)) ((nj k a0).bind λr2=>cond (!r2) (some ((⟨(⟨(0:Int),(0:Int),(0:Int)⟩:Shape),([]:List Int)⟩:aA),false)) (iter (λu9 n9=>kG k (r1.1.h,a0.sh.h,a0.sh.w,a0.sh.c,a0.data,a1.kind,a1.out,a1.size,a1.step,a1.mult,a1.shift,a1.zero,a1.weights,a1.mT,(0:Int),(0:Int),(0:Int),r1.1.h,r1.1.w,r1.1.c,r1.1.h,r1.1.w,r1.1.c) u9 n9 (λy8=>some ((⟨r1.1,y8⟩:aA),true))) k ((0:Int),([]:List Int))))
end
end
set_option maxRecDepth 100000
set_option maxHeartbeats 4000000
section
noncomputable section
end
end
set_option maxRecDepth 100000
section
noncomputable section
def oq (k:Nat) (a0:Int):Option (Bool):=
 (qt k a0 (-1099511627776:Int) (1099511627775:Int)).bind λr1=>some r1
def gn {ρ:Type} (k:Nat) (p:List Int× Int) (v:Int× Int) (next:(Int× Int)->Option ρ) (x0:Unit->Option ρ) (xret:(Int× Int)->Option ρ):Option ρ:=
 cond (decide (v.2<(6:Int))) (cond (decide (p.2<(0:Int))) (xret ((0:Int),(-1:Int))) (cond (decide (p.2>=(IntKind.i64.wrap ((p.1.length:Int)-v.2)))) (xret ((0:Int),(-1:Int))) ((idx p.1 (IntKind.i64.wrap (p.2+v.2))).bind λe1=>cond (decide ((IntKind.u64.wrap (IntKind.i64.wrap ((7:Int)*v.2)))<0)) none (cond (decide ((IntKind.i64.wrap (e1))<(128:Int))) (cond ((IntKind.i64.wrap (e1))==(0:Int)) (cond (decide (v.2>(0:Int))) (xret ((0:Int),(-1:Int))) (cond (decide ((IntKind.i64.wrap (v.1+(IntKind.i64.wrap (((IntKind.i64.wrap (e1)).tmod (128:Int))*2^(min (IntKind.u64.wrap (IntKind.i64.wrap ((7:Int)*v.2))).toNat IntKind.i64.bits)))))>(2199023255551:Int))) (xret ((0:Int),(-1:Int))) (cond (((IntKind.i64.wrap (v.1+(IntKind.i64.wrap (((IntKind.i64.wrap (e1)).tmod (128:Int))*2^(min (IntKind.u64.wrap (IntKind.i64.wrap ((7:Int)*v.2))).toNat IntKind.i64.bits))))).tmod (2:Int))==(1:Int)) (xret (IntKind.i64.wrap ((IntKind.i64.wrap (0-(IntKind.i64.wrap ((IntKind.i64.wrap (v.1+(IntKind.i64.wrap (((IntKind.i64.wrap (e1)).tmod (128:Int))*2^(min (IntKind.u64.wrap (IntKind.i64.wrap ((7:Int)*v.2))).toNat IntKind.i64.bits)))))+(1:Int))))).tdiv (2:Int)),IntKind.i64.wrap ((IntKind.i64.wrap (p.2+v.2))+(1:Int)))) (xret (IntKind.i64.wrap ((IntKind.i64.wrap (v.1+(IntKind.i64.wrap (((IntKind.i64.wrap (e1)).tmod (128:Int))*2^(min (IntKind.u64.wrap (IntKind.i64.wrap ((7:Int)*v.2))).toNat IntKind.i64.bits))))).tdiv (2:Int)),IntKind.i64.wrap ((IntKind.i64.wrap (p.2+v.2))+(1:Int))))))) (cond (decide ((IntKind.i64.wrap (v.1+(IntKind.i64.wrap (((IntKind.i64.wrap (e1)).tmod (128:Int))*2^(min (IntKind.u64.wrap (IntKind.i64.wrap ((7:Int)*v.2))).toNat IntKind.i64.bits)))))>(2199023255551:Int))) (xret ((0:Int),(-1:Int))) (cond (((IntKind.i64.wrap (v.1+(IntKind.i64.wrap (((IntKind.i64.wrap (e1)).tmod (128:Int))*2^(min (IntKind.u64.wrap (IntKind.i64.wrap ((7:Int)*v.2))).toNat IntKind.i64.bits))))).tmod (2:Int))==(1:Int)) (xret (IntKind.i64.wrap ((IntKind.i64.wrap (0-(IntKind.i64.wrap ((IntKind.i64.wrap (v.1+(IntKind.i64.wrap (((IntKind.i64.wrap (e1)).tmod (128:Int))*2^(min (IntKind.u64.wrap (IntKind.i64.wrap ((7:Int)*v.2))).toNat IntKind.i64.bits)))))+(1:Int))))).tdiv (2:Int)),IntKind.i64.wrap ((IntKind.i64.wrap (p.2+v.2))+(1:Int)))) (xret (IntKind.i64.wrap ((IntKind.i64.wrap (v.1+(IntKind.i64.wrap (((IntKind.i64.wrap (e1)).tmod (128:Int))*2^(min (IntKind.u64.wrap (IntKind.i64.wrap ((7:Int)*v.2))).toNat IntKind.i64.bits))))).tdiv (2:Int)),IntKind.i64.wrap ((IntKind.i64.wrap (p.2+v.2))+(1:Int))))))) (next (IntKind.i64.wrap (v.1+(IntKind.i64.wrap (((IntKind.i64.wrap (e1)).tmod (128:Int))*2^(min (IntKind.u64.wrap (IntKind.i64.wrap ((7:Int)*v.2))).toNat IntKind.i64.bits)))),IntKind.i64.wrap (v.2+(1:Int)))))))) (x0 ())
def qE (k:Nat) (a0:List Int) (a1:Int):Option (Int× Int):=
 iter (λu4 n4=>gn k (a0,a1) u4 n4 (λy2=>some ((0:Int),(-1:Int))) (λy3=>some (y3.1,y3.2))) k ((0:Int),(0:Int))
def cC (k:Nat) (a0_0:List Int) (a0_1:Int) (a0_2:Bool):Option (Int× Int× Bool):=
 cond (a0_2) (cond (decide (a0_0=a0_0)) (some ((0:Int),a0_1,a0_2)) none) ((qE k a0_0 a0_1).bind λr1=>cond (decide (r1.2<(0:Int))) (cond (decide (a0_0=a0_0)) (some ((0:Int),a0_1,true)) none) (cond (decide (a0_0=a0_0)) (some (r1.1,r1.2,a0_2)) none))
def iD {ρ:Type} (k:Nat) (p:Int× List Int× Int) (v:Int× Int) (next:(Int× Int)->Option ρ) (x0:Unit->Option ρ) (xret:(Int× Int)->Option ρ):Option ρ:=
 cond (decide (v.2<p.2.2)) ((idx p.2.1 v.2).bind λe2=>cond (decide ((IntKind.i64.wrap ((7:Int)*v.2))<0)) none (cond (decide (e2>=(128:Int))) (next (IntKind.i64.wrap (((BitVec.ofInt IntKind.i64.bits v.1||| BitVec.ofInt IntKind.i64.bits (IntKind.i64.wrap ((IntKind.i64.wrap (IntKind.u8.wrap (((BitVec.ofInt IntKind.u8.bits e2&&& BitVec.ofInt IntKind.u8.bits (127:Int)).toNat:Int))))*2^(min (IntKind.i64.wrap ((7:Int)*v.2)).toNat IntKind.i64.bits)))).toNat:Int)),IntKind.i64.wrap (v.2+(1:Int)))) (cond (((IntKind.i64.wrap (((BitVec.ofInt IntKind.i64.bits v.1||| BitVec.ofInt IntKind.i64.bits (IntKind.i64.wrap ((IntKind.i64.wrap (IntKind.u8.wrap (((BitVec.ofInt IntKind.u8.bits e2&&& BitVec.ofInt IntKind.u8.bits (127:Int)).toNat:Int))))*2^(min (IntKind.i64.wrap ((7:Int)*v.2)).toNat IntKind.i64.bits)))).toNat:Int))).tmod (2:Int))==(1:Int)) (cond (decide (v.2>(0:Int))) (cond (e2==(0:Int)) (x0 ()) ((oq k (IntKind.i64.wrap ((IntKind.i64.wrap (0-(IntKind.i64.wrap ((IntKind.i64.wrap (((BitVec.ofInt IntKind.i64.bits v.1||| BitVec.ofInt IntKind.i64.bits (IntKind.i64.wrap ((IntKind.i64.wrap (IntKind.u8.wrap (((BitVec.ofInt IntKind.u8.bits e2&&& BitVec.ofInt IntKind.u8.bits (127:Int)).toNat:Int))))*2^(min (IntKind.i64.wrap ((7:Int)*v.2)).toNat IntKind.i64.bits)))).toNat:Int))).tdiv (2:Int)))))-(1:Int)))).bind λr3=>cond (!r3) (x0 ()) (xret (IntKind.i64.wrap ((IntKind.i64.wrap (0-(IntKind.i64.wrap ((IntKind.i64.wrap (((BitVec.ofInt IntKind.i64.bits v.1||| BitVec.ofInt IntKind.i64.bits (IntKind.i64.wrap ((IntKind.i64.wrap (IntKind.u8.wrap (((BitVec.ofInt IntKind.u8.bits e2&&& BitVec.ofInt IntKind.u8.bits (127:Int)).toNat:Int))))*2^(min (IntKind.i64.wrap ((7:Int)*v.2)).toNat IntKind.i64.bits)))).toNat:Int))).tdiv (2:Int)))))-(1:Int)),IntKind.i64.wrap ((IntKind.i64.wrap (p.1+v.2))+(1:Int)))))) ((oq k (IntKind.i64.wrap ((IntKind.i64.wrap (0-(IntKind.i64.wrap ((IntKind.i64.wrap (((BitVec.ofInt IntKind.i64.bits v.1||| BitVec.ofInt IntKind.i64.bits (IntKind.i64.wrap ((IntKind.i64.wrap (IntKind.u8.wrap (((BitVec.ofInt IntKind.u8.bits e2&&& BitVec.ofInt IntKind.u8.bits (127:Int)).toNat:Int))))*2^(min (IntKind.i64.wrap ((7:Int)*v.2)).toNat IntKind.i64.bits)))).toNat:Int))).tdiv (2:Int)))))-(1:Int)))).bind λr4=>cond (!r4) (x0 ()) (xret (IntKind.i64.wrap ((IntKind.i64.wrap (0-(IntKind.i64.wrap ((IntKind.i64.wrap (((BitVec.ofInt IntKind.i64.bits v.1||| BitVec.ofInt IntKind.i64.bits (IntKind.i64.wrap ((IntKind.i64.wrap (IntKind.u8.wrap (((BitVec.ofInt IntKind.u8.bits e2&&& BitVec.ofInt IntKind.u8.bits (127:Int)).toNat:Int))))*2^(min (IntKind.i64.wrap ((7:Int)*v.2)).toNat IntKind.i64.bits)))).toNat:Int))).tdiv (2:Int)))))-(1:Int)),IntKind.i64.wrap ((IntKind.i64.wrap (p.1+v.2))+(1:Int)))))) (cond (decide (v.2>(0:Int))) (cond (e2==(0:Int)) (x0 ()) ((oq k (IntKind.i64.wrap ((IntKind.i64.wrap (((BitVec.ofInt IntKind.i64.bits v.1||| BitVec.ofInt IntKind.i64.bits (IntKind.i64.wrap ((IntKind.i64.wrap (IntKind.u8.wrap (((BitVec.ofInt IntKind.u8.bits e2&&& BitVec.ofInt IntKind.u8.bits (127:Int)).toNat:Int))))*2^(min (IntKind.i64.wrap ((7:Int)*v.2)).toNat IntKind.i64.bits)))).toNat:Int))).tdiv (2:Int)))).bind λr5=>cond (!r5) (x0 ()) (xret (IntKind.i64.wrap ((IntKind.i64.wrap (((BitVec.ofInt IntKind.i64.bits v.1||| BitVec.ofInt IntKind.i64.bits (IntKind.i64.wrap ((IntKind.i64.wrap (IntKind.u8.wrap (((BitVec.ofInt IntKind.u8.bits e2&&& BitVec.ofInt IntKind.u8.bits (127:Int)).toNat:Int))))*2^(min (IntKind.i64.wrap ((7:Int)*v.2)).toNat IntKind.i64.bits)))).toNat:Int))).tdiv (2:Int)),IntKind.i64.wrap ((IntKind.i64.wrap (p.1+v.2))+(1:Int)))))) ((oq k (IntKind.i64.wrap ((IntKind.i64.wrap (((BitVec.ofInt IntKind.i64.bits v.1||| BitVec.ofInt IntKind.i64.bits (IntKind.i64.wrap ((IntKind.i64.wrap (IntKind.u8.wrap (((BitVec.ofInt IntKind.u8.bits e2&&& BitVec.ofInt IntKind.u8.bits (127:Int)).toNat:Int))))*2^(min (IntKind.i64.wrap ((7:Int)*v.2)).toNat IntKind.i64.bits)))).toNat:Int))).tdiv (2:Int)))).bind λr6=>cond (!r6) (x0 ()) (xret (IntKind.i64.wrap ((IntKind.i64.wrap (((BitVec.ofInt IntKind.i64.bits v.1||| BitVec.ofInt IntKind.i64.bits (IntKind.i64.wrap ((IntKind.i64.wrap (IntKind.u8.wrap (((BitVec.ofInt IntKind.u8.bits e2&&& BitVec.ofInt IntKind.u8.bits (127:Int)).toNat:Int))))*2^(min (IntKind.i64.wrap ((7:Int)*v.2)).toNat IntKind.i64.bits)))).toNat:Int))).tdiv (2:Int)),IntKind.i64.wrap ((IntKind.i64.wrap (p.1+v.2))+(1:Int))))))))) (x0 ())
def qF (k:Nat) (a0:List Int) (a1:Int):Option (Int× Int):=
 (qt k a1 (0:Int) (IntKind.i64.wrap ((a0.length:Int)-(1:Int)))).bind λr1=>cond (!r1) (some ((0:Int),(-1:Int))) (cond (decide (0<=(if(IntKind.i64.wrap (a1+(6:Int)))<(a0.length:Int)then(IntKind.i64.wrap (a1+(6:Int)))else(a0.length:Int))/\(if(IntKind.i64.wrap (a1+(6:Int)))<(a0.length:Int)then(IntKind.i64.wrap (a1+(6:Int)))else(a0.length:Int))<=(a0.length:Int))) (cond (decide (0<=a1/\a1<=((if(IntKind.i64.wrap (a1+(6:Int)))<(a0.length:Int)then(IntKind.i64.wrap (a1+(6:Int)))else(a0.length:Int)).toNat:Int))) (iter (λu9 n9=>iD k (a1,(a0.take ((if(IntKind.i64.wrap (a1+(6:Int)))<(a0.length:Int)then(IntKind.i64.wrap (a1+(6:Int)))else(a0.length:Int)).toNat)).drop a1.toNat,(((a0.take ((if(IntKind.i64.wrap (a1+(6:Int)))<(a0.length:Int)then(IntKind.i64.wrap (a1+(6:Int)))else(a0.length:Int)).toNat)).drop a1.toNat).length:Int)) u9 n9 (λy7=>some ((0:Int),(-1:Int))) (λy8=>some (y8.1,y8.2))) k ((0:Int),(0:Int))) none) none)
def aC (k:Nat) (a0:Reader):Option (Int× Int× Bool):=
 cond (a0.bad) (cond (decide (a0.b=a0.b)) (some ((0:Int),a0.at_,a0.bad)) none) ((qF k a0.b a0.at_).bind λr1=>cond (decide (r1.2<(0:Int))) (cond (decide (a0.b=a0.b)) (some ((0:Int),a0.at_,true)) none) (cond (decide (a0.b=a0.b)) (some (r1.1,r1.2,a0.bad)) none))
def dq (k:Nat) (a0:Reader) (a1:Int):Option (Int× Int× Bool):=
 (aC k a0).bind λr1=>(qt k r1.1 (0:Int) a1).bind λr2=>cond (!r2) (cond (decide (a0.b=a0.b)) (some ((0:Int),r1.2.1,true)) none) (cond (decide (a0.b=a0.b)) (some (r1.1,r1.2.1,r1.2.2)) none)
def ep (k:Nat) (a0:Reader):Option (Shape× Int× Bool):=
 (aC k a0).bind λr1=>(aC k (⟨a0.b,r1.2.1,r1.2.2⟩:Reader)).bind λr2=>(aC k (⟨a0.b,r2.2.1,r2.2.2⟩:Reader)).bind λr3=>cond (decide (a0.b=a0.b)) (some ((⟨r1.1,r2.1,r3.1⟩:Shape),r3.2.1,r3.2.2)) none
def bV {ρ:Type} (k:Nat) (p:List Int) (v:Int× Int× Bool× List Int) (next:(Int× Int× Bool× List Int)->Option ρ) (x0:(List Int× Int× Bool)->Option ρ):Option ρ:=
 cond (decide (v.1>(0:Int))) (cond (!v.2.2.1) ((aC k (⟨p,v.2.1,v.2.2.1⟩:Reader)).bind λr2=>cond (Nat.ble (v.2.2.2.length+[r2.1].length) aU) (next (IntKind.i64.wrap (v.1-(1:Int)),r2.2.1,r2.2.2,v.2.2.2++[r2.1])) none) (x0 (v.2.2.2,v.2.1,v.2.2.1))) (x0 (v.2.2.2,v.2.1,v.2.2.1))
def dC (k:Nat) (a0:Reader) (a1:Int):Option (List Int× Int× Bool):=
 (dq k a0 a1).bind λr1=>iter (λu4 n4=>bV k a0.b u4 n4 (λy3=>cond (decide (a0.b=a0.b)) (some (y3.1,y3.2.1,y3.2.2)) none)) k (r1.1,r1.2.1,r1.2.2,([]:List Int))
def ns {ρ:Type} (k:Nat) (p:List Int) (v:Int× Int) (next:(Int× Int)->Option ρ) (x0:Int->Option ρ):Option ρ:=
 cond (decide (v.2<(p.length:Int))) ((idx p v.2).bind λe1=>next ((IntKind.i64.wrap ((IntKind.i64.wrap ((IntKind.i64.wrap ((257:Int)*v.1))+(IntKind.i64.wrap (e1))))+(1:Int))).tmod (1000003:Int),IntKind.i64.wrap (v.2+(1:Int)))) (x0 v.1)
def Cj (k:Nat) (a0:List Int):Option (Int):=
 iter (λu3 n3=>ns k a0 u3 n3 (λy2=>some y2)) k ((1:Int),(0:Int))
def nt {ρ:Type} (k:Nat) (p:List Int× Int) (v:Int× Int) (next:(Int× Int)->Option ρ) (x0:Int->Option ρ):Option ρ:=
 cond (decide (v.2<p.2)) ((idx p.1 v.2).bind λe1=>next ((IntKind.i64.wrap ((IntKind.i64.wrap ((IntKind.i64.wrap (v.1*(257:Int)))+(IntKind.i64.wrap (e1))))+(1:Int))).tmod (1000003:Int),IntKind.i64.wrap (v.2+(1:Int)))) (x0 v.1)
def xR (k:Nat) (a0:List Int):Option (Int):=
 iter (λu3 n3=>nt k (a0,(a0.length:Int)) u3 n3 (λy2=>some y2)) k ((1:Int),(0:Int))
def iE (k:Nat) (a0:List Int) (a1:List Int):Option (Bool):=
 cond (decide ((a0.length:Int)>=(a1.length:Int))) (cond (decide (0<=(a1.length:Int)/\(a1.length:Int)<=(a0.length:Int))) ((od k ((a0.take ((a1.length:Int).toNat)).drop 0) a1).bind λr1=>some r1) none) (some false)
end
end
set_option maxRecDepth 100000
section
noncomputable section
def jW {ρ:Type} (k:Nat) (p:Int× Int× Int× List Task× Int× Int× Int× Int× Int× Int× Int× Int× Int× Int× Int× Int× Int× Int× Int× Int× Int× Int) (v:Int× List Task) (next:(Int× List Task)->Option ρ) (x0:(List Task)->Option ρ):Option ρ:=
 cond (decide (v.1<(p.2.2.2.1.length:Int))) ((idx p.2.2.2.1 v.1).bind λe1=>(jM k e1.ar).bind λr2=>cond (Nat.ble (v.2.length+1) aU) (next (IntKind.i64.wrap (v.1+(1:Int)),v.2++[(⟨e1.id,r2,e1.at_,e1.due,e1.born⟩:Task)])) none) (x0 v.2)
def lF (k:Nat) (a0:aj):Option (aj):=
 iter (λu4 n4=>jW k (a0.now,a0.ag,a0.age,a0.tasks,a0.run,a0.left,a0.turns,a0.next,(0:Int),(0:Int),(0:Int),(0:Int),(0:Int),(0:Int),(0:Int),a0.now,a0.ag,a0.age,a0.run,a0.left,a0.turns,a0.next) u4 n4 (λy3=>some (⟨a0.now,a0.ag,a0.age,y3,a0.run,a0.left,a0.turns,a0.next⟩:aj))) k ((0:Int),([]:List Task))
def jX (k:Nat) (a0:Int):Option (Bool):=
 (bU k a0 (0:Int) (1000000:Int)).bind λr1=>some r1
def ot {ρ:Type} (k:Nat) (p:Int× List Int× Int× Int× Int) (v:Int) (next:Int->Option ρ) (x0:Unit->Option ρ) (xret:Bool->Option ρ):Option ρ:=
 cond (decide (v<(p.2.1.length:Int))) ((idx p.2.1 v).bind λe6=>(bU k e6 (1:Int) (1000:Int)).bind λr7=>cond (!r7) (xret false) (next (IntKind.i64.wrap (v+(1:Int))))) (x0 ())
def tf (k:Nat) (a0:Task):Option (Bool):=
 (bU k a0.id (1:Int) (1000000:Int)).bind λr1=>cond (!r1) (some false) ((bU k (a0.ar.length:Int) (1:Int) (6:Int)).bind λr2=>cond (!r2) (some false) ((bU k a0.at_ (0:Int) (IntKind.i64.wrap ((a0.ar.length:Int)-(1:Int)))).bind λr3=>cond (!r3) (some false) ((jX k a0.due).bind λr4=>cond (!r4) (some false) ((jX k a0.born).bind λr5=>cond (!r5) (some false) (iter (λu10 n10=>ot k (a0.id,a0.ar,a0.at_,a0.due,a0.born) u10 n10 (λy8=>some true) (λy9=>some y9)) k (0:Int))))))
def qG {ρ:Type} (k:Nat) (p:Int× Int× Int× Int× List Task× Int× Int× Int× Int) (v:Int) (next:Int->Option ρ) (x0:Unit->Option ρ) (xret:Int->Option ρ):Option ρ:=
 cond (decide (v<(p.2.2.2.2.1.length:Int))) ((idx p.2.2.2.2.1 v).bind λe1=>cond (e1.id==p.1) (xret v) (next (IntKind.i64.wrap (v+(1:Int))))) (x0 ())
def kt (k:Nat) (a0:aj) (a1:Int):Option (Int):=
 iter (λu4 n4=>qG k (a1,a0.now,a0.ag,a0.age,a0.tasks,a0.run,a0.left,a0.turns,a0.next) u4 n4 (λy2=>some (-1:Int)) (λy3=>some y3)) k (0:Int)
def mr {ρ:Type} (k:Nat) (p:Int× Int× Int× List Task× Int× Int× Int× Int) (v:Int) (next:Int->Option ρ) (x0:Unit->Option ρ) (xret:Bool->Option ρ):Option ρ:=
 cond (decide (v<(p.2.2.2.1.length:Int))) ((idx p.2.2.2.1 v).bind λe6=>(tf k e6).bind λr7=>cond (!r7) (xret false) (cond (decide (e6.id>=p.2.2.2.2.2.2.2)) (xret false) (cond (decide (e6.born>p.1)) (xret false) (cond (decide (v>(0:Int))) ((idx p.2.2.2.1 (IntKind.i64.wrap (v-(1:Int)))).bind λe8=>cond (decide (e8.id>=e6.id)) (xret false) (next (IntKind.i64.wrap (v+(1:Int))))) (next (IntKind.i64.wrap (v+(1:Int)))))))) (x0 ())
def eW (k:Nat) (a0:aj):Option (Bool):=
 (jX k a0.now).bind λr1=>cond (!r1) (some false) ((bU k a0.ag (0:Int) (1000:Int)).bind λr2=>cond (!r2) (some false) ((bU k a0.age (0:Int) (20:Int)).bind λr3=>cond (!r3) (some false) (cond (decide ((a0.tasks.length:Int)>(12:Int))) (some false) ((jX k a0.turns).bind λr4=>cond (!r4) (some false) ((bU k a0.next (1:Int) (1000000:Int)).bind λr5=>cond (!r5) (some false) (iter (λu16 n16=>mr k (a0.now,a0.ag,a0.age,a0.tasks,a0.run,a0.left,a0.turns,a0.next) u16 n16 (λy9=>cond (a0.run==(0:Int)) (some (a0.left==(0:Int))) ((kt k a0 a0.run).bind λr10=>cond (decide (r10>=(0:Int))) ((idx a0.tasks r10).bind λe11=>(idx a0.tasks r10).bind λe12=>(idx e11.ar e12.at_).bind λe13=>(bU k a0.left (1:Int) e13).bind λr14=>some r14) (some false))) (λy15=>some y15)) k (0:Int)))))))
def lG {ρ:Type} (k:Nat) (p:Int× Int× Int× List Task× Int× Int× Int× Int) (v:Int× List Int) (next:(Int× List Int)->Option ρ) (x0:(List Int)->Option ρ):Option ρ:=
 cond (decide (v.1<(p.2.2.2.1.length:Int))) ((idx p.2.2.2.1 v.1).bind λe2=>cond (decide (e2.due<=p.1)) ((idx p.2.2.2.1 v.1).bind λe3=>cond (Nat.ble (v.2.length+[e3.id].length) aU) (next (IntKind.i64.wrap (v.1+(1:Int)),v.2++[e3.id])) none) (next (IntKind.i64.wrap (v.1+(1:Int)),v.2))) (x0 v.2)
def wz (k:Nat) (a0:aj):Option (List Int):=
 (eW k a0).bind λr1=>cond (!r1) (some ([]:List Int)) (iter (λu5 n5=>lG k (a0.now,a0.ag,a0.age,a0.tasks,a0.run,a0.left,a0.turns,a0.next) u5 n5 (λy4=>some y4)) k ((0:Int),([]:List Int)))
def iF {ρ:Type} (k:Nat) (p:Int× Int× Int× Int× List Task× Int× Int× Int× Int× Int× List Int× Int× Int× Int) (v:Int× Int) (next:(Int× Int)->Option ρ) (x0:Int->Option ρ):Option ρ:=
 cond (decide (v.2<(p.2.2.2.2.2.2.2.2.2.2.1.length:Int))) ((idx p.2.2.2.2.2.2.2.2.2.2.1 v.2).bind λe4=>next (IntKind.i64.wrap (v.1+e4),IntKind.i64.wrap (v.2+(1:Int)))) (x0 v.1)
def qH (k:Nat) (a0:aj) (a1:Int):Option (Int):=
 (kt k a0 a1).bind λr1=>(eW k a0).bind λr2=>cond (!r2) (some (-1:Int)) (cond (decide (r1<(0:Int))) (some (-1:Int)) ((idx a0.tasks r1).bind λe3=>iter (λu7 n7=>iF k (a1,a0.now,a0.ag,a0.age,a0.tasks,a0.run,a0.left,a0.turns,a0.next,e3.id,e3.ar,e3.at_,e3.due,e3.born) u7 n7 (λy5=>cond (a0.run==a1) ((idx e3.ar e3.at_).bind λe6=>some (IntKind.i64.wrap ((IntKind.i64.wrap (y5-e6))+a0.left))) (some y5))) k ((0:Int),e3.at_)))
def iG {ρ:Type} (k:Nat) (p:Int× Int× Int× Int× List Task× Int× Int× Int× Int) (v:Int× Int) (next:(Int× Int)->Option ρ) (x0:Int->Option ρ):Option ρ:=
 cond (decide (v.2<(p.2.2.2.2.1.length:Int))) ((idx p.2.2.2.2.1 v.2).bind λe2=>cond (decide (e2.due<=p.1)) ((idx p.2.2.2.2.1 v.2).bind λe3=>(qH k (⟨p.2.1,p.2.2.1,p.2.2.2.1,p.2.2.2.2.1,p.2.2.2.2.2.1,p.2.2.2.2.2.2.1,p.2.2.2.2.2.2.2.1,p.2.2.2.2.2.2.2.2⟩:aj) e3.id).bind λr4=>next (IntKind.i64.wrap (v.1+r4),IntKind.i64.wrap (v.2+(1:Int)))) (next (v.1,IntKind.i64.wrap (v.2+(1:Int))))) (x0 v.1)
def qI (k:Nat) (a0:aj) (a1:Int):Option (Int):=
 (eW k a0).bind λr1=>cond (!r1) (some (-1:Int)) (iter (λu6 n6=>iG k (a1,a0.now,a0.ag,a0.age,a0.tasks,a0.run,a0.left,a0.turns,a0.next) u6 n6 (λy5=>some y5)) k ((0:Int),(0:Int)))
def tj (k:Nat) (a0:aj) (a1:Int):Option (Int):=
 (eW k a0).bind λr1=>cond (!r1) (some (-1:Int)) ((kt k a0 a0.run).bind λr2=>cond (decide (r2>=(0:Int))) ((idx a0.tasks r2).bind λe3=>cond (decide (e3.due>a1)) (some a0.left) (some (0:Int))) (some (0:Int)))
def ou {ρ:Type} (k:Nat) (p:Int× Int× Int× List Task× Int× Int× Int× Int) (v:Int) (next:Int->Option ρ) (x0:Unit->Option ρ) (xret:Bool->Option ρ):Option ρ:=
 cond (decide (v<(p.2.2.2.1.length:Int))) ((idx p.2.2.2.1 v).bind λe3=>(qI k (⟨p.1,p.2.1,p.2.2.1,p.2.2.2.1,p.2.2.2.2.1,p.2.2.2.2.2.1,p.2.2.2.2.2.2.1,p.2.2.2.2.2.2.2⟩:aj) e3.due).bind λr4=>(tj k (⟨p.1,p.2.1,p.2.2.1,p.2.2.2.1,p.2.2.2.2.1,p.2.2.2.2.2.1,p.2.2.2.2.2.2.1,p.2.2.2.2.2.2.2⟩:aj) e3.due).bind λr5=>cond (decide ((IntKind.i64.wrap ((IntKind.i64.wrap (r4+r5))+p.2.1))>(IntKind.i64.wrap (e3.due-p.1)))) (xret false) (next (IntKind.i64.wrap (v+(1:Int))))) (x0 ())
def wA (k:Nat) (a0:aj):Option (Bool):=
 (eW k a0).bind λr1=>cond (!r1) (some false) ((wz k a0).bind λr2=>cond (decide ((r2.length:Int)>(0:Int))) (some false) (iter (λu8 n8=>ou k (a0.now,a0.ag,a0.age,a0.tasks,a0.run,a0.left,a0.turns,a0.next) u8 n8 (λy6=>some true) (λy7=>some y7)) k (0:Int)))
def Ck (k:Nat) (a0:aj) (a1:List Int) (a2:Int):Option (aj× Int× Int):=
 (lF k a0).bind λr1=>(jM k a1).bind λr2=>(eW k a0).bind λr3=>cond (!r3) (some (r1,(0:Int),(1:Int))) ((tf k (⟨a0.next,r2,(0:Int),a2,a0.now⟩:Task)).bind λr4=>cond (!r4) (some (r1,(0:Int),(1:Int))) (cond ((a0.tasks.length:Int)==(12:Int)) (some (r1,(0:Int),(2:Int))) (cond (a0.next==(1000000:Int)) (some (r1,(0:Int),(2:Int))) (cond (Nat.ble (r1.tasks.length+1) aU) ((wA k (⟨r1.now,r1.ag,r1.age,(r1.tasks++[(⟨a0.next,r2,(0:Int),a2,a0.now⟩:Task)]),r1.run,r1.left,r1.turns,(IntKind.i64.wrap (a0.next+(1:Int)))⟩:aj)).bind λr5=>cond (!r5) ((lF k a0).bind λr6=>some (r6,(0:Int),(3:Int))) (some ((⟨r1.now,r1.ag,r1.age,(r1.tasks++[(⟨a0.next,r2,(0:Int),a2,a0.now⟩:Task)]),r1.run,r1.left,r1.turns,(IntKind.i64.wrap (a0.next+(1:Int)))⟩:aj),a0.next,(0:Int)))) none))))
def eX {ρ:Type} (k:Nat) (p:List Task× Int× Int× Int× Int× Int× Int× Int× Int× Int× Int× Int× Int× Int× Int× Int) (v:Int× List Task) (next:(Int× List Task)->Option ρ) (x0:(List Task)->Option ρ):Option ρ:=
 cond (decide (v.1<p.2.1)) ((idx p.1 v.1).bind λe1=>(bS k e1.ar).bind λr2=>cond (Nat.ble (v.2.length+1) aU) (next (IntKind.i64.wrap (v.1+(1:Int)),v.2++[(⟨e1.id,r2,e1.at_,e1.due,e1.born⟩:Task)])) none) (x0 v.2)
def fI (k:Nat) (a0:aj):Option (aj):=
 iter (λu4 n4=>eX k (a0.tasks,(a0.tasks.length:Int),a0.now,a0.ag,a0.age,a0.run,a0.left,a0.turns,a0.next,(0:Int),(0:Int),(0:Int),(0:Int),(0:Int),(0:Int),(0:Int)) u4 n4 (λy3=>some (⟨a0.now,a0.ag,a0.age,y3,a0.run,a0.left,a0.turns,a0.next⟩:aj))) k ((0:Int),([]:List Task))
def mu (k:Nat) (a0:Int):Option (Bool):=
 (qt k a0 (0:Int) (1000000:Int)).bind λr1=>some r1
def rQ (k:Nat) (a0:Int):Option (Bool):=
 (qt k a0 (1:Int) (1000:Int)).bind λr1=>some (!r1)
def aM {ρ:Type} (k:Nat) (p:List Int× Int) (v:Int) (next:Int->Option ρ) (x0:Unit->Option ρ) (xret:Int->Option ρ):Option ρ:=
 cond (decide (v<p.2)) ((idx p.1 v).bind λe1=>(rQ k e1).bind λr2=>cond (r2) (xret v) (next (IntKind.i64.wrap (v+(1:Int))))) (x0 ())
def bG (k:Nat) (a0:List Int):Option (Int):=
 iter (λu5 n5=>aM k (a0,(a0.length:Int)) u5 n5 (λy3=>some (-1:Int)) (λy4=>some y4)) k (0:Int)
def bm (k:Nat) (a0:List Int):Option (Bool):=
 (bG k a0).bind λr1=>some (decide (r1>=(0:Int)))
def tl (k:Nat) (a0:Task):Option (Bool):=
 (qt k a0.id (1:Int) (1000000:Int)).bind λr1=>cond (r1) ((qt k (a0.ar.length:Int) (1:Int) (6:Int)).bind λr2=>cond (r2) ((bm k a0.ar).bind λr3=>cond (!r3) ((qt k a0.at_ (0:Int) (IntKind.i64.wrap ((a0.ar.length:Int)-(1:Int)))).bind λr4=>cond (r4) ((mu k a0.due).bind λr5=>cond (r5) ((mu k a0.born).bind λr6=>some r6) (some false)) (some false)) (some false)) (some false)) (some false)
def fo {ρ:Type} (k:Nat) (p:List Task× Int× Int× Int× Int× List Task× Int× Int× Int× Int) (v:Int) (next:Int->Option ρ) (x0:Unit->Option ρ) (xret:Bool->Option ρ):Option ρ:=
 cond (decide (v<p.2.1)) ((idx p.1 v).bind λe1=>(tl k e1).bind λr2=>cond (!r2) (xret false) (cond (decide (e1.id>=p.2.2.2.2.2.2.2.2.2)) (xret false) (cond (decide (e1.born>p.2.2.1)) (xret false) (cond (decide (v>(0:Int))) ((idx p.2.2.2.2.2.1 (IntKind.i64.wrap (v-(1:Int)))).bind λe3=>cond (decide (e3.id>=e1.id)) (xret false) (next (IntKind.i64.wrap (v+(1:Int))))) (next (IntKind.i64.wrap (v+(1:Int)))))))) (x0 ())
def gO (k:Nat) (a0:aj):Option (Bool):=
 iter (λu6 n6=>fo k (a0.tasks,(a0.tasks.length:Int),a0.now,a0.ag,a0.age,a0.tasks,a0.run,a0.left,a0.turns,a0.next) u6 n6 (λy4=>some (decide ((a0.tasks.length:Int)<=(12:Int)))) (λy5=>some y5)) k (0:Int)
def jk (k:Nat) (a0:Task) (a1_0:Int):Option (Bool):=
 cond (decide (a1_0=a1_0)) (some (a0.id==a1_0)) none
def bQ {ρ:Type} (k:Nat) (p:List Task× Int× Int) (v:Int) (next:Int->Option ρ) (x0:Unit->Option ρ) (xret:Int->Option ρ):Option ρ:=
 cond (decide (v<p.2.1)) ((idx p.1 v).bind λe1=>(jk k e1 p.2.2).bind λr2=>cond (r2) (xret v) (next (IntKind.i64.wrap (v+(1:Int))))) (x0 ())
def da (k:Nat) (a0:List Task) (a1c0_0:Int):Option (Int):=
 iter (λu5 n5=>bQ k (a0,(a0.length:Int),a1c0_0) u5 n5 (λy3=>cond (decide (a1c0_0=a1c0_0)) (some (-1:Int)) none) (λy4=>cond (decide (a1c0_0=a1c0_0)) (some y4) none)) k (0:Int)
def de (k:Nat) (a0:aj) (a1:Int):Option (Int):=
 (da k a0.tasks a1).bind λr1=>some r1
def lH (k:Nat) (a0:aj):Option (Bool):=
 (mu k a0.now).bind λr1=>cond (!r1) (some false) ((qt k a0.ag (0:Int) (1000:Int)).bind λr2=>cond (!r2) (some false) ((qt k a0.age (0:Int) (20:Int)).bind λr3=>cond (!r3) (some false) ((mu k a0.turns).bind λr4=>cond (!r4) (some false) ((qt k a0.next (1:Int) (1000000:Int)).bind λr5=>cond (!r5) (some false) ((gO k a0).bind λr6=>cond (!r6) (some false) ((de k a0 a0.run).bind λr7=>cond (a0.run==(0:Int)) (cond (a0.run==(0:Int)) (some (a0.left==(0:Int))) (some false)) (cond (decide (r7<(0:Int))) (cond (a0.run==(0:Int)) (some (a0.left==(0:Int))) (some false)) ((idx a0.tasks r7).bind λe8=>(idx a0.tasks r7).bind λe9=>(idx e8.ar e9.at_).bind λe10=>(qt k a0.left (1:Int) e10).bind λr11=>some r11))))))))
def cZ (k:Nat) (a0:aj) (a1:Task):Option (Bool):=
 some (decide (a1.due<=a0.now))
def jy (k:Nat) (a0:aj) (a1:Task):Option (Int):=
 cond (decide (0<=a1.at_/\a1.at_<=(a1.ar.length:Int))) ((Ld k ((a1.ar.take a1.ar.length).drop a1.at_.toNat)).bind λr1=>cond (a0.run==a1.id) ((idx a1.ar a1.at_).bind λe2=>some (IntKind.i64.wrap (r1+(IntKind.i64.wrap (a0.left-e2))))) (some r1)) none
def eY {ρ:Type} (k:Nat) (p:Int× List Task× Int× Int× Int× Int× List Task× Int× Int× Int× Int) (v:Int× Int) (next:(Int× Int)->Option ρ) (x0:Int->Option ρ):Option ρ:=
 cond (decide (v.2<p.2.2.1)) ((idx p.2.1 v.2).bind λe1=>cond (decide (e1.due<=p.1)) ((jy k (⟨p.2.2.2.1,p.2.2.2.2.1,p.2.2.2.2.2.1,p.2.2.2.2.2.2.1,p.2.2.2.2.2.2.2.1,p.2.2.2.2.2.2.2.2.1,p.2.2.2.2.2.2.2.2.2.1,p.2.2.2.2.2.2.2.2.2.2⟩:aj) e1).bind λr2=>next (IntKind.i64.wrap (v.1+r2),IntKind.i64.wrap (v.2+(1:Int)))) (next (v.1,IntKind.i64.wrap (v.2+(1:Int))))) (x0 v.1)
def jz (k:Nat) (a0:aj) (a1:Int):Option (Int):=
 iter (λu4 n4=>eY k (a1,a0.tasks,(a0.tasks.length:Int),a0.now,a0.ag,a0.age,a0.tasks,a0.run,a0.left,a0.turns,a0.next) u4 n4 (λy3=>some y3)) k ((0:Int),(0:Int))
def kH (k:Nat) (a0:aj) (a1:Int):Option (Int):=
 (de k a0 a0.run).bind λr1=>cond (decide (r1>=(0:Int))) ((idx a0.tasks r1).bind λe2=>cond (decide (e2.due>a1)) (some a0.left) (some (0:Int))) (some (0:Int))
def kI (k:Nat) (a0:Task) (a1:aj):Option (Bool):=
 (cZ k a1 a0).bind λr1=>cond (r1) (cond (decide (a1.now=a1.now)) (cond (decide (a1.ag=a1.ag)) (cond (decide (a1.age=a1.age)) (cond (decide (a1.tasks=a1.tasks)) (cond (decide (a1.run=a1.run)) (cond (decide (a1.left=a1.left)) (cond (decide (a1.turns=a1.turns)) (cond (decide (a1.next=a1.next)) (some true) none) none) none) none) none) none) none) none) ((jz k a1 a0.due).bind λr2=>(kH k a1 a0.due).bind λr3=>cond (decide (a1.now=a1.now)) (cond (decide (a1.ag=a1.ag)) (cond (decide (a1.age=a1.age)) (cond (decide (a1.tasks=a1.tasks)) (cond (decide (a1.run=a1.run)) (cond (decide (a1.left=a1.left)) (cond (decide (a1.turns=a1.turns)) (cond (decide (a1.next=a1.next)) (some (decide ((IntKind.i64.wrap ((IntKind.i64.wrap (r2+r3))+a1.ag))>(IntKind.i64.wrap (a0.due-a1.now))))) none) none) none) none) none) none) none) none)
def bK {ρ:Type} (k:Nat) (p:List Task× Int× Int× Int× Int× List Task× Int× Int× Int× Int) (v:Int) (next:Int->Option ρ) (x0:Unit->Option ρ) (xret:Int->Option ρ):Option ρ:=
 cond (decide (v<p.2.1)) ((idx p.1 v).bind λe1=>(kI k e1 (⟨p.2.2.1,p.2.2.2.1,p.2.2.2.2.1,p.2.2.2.2.2.1,p.2.2.2.2.2.2.1,p.2.2.2.2.2.2.2.1,p.2.2.2.2.2.2.2.2.1,p.2.2.2.2.2.2.2.2.2⟩:aj)).bind λr2=>cond (r2) (xret v) (next (IntKind.i64.wrap (v+(1:Int))))) (x0 ())
def cX (k:Nat) (a0:List Task) (a1c0:aj):Option (Int):=
 iter (λu5 n5=>bK k (a0,(a0.length:Int),a1c0.now,a1c0.ag,a1c0.age,a1c0.tasks,a1c0.run,a1c0.left,a1c0.turns,a1c0.next) u5 n5 (λy3=>cond (decide (a1c0.now=a1c0.now)) (cond (decide (a1c0.ag=a1c0.ag)) (cond (decide (a1c0.age=a1c0.age)) (cond (decide (a1c0.tasks=a1c0.tasks)) (cond (decide (a1c0.run=a1c0.run)) (cond (decide (a1c0.left=a1c0.left)) (cond (decide (a1c0.turns=a1c0.turns)) (cond (decide (a1c0.next=a1c0.next)) (some (-1:Int)) none) none) none) none) none) none) none) none) (λy4=>cond (decide (a1c0.now=a1c0.now)) (cond (decide (a1c0.ag=a1c0.ag)) (cond (decide (a1c0.age=a1c0.age)) (cond (decide (a1c0.tasks=a1c0.tasks)) (cond (decide (a1c0.run=a1c0.run)) (cond (decide (a1c0.left=a1c0.left)) (cond (decide (a1c0.turns=a1c0.turns)) (cond (decide (a1c0.next=a1c0.next)) (some y4) none) none) none) none) none) none) none) none)) k (0:Int)
def cF (k:Nat) (a0:List Task) (a1c0:aj):Option (Bool):=
 (cX k a0 a1c0).bind λr1=>cond (decide (a1c0.now=a1c0.now)) (cond (decide (a1c0.ag=a1c0.ag)) (cond (decide (a1c0.age=a1c0.age)) (cond (decide (a1c0.tasks=a1c0.tasks)) (cond (decide (a1c0.run=a1c0.run)) (cond (decide (a1c0.left=a1c0.left)) (cond (decide (a1c0.turns=a1c0.turns)) (cond (decide (a1c0.next=a1c0.next)) (some (decide (r1>=(0:Int)))) none) none) none) none) none) none) none) none
def wB (k:Nat) (a0:aj):Option (Bool):=
 (lH k a0).bind λr1=>cond (r1) ((cF k a0.tasks a0).bind λr2=>some (!r2)) (some false)
def Cl (k:Nat) (a0:aj) (a1:List Int) (a2:Int):Option (aj× Int× Int):=
 (bS k a1).bind λr1=>(fI k a0).bind λr2=>(lH k a0).bind λr3=>cond (!r3) (some (r2,(0:Int),(1:Int))) ((tl k (⟨a0.next,r1,(0:Int),a2,a0.now⟩:Task)).bind λr4=>cond (!r4) (some (r2,(0:Int),(1:Int))) (cond ((a0.tasks.length:Int)==(12:Int)) (some (r2,(0:Int),(2:Int))) (cond (a0.next==(1000000:Int)) (some (r2,(0:Int),(2:Int))) ((fI k a0).bind λr5=>cond (Nat.ble (r5.tasks.length+1) aU) ((wB k (⟨r5.now,r5.ag,r5.age,(r5.tasks++[(⟨a0.next,r1,(0:Int),a2,a0.now⟩:Task)]),r5.run,r5.left,r5.turns,(IntKind.i64.wrap (r5.next+(1:Int)))⟩:aj)).bind λr6=>cond (!r6) (some (r2,(0:Int),(3:Int))) (some ((⟨r5.now,r5.ag,r5.age,(r5.tasks++[(⟨a0.next,r1,(0:Int),a2,a0.now⟩:Task)]),r5.run,r5.left,r5.turns,(IntKind.i64.wrap (r5.next+(1:Int)))⟩:aj),a0.next,(0:Int)))) none))))
end
end
set_option maxRecDepth 100000
section
noncomputable section
def eF {ρ:Type} (k:Nat) (p:Int× Int× Int× Int× Int× Int× Int× Int× List bZ) (v:Int× List bZ) (next:(Int× List bZ)->Option ρ) (x0:(List bZ)->Option ρ):Option ρ:=
 cond (decide (v.1<(p.2.2.2.2.2.2.2.2.length:Int))) (cond (decide (0<=v.1/\v.1<(p.2.2.2.2.2.2.2.2.length:Int))) ((p.2.2.2.2.2.2.2.2[v.1.toNat]?).bind λe1=>cond (e1.id !=p.1) (cond (decide (0<=v.1/\v.1<(p.2.2.2.2.2.2.2.2.length:Int))) ((p.2.2.2.2.2.2.2.2[v.1.toNat]?).bind λe2=>cond (Nat.ble (v.2.length+[e2].length) aU) (next (IntKind.i64.wrap (v.1+(1:Int)),v.2++[e2])) none) none) (next (IntKind.i64.wrap (v.1+(1:Int)),v.2))) none) (x0 v.2)
def fq (k:Nat) (a0_0:Int) (a0_1:Int) (a0_2:Int) (a0_3:List bZ) (a0_4:Int) (a0_5:Int) (a0_6:Int) (a0_7:Int) (a1:Int):Option (List bZ):=
 iter (λu4 n4=>eF k (a1,a0_0,a0_1,a0_2,a0_4,a0_5,a0_6,a0_7,a0_3) u4 n4 (λy3=>cond (decide (a0_0=a0_0)) (cond (decide (a0_1=a0_1)) (cond (decide (a0_2=a0_2)) (cond (decide (a0_4=a0_4)) (cond (decide (a0_5=a0_5)) (cond (decide (a0_6=a0_6)) (cond (decide (a0_7=a0_7)) (some y3) none) none) none) none) none) none) none)) k ((0:Int),([]:List bZ))
def jY (k:Nat) (a0:aj) (a1:Int):Option (aj× Bool):=
 (lF k a0).bind λr1=>(eW k a0).bind λr2=>cond (!r2) (some (r1,false)) ((kt k a0 a1).bind λr3=>cond (decide (r3<(0:Int))) (some (r1,false)) ((kr r1.tasks).bind λy4=>(fq k r1.now r1.ag r1.age y4 r1.run r1.left r1.turns r1.next a1).bind λr5=>cond (ji r5) ((oQ r1.tasks r5).bind λz6=>cond (r1.run==a1) (some ((⟨r1.now,r1.ag,r1.age,z6,(0:Int),(0:Int),r1.turns,r1.next⟩:aj),true)) (some ((⟨r1.now,r1.ag,r1.age,z6,r1.run,r1.left,r1.turns,r1.next⟩:aj),true))) none))
def dQ (k:Nat) (a0:bZ) (a1_0:Int):Option (Bool):=
 cond (decide (a1_0=a1_0)) (some (a0.id==a1_0)) none
def bL {ρ:Type} (k:Nat) (p:List bZ× Int× Int) (v:Int) (next:Int->Option ρ) (x0:Unit->Option ρ) (xret:Int->Option ρ):Option ρ:=
 cond (decide (v<p.2.1)) ((idx p.1 v).bind λe1=>(dQ k e1 p.2.2).bind λr2=>cond (r2) (xret v) (next (IntKind.i64.wrap (v+(1:Int))))) (x0 ())
def ca (k:Nat) (a0:List bZ) (a1c0_0:Int):Option (Int):=
 iter (λu5 n5=>bL k (a0,(a0.length:Int),a1c0_0) u5 n5 (λy3=>cond (decide (a1c0_0=a1c0_0)) (some (-1:Int)) none) (λy4=>cond (decide (a1c0_0=a1c0_0)) (some y4) none)) k (0:Int)
def aX {ρ:Type} (k:Nat) (p:Int) (v:Int× Int× List bZ) (next:(Int× Int× List bZ)->Option ρ) (x0:(Int× List bZ)->Option ρ):Option ρ:=
 cond (decide (v.2.1<(v.2.2.length:Int))) (cond (decide (0<=v.2.1/\v.2.1<(v.2.2.length:Int))) ((v.2.2[v.2.1.toNat]?).bind λe2=>(dQ k e2 p).bind λr3=>cond (!r3) (cond (decide (0<=v.1/\v.1<(v.2.2.length:Int))) (next (IntKind.i64.wrap (v.1+(1:Int)),IntKind.i64.wrap (v.2.1+(1:Int)),v.2.2.set v.1.toNat e2)) none) (next (v.1,IntKind.i64.wrap (v.2.1+(1:Int)),v.2.2))) none) (x0 (v.1,v.2.2))
def bg (k:Nat) (a0:List bZ) (a1c0_0:Int):Option (List bZ):=
 (ca k a0 a1c0_0).bind λr1=>cond (r1==(-1:Int)) (cond (decide (a1c0_0=a1c0_0)) (some a0) none) (iter (λu5 n5=>aX k a1c0_0 u5 n5 (λy4=>cond (decide (0<=y4.1/\y4.1<=(y4.2.length:Int))) (cond (decide (0<=y4.1/\y4.1<=(((y4.2).take y4.1.toNat++List.replicate (y4.2.length-y4.1.toNat) (⟨(0:Int),(0:Nat),(0:Int),(0:Int),(0:Int)⟩:bZ)++(y4.2).drop (y4.1.toNat+(y4.2.length-y4.1.toNat))).length:Int))) (cond (decide (a1c0_0=a1c0_0)) (some (((y4.2).take y4.1.toNat++List.replicate (y4.2.length-y4.1.toNat) (⟨(0:Int),(0:Nat),(0:Int),(0:Int),(0:Int)⟩:bZ)++(y4.2).drop (y4.1.toNat+(y4.2.length-y4.1.toNat))).take (y4.1.toNat-0))) none) none) none)) k (r1,IntKind.i64.wrap (r1+(1:Int)),a0))
def du (k:Nat) (a0_0:Int) (a0_1:Int) (a0_2:Int) (a0_3:List bZ) (a0_4:Int) (a0_5:Int) (a0_6:Int) (a0_7:Int) (a1:Int):Option (List bZ× Int× Int):=
 (bg k a0_3 a1).bind λr1=>cond (a0_4==a1) (cond (decide (a0_0=a0_0)) (cond (decide (a0_1=a0_1)) (cond (decide (a0_2=a0_2)) (cond (decide (a0_6=a0_6)) (cond (decide (a0_7=a0_7)) (some (r1,(0:Int),(0:Int))) none) none) none) none) none) (cond (decide (a0_0=a0_0)) (cond (decide (a0_1=a0_1)) (cond (decide (a0_2=a0_2)) (cond (decide (a0_6=a0_6)) (cond (decide (a0_7=a0_7)) (some (r1,a0_4,a0_5)) none) none) none) none) none)
end
end
end Go.Proofs.Ev
