/- Typed functions and what holds of them: part 1. -/
import Derived.Test.YtpiopmjbcadfbaaGreatEvK6
import Derived.Test.YtpiopmjbcadfbaaGreatEvK7
set_option linter.unusedVariables false
set_option linter.unusedSimpArgs false
set_option linter.unusedSectionVars false
namespace Go.Proofs.Ev
open IntKind(i64 u8 u64)
set_option maxRecDepth 100000
section
noncomputable section
def lg {ρ:Type} (k:Nat) (p:List Int) (v:Int× List Int) (next:(Int× List Int)->Option ρ) (x0:(List Int)->Option ρ):Option ρ:=
 cond (decide (v.1<(p.length:Int))) ((idx p v.1).bind λe1=>cond (Nat.ble (v.2.length+[e1].length) aU) (next (i64.wrap (v.1+1),v.2++[e1])) none) (x0 v.2)
def lh (k:Nat) (a0:List Int):Option (List Int):=
 iter (λu3 n3=>lg k a0 u3 n3 (λy2=>some y2)) k ((0:Int),([]:List Int))
def pe (k:Nat) (a0:aF):Option (aF):=
 (lh k a0.data).bind λr1=>some (⟨a0.sh,r1⟩:aF)
def bA (k:Nat) (a0:Int) (a1:Int) (a2:Int):Option (Bool):=
 cond (decide (a1<=a0)) (some (decide (a0<=a2))) (some false)
def lj (k:Nat) (a0:Shape):Option (Bool):=
 (bA k a0.h (1:Int) (8:Int)).bind λr1=>cond (r1) ((bA k a0.w (1:Int) (8:Int)).bind λr2=>cond (r2) ((bA k a0.c (1:Int) (8:Int)).bind λr3=>some r3) (some false)) (some false)
def cu (k:Nat) (a0:Shape):Option (Int):=
 (lj k a0).bind λr1=>cond (!r1) (some (0:Int)) (some (i64.wrap ((i64.wrap (a0.h*a0.w))*a0.c)))
def ix (k:Nat) (a0:Int):Option (Bool):=
 (bA k a0 (-128:Int) (127:Int)).bind λr1=>some r1
def l0 {ρ:Type} (k:Nat) (p:Int× Int× Int× List Int) (v:Int) (next:Int->Option ρ) (x0:Unit->Option ρ) (fZ:Bool->Option ρ):Option ρ:=
 cond (decide (v<(p.2.2.2.length:Int))) ((idx p.2.2.2 v).bind λe3=>(ix k e3).bind λr4=>cond (!r4) (fZ false) (next (i64.wrap (v+1)))) (x0 ())
def mK (k:Nat) (a0:aF):Option (Bool):=
 (lj k a0.sh).bind λr1=>cond (!r1) (some false) ((cu k a0.sh).bind λr2=>cond ((a0.data.length:Int) !=r2) (some false) (iter (λu7 n7=>l0 k (a0.sh.h,a0.sh.w,a0.sh.c,a0.data) u7 n7 (λy5=>some true) (λy6=>some y6)) k (0:Int)))
def bW (k:Nat) (a0:List Int):Option (List Int):=
 cond (isNil a0) (both (some ([]:List Int)) (cond (Nat.ble (([]:List Int).length+a0.length) aU) (some (([]:List Int)++a0)) none)) (cond (Nat.ble (([]:List Int).length+a0.length) aU) (some (([]:List Int)++a0)) none)
def gE (k:Nat) (a0:aF):Option (aF):=
 (bW k a0.data).bind λr1=>some (⟨a0.sh,r1⟩:aF)
def sJ (k:Nat) (a0:Int) (a1:Int) (a2:Int):Option (Bool):=
 cond (decide (a1<=a0)) (some (decide (a0<=a2))) (some false)
def pf (k:Nat) (a0:Shape):Option (Bool):=
 (sJ k a0.h (1:Int) (8:Int)).bind λr1=>cond (r1) ((sJ k a0.w (1:Int) (8:Int)).bind λr2=>cond (r2) ((sJ k a0.c (1:Int) (8:Int)).bind λr3=>some r3) (some false)) (some false)
def kP (k:Nat) (a0:Shape):Option (Int):=
 (pf k a0).bind λr1=>cond (!r1) (some (0:Int)) (some (i64.wrap ((i64.wrap (a0.h*a0.w))*a0.c)))
def qd (k:Nat) (a0:Int):Option (Bool):=
 (sJ k a0 (-128:Int) (127:Int)).bind λr1=>some (!r1)
def bh {ρ:Type} (k:Nat) (p:List Int× Int) (v:Int) (next:Int->Option ρ) (x0:Unit->Option ρ) (fZ:Int->Option ρ):Option ρ:=
 cond (decide (v<p.2)) ((idx p.1 v).bind λe1=>(qd k e1).bind λr2=>cond (r2) (fZ v) (next (i64.wrap (v+1)))) (x0 ())
def cz (k:Nat) (a0:List Int):Option (Int):=
 iter (λu5 n5=>bh k (a0,(a0.length:Int)) u5 n5 (λy3=>some (-1:Int)) (λy4=>some y4)) k (0:Int)
def bY (k:Nat) (a0:List Int):Option (Bool):=
 (cz k a0).bind λr1=>some (decide (r1>=0))
def pg (k:Nat) (a0:List Int):Option (Bool):=
 (bY k a0).bind λr1=>some (!r1)
def ph (k:Nat) (a0:aF):Option (Bool):=
 (pf k a0.sh).bind λr1=>cond (r1) ((kP k a0.sh).bind λr2=>cond ((a0.data.length:Int)==r2) ((pg k a0.data).bind λr3=>some r3) (some false)) (some false)
def qe (k:Nat) (a0:List Int) (a1:List Int):Option (Bool):=
 some ((bytesOf a0)==(bytesOf a1))
end
end
set_option maxRecDepth 100000
section
noncomputable section
def sK (k:Nat) (a0:Step):Option (Int):=
 (bA k a0.kind (4:Int) (5:Int)).bind λr1=>cond (r1) ((bA k a0.a (0:Int) (200:Int)).bind λr2=>cond (r2) (some a0.a) (some (0:Int))) (some (0:Int))
def l5 (k:Nat) (a0:Step):Option (Bool):=
 cond (a0.kind==4) ((sJ k a0.a (0:Int) (200:Int)).bind λr1=>some r1) (cond (a0.kind==5) ((sJ k a0.a (0:Int) (200:Int)).bind λr2=>some r2) (some false))
def gW {ρ:Type} (k:Nat) (p:Int× Int× Int× Int× Int× Int× Int× List Int× List Int) (v:Int) (next:Int->Option ρ) (x0:Unit->Option ρ) (fZ:Bool->Option ρ):Option ρ:=
 cond (decide (v<(p.2.2.2.2.2.2.2.2.length:Int))) ((idx p.2.2.2.2.2.2.2.2 v).bind λe7=>(bA k e7 (-1000000:Int) (1000000:Int)).bind λr8=>cond (!r8) (fZ false) (next (i64.wrap (v+1)))) (x0 ())
def gX {ρ:Type} (k:Nat) (p:Int× Int× Int× Int× Int× Int× Int× List Int× List Int) (v:Int) (next:Int->Option ρ) (x2:Unit->Option ρ) (fZ:Bool->Option ρ):Option ρ:=
 cond (decide (v<(p.2.2.2.2.2.2.2.1.length:Int))) ((idx p.2.2.2.2.2.2.2.1 v).bind λe10=>(ix k e10).bind λr11=>cond (!r11) (fZ false) (next (i64.wrap (v+1)))) (x2 ())
def sL (k:Nat) (a0:av) (a1:Bool) (a2:Bool):Option (Bool):=
 cond (a1) ((bA k a0.size (1:Int) (3:Int)).bind λr1=>cond (!r1) (some false) ((bA k a0.step (1:Int) (2:Int)).bind λr2=>cond (!r2) (some false) (cond (a2) ((bA k a0.out (1:Int) (8:Int)).bind λr3=>cond (!r3) (some false) ((bA k a0.mult (0:Int) (2147483647:Int)).bind λr4=>cond (!r4) (some false) ((bA k a0.shift (0:Int) (31:Int)).bind λr5=>cond (!r5) (some false) ((ix k a0.zero).bind λr6=>cond (!r6) (some false) (cond ((a0.ny.length:Int) !=a0.out) (some false) (iter (λu16 n16=>gW k (a0.kind,a0.out,a0.size,a0.step,a0.mult,a0.shift,a0.zero,a0.weights,a0.ny) u16 n16 (λy9=>iter (λu14 n14=>gX k (a0.kind,a0.out,a0.size,a0.step,a0.mult,a0.shift,a0.zero,a0.weights,a0.ny) u14 n14 (λy12=>some true) (λy13=>some y13)) k (0:Int)) (λy15=>some y15)) k (0:Int))))))) (cond (a0.out !=0) (some false) (cond (a0.mult !=0) (some false) (cond (a0.shift !=0) (some false) (cond (decide ((a0.weights.length:Int)>(0:Int))) (some false) (cond (decide ((a0.ny.length:Int)>(0:Int))) (some false) (cond (a0.kind==4) ((ix k a0.zero).bind λr17=>some r17) (some (a0.zero==0))))))))))) (cond (a0.size !=0) (some false) (cond (a0.step !=0) (some false) (cond (a2) ((bA k a0.out (1:Int) (8:Int)).bind λr18=>cond (!r18) (some false) ((bA k a0.mult (0:Int) (2147483647:Int)).bind λr19=>cond (!r19) (some false) ((bA k a0.shift (0:Int) (31:Int)).bind λr20=>cond (!r20) (some false) ((ix k a0.zero).bind λr21=>cond (!r21) (some false) (cond ((a0.ny.length:Int) !=a0.out) (some false) (iter (λu31 n31=>gW k (a0.kind,a0.out,a0.size,a0.step,a0.mult,a0.shift,a0.zero,a0.weights,a0.ny) u31 n31 (λy24=>iter (λu29 n29=>gX k (a0.kind,a0.out,a0.size,a0.step,a0.mult,a0.shift,a0.zero,a0.weights,a0.ny) u29 n29 (λy27=>some true) (λy28=>some y28)) k (0:Int)) (λy30=>some y30)) k (0:Int))))))) (cond (a0.out !=0) (some false) (cond (a0.mult !=0) (some false) (cond (a0.shift !=0) (some false) (cond (decide ((a0.weights.length:Int)>(0:Int))) (some false) (cond (decide ((a0.ny.length:Int)>(0:Int))) (some false) (cond (a0.kind==4) ((ix k a0.zero).bind λr32=>some r32) (some (a0.zero==0)))))))))))
def kz (k:Nat) (a0:Shape) (a1:av):Option (Shape× Bool):=
 (lj k a0).bind λr1=>cond (!r1) (some ((⟨(0:Int),(0:Int),(0:Int)⟩:Shape),false)) ((bA k a1.kind (0:Int) (5:Int)).bind λr2=>cond (!r2) (some ((⟨(0:Int),(0:Int),(0:Int)⟩:Shape),false)) ((bA k a1.kind (1:Int) (3:Int)).bind λr3=>(sL k a1 r3 (decide (a1.kind<=1))).bind λr4=>cond (!r4) (some ((⟨(0:Int),(0:Int),(0:Int)⟩:Shape),false)) (cond (r3) (cond (decide (a1.size>a0.h)) (some ((⟨(0:Int),(0:Int),(0:Int)⟩:Shape),false)) (cond (decide (a1.size>a0.w)) (some ((⟨(0:Int),(0:Int),(0:Int)⟩:Shape),false)) (cond (decide (a1.step=0)) none (cond (decide (a1.step=0)) none (cond (a1.kind==0) ((cu k a0).bind λr5=>cond (decide (r5>64)) (some ((⟨(0:Int),(0:Int),(0:Int)⟩:Shape),false)) ((cu k a0).bind λr6=>cond ((a1.weights.length:Int) !=(i64.wrap (a1.out*r6))) (some ((⟨(0:Int),(0:Int),(0:Int)⟩:Shape),false)) (some ((⟨(1:Int),(1:Int),a1.out⟩:Shape),true)))) (cond (a1.kind==1) (cond ((a1.weights.length:Int) !=(i64.wrap ((i64.wrap ((i64.wrap (a1.out*a1.size))*a1.size))*a0.c))) (some ((⟨(0:Int),(0:Int),(0:Int)⟩:Shape),false)) (cond (decide ((a1.weights.length:Int)>(600:Int))) (some ((⟨(0:Int),(0:Int),(0:Int)⟩:Shape),false)) (some ((⟨(i64.wrap ((i64.wrap ((i64.wrap (a0.h-a1.size)).tdiv a1.step))+1)),(i64.wrap ((i64.wrap ((i64.wrap (a0.w-a1.size)).tdiv a1.step))+1)),a1.out⟩:Shape),true)))) (cond (a1.kind==5) ((cu k a0).bind λr7=>cond (decide (r7>8)) (some ((⟨(0:Int),(0:Int),(0:Int)⟩:Shape),false)) ((cu k a0).bind λr8=>some ((⟨(1:Int),(1:Int),r8⟩:Shape),true))) (some ((⟨(i64.wrap ((i64.wrap ((i64.wrap (a0.h-a1.size)).tdiv a1.step))+1)),(i64.wrap ((i64.wrap ((i64.wrap (a0.w-a1.size)).tdiv a1.step))+1)),a0.c⟩:Shape),true))))))))) (cond (a1.kind==0) ((cu k a0).bind λr9=>cond (decide (r9>64)) (some ((⟨(0:Int),(0:Int),(0:Int)⟩:Shape),false)) ((cu k a0).bind λr10=>cond ((a1.weights.length:Int) !=(i64.wrap (a1.out*r10))) (some ((⟨(0:Int),(0:Int),(0:Int)⟩:Shape),false)) (some ((⟨(1:Int),(1:Int),a1.out⟩:Shape),true)))) (cond (a1.kind==1) (cond ((a1.weights.length:Int) !=(i64.wrap ((i64.wrap ((i64.wrap (a1.out*a1.size))*a1.size))*a0.c))) (some ((⟨(0:Int),(0:Int),(0:Int)⟩:Shape),false)) (cond (decide ((a1.weights.length:Int)>(600:Int))) (some ((⟨(0:Int),(0:Int),(0:Int)⟩:Shape),false)) (some ((⟨a0.h,a0.w,a1.out⟩:Shape),true)))) (cond (a1.kind==5) ((cu k a0).bind λr11=>cond (decide (r11>8)) (some ((⟨(0:Int),(0:Int),(0:Int)⟩:Shape),false)) ((cu k a0).bind λr12=>some ((⟨(1:Int),(1:Int),r12⟩:Shape),true))) (some (a0,true))))))))
def iy {ρ:Type} (k:Nat) (p:Int× Int× Int× List av) (v:Int× List Shape) (next:(Int× List Shape)->Option ρ) (x0:(List Shape)->Option ρ) (fZ:Bool->Option ρ):Option ρ:=
 cond (decide (v.1<(p.2.2.2.length:Int))) (cond (decide (0<=v.1/\v.1<(v.2.length:Int))) ((v.2[v.1.toNat]?).bind λe3=>(idx p.2.2.2 v.1).bind λe4=>(kz k e3 e4).bind λr5=>cond (!r5.2) (fZ false) (cond (Nat.ble (v.2.length+[r5.1].length) aU) (next (i64.wrap (v.1+1),v.2++[r5.1])) none)) none) (x0 v.2)
def kA (k:Nat) (a0:Model):Option (List Shape× Bool):=
 (lj k a0.inp).bind λr1=>cond (!r1) (some (([]:List Shape),false)) ((bA k (a0.aC.length:Int) (1:Int) (6:Int)).bind λr2=>cond (!r2) (some (([]:List Shape),false)) (iter (λu8 n8=>iy k (a0.inp.h,a0.inp.w,a0.inp.c,a0.aC) u8 n8 (λy6=>some (y6,true)) (λy7=>some (([]:List Shape),y7))) k ((0:Int),[a0.inp])))
def pj (k:Nat) (a0:Model):Option (Bool):=
 (kA k a0).bind λr1=>some r1.2
def zx (k:Nat) (a0:Shape) (a1:av):Option (Int):=
 (kz k a0 a1).bind λr1=>cond (!r1.2) (some (0:Int)) ((cu k a0).bind λr2=>cond (a1.kind==0) ((cu k r1.1).bind λr3=>(cu k a0).bind λr4=>some (i64.wrap ((1:Int)+(i64.wrap ((i64.wrap (r3*r4)).tdiv (16:Int)))))) (cond (a1.kind==1) ((cu k r1.1).bind λr5=>some (i64.wrap ((1:Int)+(i64.wrap ((i64.wrap ((i64.wrap ((i64.wrap (r5*a1.size))*a1.size))*a0.c)).tdiv (16:Int)))))) (cond (a1.kind==2) ((cu k r1.1).bind λr6=>some (i64.wrap ((1:Int)+(i64.wrap ((i64.wrap ((i64.wrap (r6*a1.size))*a1.size)).tdiv (16:Int)))))) (cond (a1.kind==3) ((cu k r1.1).bind λr7=>some (i64.wrap ((1:Int)+(i64.wrap ((i64.wrap ((i64.wrap (r7*a1.size))*a1.size)).tdiv (16:Int)))))) (some (i64.wrap ((1:Int)+(i64.wrap (r2.tdiv (16:Int))))))))))
def lk {ρ:Type} (k:Nat) (p:Int× Int× Int× List av× List Shape) (v:Int× List Int) (next:(Int× List Int)->Option ρ) (x0:(List Int)->Option ρ):Option ρ:=
 cond (decide (v.1<(p.2.2.2.1.length:Int))) (cond (decide (0<=v.1/\v.1<(p.2.2.2.2.length:Int))) ((p.2.2.2.2[v.1.toNat]?).bind λe2=>(idx p.2.2.2.1 v.1).bind λe3=>(zx k e2 e3).bind λr4=>cond (Nat.ble (v.2.length+[r4].length) aU) (next (i64.wrap (v.1+1),v.2++[r4])) none) none) (x0 v.2)
def ln (k:Nat) (a0:Model):Option (List Int):=
 (kA k a0).bind λr1=>cond (!r1.2) (some ([]:List Int)) (iter (λu6 n6=>lk k (a0.inp.h,a0.inp.w,a0.inp.c,a0.aC,r1.1) u6 n6 (λy5=>some y5)) k ((0:Int),([]:List Int)))
def iz {ρ:Type} (k:Nat) (p:List Int) (v:Int× Int) (next:(Int× Int)->Option ρ) (x0:Int->Option ρ):Option ρ:=
 cond (decide (v.2<(p.length:Int))) (cond (decide (0<=v.2/\v.2<(p.length:Int))) ((p[v.2.toNat]?).bind λe2=>next (i64.wrap (v.1+e2),i64.wrap (v.2+1))) none) (x0 v.1)
def qf (k:Nat) (a0:Model):Option (Int):=
 (ln k a0).bind λr1=>iter (λu4 n4=>iz k r1 u4 n4 (λy3=>some y3)) k ((0:Int),(0:Int))
def fB (k:Nat) (a0:av):Option (Bool):=
 cond (a0.size==0) (some (a0.step==0)) (some false)
def iS (k:Nat) (a0:Int):Option (Bool):=
 (sJ k a0 (-1000000:Int) (1000000:Int)).bind λr1=>some (!r1)
def aV {ρ:Type} (k:Nat) (p:List Int× Int) (v:Int) (next:Int->Option ρ) (x0:Unit->Option ρ) (fZ:Int->Option ρ):Option ρ:=
 cond (decide (v<p.2)) ((idx p.1 v).bind λe1=>(iS k e1).bind λr2=>cond (r2) (fZ v) (next (i64.wrap (v+1)))) (x0 ())
def bK (k:Nat) (a0:List Int):Option (Int):=
 iter (λu5 n5=>aV k (a0,(a0.length:Int)) u5 n5 (λy3=>some (-1:Int)) (λy4=>some y4)) k (0:Int)
def aW (k:Nat) (a0:List Int):Option (Bool):=
 (bK k a0).bind λr1=>some (decide (r1>=0))
def gd (k:Nat) (a0:av) (a1:Int):Option (Bool):=
 (sJ k a0.out (1:Int) (8:Int)).bind λr1=>cond (r1) ((sJ k a0.mult (0:Int) (2147483647:Int)).bind λr2=>cond (r2) ((sJ k a0.shift (0:Int) (31:Int)).bind λr3=>cond (r3) ((sJ k a0.zero (-128:Int) (127:Int)).bind λr4=>cond (r4) (cond ((a0.weights.length:Int)==(i64.wrap (a0.out*a1))) ((pg k a0.weights).bind λr5=>cond (r5) (cond ((a0.ny.length:Int)==a0.out) ((aW k a0.ny).bind λr6=>some (!r6)) (some false)) (some false)) (some false)) (some false)) (some false)) (some false)) (some false)
def eN (k:Nat) (a0:av) (a1:Shape):Option (Bool):=
 (sJ k a0.size (1:Int) (if a1.w<(if a1.h<3 then a1.h else(3:Int))then a1.w else(if a1.h<3 then a1.h else(3:Int)))).bind λr1=>cond (r1) ((sJ k a0.step (1:Int) (2:Int)).bind λr2=>some r2) (some false)
def fC (k:Nat) (a0:av) (a1:Shape) (a2:Int):Option (Shape):=
 cond (decide (a0.step=0)) none (cond (decide (a0.step=0)) none (some (⟨(i64.wrap ((i64.wrap ((i64.wrap (a1.h-a0.size)).tdiv a0.step))+1)),(i64.wrap ((i64.wrap ((i64.wrap (a1.w-a0.size)).tdiv a0.step))+1)),a2⟩:Shape)))
def fh (k:Nat) (a0:av):Option (Bool):=
 cond (a0.out==0) (cond (a0.mult==0) (cond (a0.shift==0) (cond ((a0.weights.length:Int)==(0:Int)) (some ((a0.ny.length:Int)==(0:Int))) (some false)) (some false)) (some false)) (some false)
def mL (k:Nat) (a0:Shape) (a1:av):Option (Shape× Bool):=
 (pf k a0).bind λr1=>cond (!r1) (some ((⟨(0:Int),(0:Int),(0:Int)⟩:Shape),false)) ((kP k a0).bind λr2=>cond (a1.kind==0) (cond (decide (r2<=64)) ((fB k a1).bind λr3=>cond (r3) ((gd k a1 r2).bind λr4=>cond (r4) (some ((⟨(1:Int),(1:Int),a1.out⟩:Shape),true)) (some ((⟨(0:Int),(0:Int),(0:Int)⟩:Shape),false))) (some ((⟨(0:Int),(0:Int),(0:Int)⟩:Shape),false))) (some ((⟨(0:Int),(0:Int),(0:Int)⟩:Shape),false))) (cond (a1.kind==1) ((eN k a1 a0).bind λr5=>cond (r5) (cond (decide ((a1.weights.length:Int)<=(600:Int))) ((gd k a1 (i64.wrap ((i64.wrap (a1.size*a1.size))*a0.c))).bind λr6=>cond (r6) ((fC k a1 a0 a1.out).bind λr7=>some (r7,true)) (some ((⟨(0:Int),(0:Int),(0:Int)⟩:Shape),false))) (some ((⟨(0:Int),(0:Int),(0:Int)⟩:Shape),false))) (some ((⟨(0:Int),(0:Int),(0:Int)⟩:Shape),false))) (cond (a1.kind==2) ((eN k a1 a0).bind λr8=>cond (r8) ((fh k a1).bind λr9=>cond (r9) (cond (a1.zero==0) ((fC k a1 a0 a0.c).bind λr10=>some (r10,true)) (some ((⟨(0:Int),(0:Int),(0:Int)⟩:Shape),false))) (some ((⟨(0:Int),(0:Int),(0:Int)⟩:Shape),false))) (some ((⟨(0:Int),(0:Int),(0:Int)⟩:Shape),false))) (cond (a1.kind==3) ((eN k a1 a0).bind λr11=>cond (r11) ((fh k a1).bind λr12=>cond (r12) (cond (a1.zero==0) ((fC k a1 a0 a0.c).bind λr13=>some (r13,true)) (some ((⟨(0:Int),(0:Int),(0:Int)⟩:Shape),false))) (some ((⟨(0:Int),(0:Int),(0:Int)⟩:Shape),false))) (some ((⟨(0:Int),(0:Int),(0:Int)⟩:Shape),false))) (cond (a1.kind==4) ((fB k a1).bind λr14=>cond (r14) ((fh k a1).bind λr15=>cond (r15) ((sJ k a1.zero (-128:Int) (127:Int)).bind λr16=>cond (r16) (some (a0,true)) (some ((⟨(0:Int),(0:Int),(0:Int)⟩:Shape),false))) (some ((⟨(0:Int),(0:Int),(0:Int)⟩:Shape),false))) (some ((⟨(0:Int),(0:Int),(0:Int)⟩:Shape),false))) (cond (a1.kind==5) ((fB k a1).bind λr17=>cond (r17) ((fh k a1).bind λr18=>cond (r18) (cond (a1.zero==0) (cond (decide (r2<=8)) (some ((⟨(1:Int),(1:Int),r2⟩:Shape),true)) (some ((⟨(0:Int),(0:Int),(0:Int)⟩:Shape),false))) (some ((⟨(0:Int),(0:Int),(0:Int)⟩:Shape),false))) (some ((⟨(0:Int),(0:Int),(0:Int)⟩:Shape),false))) (some ((⟨(0:Int),(0:Int),(0:Int)⟩:Shape),false))) (some ((⟨(0:Int),(0:Int),(0:Int)⟩:Shape),false))))))))
def fD {ρ:Type} (k:Nat) (p:List av× Int) (v:Int× List Shape× Int× Int× Int) (next:(Int× List Shape× Int× Int× Int)->Option ρ) (x0:(List Shape)->Option ρ) (fZ:Bool->Option ρ):Option ρ:=
 cond (decide (v.1<p.2)) ((idx p.1 v.1).bind λe1=>(mL k (⟨v.2.2.1,v.2.2.2.1,v.2.2.2.2⟩:Shape) e1).bind λr2=>cond (!r2.2) (fZ false) (cond (Nat.ble (v.2.1.length+[r2.1].length) aU) (next (i64.wrap (v.1+1),v.2.1++[r2.1],r2.1.h,r2.1.w,r2.1.c)) none)) (x0 v.2.1)
def iA (k:Nat) (a0:Model):Option (List Shape× Bool):=
 iter (λu5 n5=>fD k (a0.aC,(a0.aC.length:Int)) u5 n5 (λy3=>some (y3,true)) (λy4=>some (([]:List Shape),y4))) k ((0:Int),[a0.inp],a0.inp.h,a0.inp.w,a0.inp.c)
def nd (k:Nat) (a0:Model):Option (Bool):=
 (sJ k (a0.aC.length:Int) (1:Int) (6:Int)).bind λr1=>cond (!r1) (some false) ((iA k a0).bind λr2=>some r2.2)
def pk (k:Nat) (a0:Model):Option (List Shape):=
 (nd k a0).bind λr1=>cond (!r1) (some ([]:List Shape)) ((iA k a0).bind λr2=>some r2.1)
def zy (k:Nat) (a0:Shape) (a1:av):Option (Int):=
 (mL k a0 a1).bind λr1=>cond (!r1.2) (some (0:Int)) ((kP k a0).bind λr2=>cond (a1.kind==0) ((kP k r1.1).bind λr3=>some (i64.wrap ((1:Int)+(i64.wrap ((i64.wrap (r2*r3)).tdiv (16:Int)))))) (cond (a1.kind==1) ((kP k r1.1).bind λr4=>some (i64.wrap ((1:Int)+(i64.wrap ((i64.wrap ((i64.wrap ((i64.wrap (r4*a1.size))*a1.size))*a0.c)).tdiv (16:Int)))))) (cond (a1.kind==2) ((kP k r1.1).bind λr5=>some (i64.wrap ((1:Int)+(i64.wrap ((i64.wrap ((i64.wrap (r5*a1.size))*a1.size)).tdiv (16:Int)))))) (cond (a1.kind==3) ((kP k r1.1).bind λr6=>some (i64.wrap ((1:Int)+(i64.wrap ((i64.wrap ((i64.wrap (r6*a1.size))*a1.size)).tdiv (16:Int)))))) (some (i64.wrap ((1:Int)+(i64.wrap (r2.tdiv (16:Int))))))))))
def lq {ρ:Type} (k:Nat) (p:Int× Int× Int× Int× List av× List Shape) (v:Int× List Int) (next:(Int× List Int)->Option ρ) (x0:(List Int)->Option ρ):Option ρ:=
 cond (decide (v.1<p.1)) (cond (decide (0<=v.1/\v.1<(p.2.2.2.2.2.length:Int))) ((p.2.2.2.2.2[v.1.toNat]?).bind λe2=>cond (decide (v.1<(p.2.2.2.2.1.length:Int))) ((idx p.2.2.2.2.1 v.1).bind λe3=>(zy k e2 e3).bind λr4=>cond (Nat.ble (v.2.length+[r4].length) aU) (next (i64.wrap (v.1+1),v.2++[r4])) none) (next (i64.wrap (v.1+1),v.2))) none) (x0 v.2)
def lr (k:Nat) (a0:Model):Option (List Int):=
 (pk k a0).bind λr1=>iter (λu6 n6=>lq k ((r1.length:Int),a0.inp.h,a0.inp.w,a0.inp.c,a0.aC,r1) u6 n6 (λy5=>some y5)) k ((0:Int),([]:List Int))
def vC {ρ:Type} (k:Nat) (p:List Int× Int) (v:Int× Int) (next:(Int× Int)->Option ρ) (x0:Int->Option ρ):Option ρ:=
 cond (decide (v.2<p.2)) ((idx p.1 v.2).bind λe1=>next (i64.wrap (v.1+e1),i64.wrap (v.2+1))) (x0 v.1)
def N8 (k:Nat) (a0:List Int):Option (Int):=
 iter (λu3 n3=>vC k (a0,(a0.length:Int)) u3 n3 (λy2=>some y2)) k ((0:Int),(0:Int))
def qg (k:Nat) (a0:Model):Option (Int):=
 (lr k a0).bind λr1=>(N8 k r1).bind λr2=>some r2
end
end
set_option maxRecDepth 100000
section
noncomputable section
def lu {ρ:Type} (k:Nat) (p:Int× Int× Int× List Task× Int× Int× Int× Int× Int× Int× Int× Int× Int× Int× Int× Int× Int× Int× Int× Int× Int× Int) (v:Int× List Task) (next:(Int× List Task)->Option ρ) (x0:(List Task)->Option ρ):Option ρ:=
 cond (decide (v.1<(p.2.2.2.1.length:Int))) ((idx p.2.2.2.1 v.1).bind λe1=>(lh k e1.ay).bind λr2=>cond (Nat.ble (v.2.length+1) aU) (next (i64.wrap (v.1+1),v.2++[(⟨e1.id,r2,e1.at_,e1.due,e1.born⟩:Task)])) none) (x0 v.2)
def ng (k:Nat) (a0:ak):Option (ak):=
 iter (λu4 n4=>lu k (a0.now,a0.ai,a0.age,a0.tasks,a0.run,a0.left,a0.turns,a0.next,(0:Int),(0:Int),(0:Int),(0:Int),(0:Int),(0:Int),(0:Int),a0.now,a0.ai,a0.age,a0.run,a0.left,a0.turns,a0.next) u4 n4 (λy3=>some (⟨a0.now,a0.ai,a0.age,y3,a0.run,a0.left,a0.turns,a0.next⟩:ak))) k ((0:Int),([]:List Task))
def lx (k:Nat) (a0:Int):Option (Bool):=
 (bA k a0 (0:Int) (1000000:Int)).bind λr1=>some r1
def qh {ρ:Type} (k:Nat) (p:Int× List Int× Int× Int× Int) (v:Int) (next:Int->Option ρ) (x0:Unit->Option ρ) (fZ:Bool->Option ρ):Option ρ:=
 cond (decide (v<(p.2.1.length:Int))) ((idx p.2.1 v).bind λe6=>(bA k e6 (1:Int) (1000:Int)).bind λr7=>cond (!r7) (fZ false) (next (i64.wrap (v+1)))) (x0 ())
def vD (k:Nat) (a0:Task):Option (Bool):=
 (bA k a0.id (1:Int) (1000000:Int)).bind λr1=>cond (!r1) (some false) ((bA k (a0.ay.length:Int) (1:Int) (6:Int)).bind λr2=>cond (!r2) (some false) ((bA k a0.at_ (0:Int) (i64.wrap ((a0.ay.length:Int)-(1:Int)))).bind λr3=>cond (!r3) (some false) ((lx k a0.due).bind λr4=>cond (!r4) (some false) ((lx k a0.born).bind λr5=>cond (!r5) (some false) (iter (λu10 n10=>qh k (a0.id,a0.ay,a0.at_,a0.due,a0.born) u10 n10 (λy8=>some true) (λy9=>some y9)) k (0:Int))))))
def sM {ρ:Type} (k:Nat) (p:Int× Int× Int× Int× List Task× Int× Int× Int× Int) (v:Int) (next:Int->Option ρ) (x0:Unit->Option ρ) (fZ:Int->Option ρ):Option ρ:=
 cond (decide (v<(p.2.2.2.2.1.length:Int))) ((idx p.2.2.2.2.1 v).bind λe1=>cond (e1.id==p.1) (fZ v) (next (i64.wrap (v+1)))) (x0 ())
def lU (k:Nat) (a0:ak) (a1:Int):Option (Int):=
 iter (λu4 n4=>sM k (a1,a0.now,a0.ai,a0.age,a0.tasks,a0.run,a0.left,a0.turns,a0.next) u4 n4 (λy2=>some (-1:Int)) (λy3=>some y3)) k (0:Int)
def nS {ρ:Type} (k:Nat) (p:Int× Int× Int× List Task× Int× Int× Int× Int) (v:Int) (next:Int->Option ρ) (x0:Unit->Option ρ) (fZ:Bool->Option ρ):Option ρ:=
 cond (decide (v<(p.2.2.2.1.length:Int))) ((idx p.2.2.2.1 v).bind λe6=>(vD k e6).bind λr7=>cond (!r7) (fZ false) (cond (decide (e6.id>=p.2.2.2.2.2.2.2)) (fZ false) (cond (decide (e6.born>p.1)) (fZ false) (cond (decide (v>0)) ((idx p.2.2.2.1 (i64.wrap (v-1))).bind λe8=>cond (decide (e8.id>=e6.id)) (fZ false) (next (i64.wrap (v+1)))) (next (i64.wrap (v+1))))))) (x0 ())
def fE (k:Nat) (a0:ak):Option (Bool):=
 (lx k a0.now).bind λr1=>cond (!r1) (some false) ((bA k a0.ai (0:Int) (1000:Int)).bind λr2=>cond (!r2) (some false) ((bA k a0.age (0:Int) (20:Int)).bind λr3=>cond (!r3) (some false) (cond (decide ((a0.tasks.length:Int)>(12:Int))) (some false) ((lx k a0.turns).bind λr4=>cond (!r4) (some false) ((bA k a0.next (1:Int) (1000000:Int)).bind λr5=>cond (!r5) (some false) (iter (λu16 n16=>nS k (a0.now,a0.ai,a0.age,a0.tasks,a0.run,a0.left,a0.turns,a0.next) u16 n16 (λy9=>cond (a0.run==0) (some (a0.left==0)) ((lU k a0 a0.run).bind λr10=>cond (decide (r10>=0)) ((idx a0.tasks r10).bind λe11=>(idx a0.tasks r10).bind λe12=>(idx e11.ay e12.at_).bind λe13=>(bA k a0.left (1:Int) e13).bind λr14=>some r14) (some false))) (λy15=>some y15)) k (0:Int)))))))
def nh {ρ:Type} (k:Nat) (p:Int× Int× Int× List Task× Int× Int× Int× Int) (v:Int× List Int) (next:(Int× List Int)->Option ρ) (x0:(List Int)->Option ρ):Option ρ:=
 cond (decide (v.1<(p.2.2.2.1.length:Int))) ((idx p.2.2.2.1 v.1).bind λe2=>cond (decide (e2.due<=p.1)) ((idx p.2.2.2.1 v.1).bind λe3=>cond (Nat.ble (v.2.length+[e3.id].length) aU) (next (i64.wrap (v.1+1),v.2++[e3.id])) none) (next (i64.wrap (v.1+1),v.2))) (x0 v.2)
def zz (k:Nat) (a0:ak):Option (List Int):=
 (fE k a0).bind λr1=>cond (!r1) (some ([]:List Int)) (iter (λu5 n5=>nh k (a0.now,a0.ai,a0.age,a0.tasks,a0.run,a0.left,a0.turns,a0.next) u5 n5 (λy4=>some y4)) k ((0:Int),([]:List Int)))
def jJ {ρ:Type} (k:Nat) (p:Int× Int× Int× Int× List Task× Int× Int× Int× Int× Int× List Int× Int× Int× Int) (v:Int× Int) (next:(Int× Int)->Option ρ) (x0:Int->Option ρ):Option ρ:=
 cond (decide (v.2<(p.2.2.2.2.2.2.2.2.2.2.1.length:Int))) ((idx p.2.2.2.2.2.2.2.2.2.2.1 v.2).bind λe4=>next (i64.wrap (v.1+e4),i64.wrap (v.2+1))) (x0 v.1)
def sN (k:Nat) (a0:ak) (a1:Int):Option (Int):=
 (lU k a0 a1).bind λr1=>(fE k a0).bind λr2=>cond (!r2) (some (-1:Int)) (cond (decide (r1<0)) (some (-1:Int)) ((idx a0.tasks r1).bind λe3=>iter (λu7 n7=>jJ k (a1,a0.now,a0.ai,a0.age,a0.tasks,a0.run,a0.left,a0.turns,a0.next,e3.id,e3.ay,e3.at_,e3.due,e3.born) u7 n7 (λy5=>cond (a0.run==a1) ((idx e3.ay e3.at_).bind λe6=>some (i64.wrap ((i64.wrap (y5-e6))+a0.left))) (some y5))) k ((0:Int),e3.at_)))
def jK {ρ:Type} (k:Nat) (p:Int× Int× Int× Int× List Task× Int× Int× Int× Int) (v:Int× Int) (next:(Int× Int)->Option ρ) (x0:Int->Option ρ):Option ρ:=
 cond (decide (v.2<(p.2.2.2.2.1.length:Int))) ((idx p.2.2.2.2.1 v.2).bind λe2=>cond (decide (e2.due<=p.1)) ((idx p.2.2.2.2.1 v.2).bind λe3=>(sN k (⟨p.2.1,p.2.2.1,p.2.2.2.1,p.2.2.2.2.1,p.2.2.2.2.2.1,p.2.2.2.2.2.2.1,p.2.2.2.2.2.2.2.1,p.2.2.2.2.2.2.2.2⟩:ak) e3.id).bind λr4=>next (i64.wrap (v.1+r4),i64.wrap (v.2+1))) (next (v.1,i64.wrap (v.2+1)))) (x0 v.1)
def sO (k:Nat) (a0:ak) (a1:Int):Option (Int):=
 (fE k a0).bind λr1=>cond (!r1) (some (-1:Int)) (iter (λu6 n6=>jK k (a1,a0.now,a0.ai,a0.age,a0.tasks,a0.run,a0.left,a0.turns,a0.next) u6 n6 (λy5=>some y5)) k ((0:Int),(0:Int)))
def vE (k:Nat) (a0:ak) (a1:Int):Option (Int):=
 (fE k a0).bind λr1=>cond (!r1) (some (-1:Int)) ((lU k a0 a0.run).bind λr2=>cond (decide (r2>=0)) ((idx a0.tasks r2).bind λe3=>cond (decide (e3.due>a1)) (some a0.left) (some (0:Int))) (some (0:Int)))
def qi {ρ:Type} (k:Nat) (p:Int× Int× Int× List Task× Int× Int× Int× Int) (v:Int) (next:Int->Option ρ) (x0:Unit->Option ρ) (fZ:Bool->Option ρ):Option ρ:=
 cond (decide (v<(p.2.2.2.1.length:Int))) ((idx p.2.2.2.1 v).bind λe3=>(sO k (⟨p.1,p.2.1,p.2.2.1,p.2.2.2.1,p.2.2.2.2.1,p.2.2.2.2.2.1,p.2.2.2.2.2.2.1,p.2.2.2.2.2.2.2⟩:ak) e3.due).bind λr4=>(vE k (⟨p.1,p.2.1,p.2.2.1,p.2.2.2.1,p.2.2.2.2.1,p.2.2.2.2.2.1,p.2.2.2.2.2.2.1,p.2.2.2.2.2.2.2⟩:ak) e3.due).bind λr5=>cond (decide ((i64.wrap ((i64.wrap (r4+r5))+p.2.1))>(i64.wrap (e3.due-p.1)))) (fZ false) (next (i64.wrap (v+1)))) (x0 ())
def zA (k:Nat) (a0:ak):Option (Bool):=
 (fE k a0).bind λr1=>cond (!r1) (some false) ((zz k a0).bind λr2=>cond (decide ((r2.length:Int)>(0:Int))) (some false) (iter (λu8 n8=>qi k (a0.now,a0.ai,a0.age,a0.tasks,a0.run,a0.left,a0.turns,a0.next) u8 n8 (λy6=>some true) (λy7=>some y7)) k (0:Int)))
def EN (k:Nat) (a0:ak) (a1:List Int) (a2:Int):Option (ak× Int× Int):=
 (ng k a0).bind λr1=>(lh k a1).bind λr2=>(fE k a0).bind λr3=>cond (!r3) (some (r1,(0:Int),(1:Int))) ((vD k (⟨a0.next,r2,(0:Int),a2,a0.now⟩:Task)).bind λr4=>cond (!r4) (some (r1,(0:Int),(1:Int))) (cond ((a0.tasks.length:Int)==(12:Int)) (some (r1,(0:Int),(2:Int))) (cond (a0.next==1000000) (some (r1,(0:Int),(2:Int))) (cond (Nat.ble (r1.tasks.length+1) aU) ((zA k (⟨r1.now,r1.ai,r1.age,(r1.tasks++[(⟨a0.next,r2,(0:Int),a2,a0.now⟩:Task)]),r1.run,r1.left,r1.turns,(i64.wrap (a0.next+1))⟩:ak)).bind λr5=>cond (!r5) ((ng k a0).bind λr6=>some (r6,(0:Int),(3:Int))) (some ((⟨r1.now,r1.ai,r1.age,(r1.tasks++[(⟨a0.next,r2,(0:Int),a2,a0.now⟩:Task)]),r1.run,r1.left,r1.turns,(i64.wrap (a0.next+1))⟩:ak),a0.next,(0:Int)))) none))))
def fF {ρ:Type} (k:Nat) (p:List Task× Int× Int× Int× Int× Int× Int× Int× Int× Int× Int× Int× Int× Int× Int× Int) (v:Int× List Task) (next:(Int× List Task)->Option ρ) (x0:(List Task)->Option ρ):Option ρ:=
 cond (decide (v.1<p.2.1)) ((idx p.1 v.1).bind λe1=>(bW k e1.ay).bind λr2=>cond (Nat.ble (v.2.length+1) aU) (next (i64.wrap (v.1+1),v.2++[(⟨e1.id,r2,e1.at_,e1.due,e1.born⟩:Task)])) none) (x0 v.2)
def gu (k:Nat) (a0:ak):Option (ak):=
 iter (λu4 n4=>fF k (a0.tasks,(a0.tasks.length:Int),a0.now,a0.ai,a0.age,a0.run,a0.left,a0.turns,a0.next,(0:Int),(0:Int),(0:Int),(0:Int),(0:Int),(0:Int),(0:Int)) u4 n4 (λy3=>some (⟨a0.now,a0.ai,a0.age,y3,a0.run,a0.left,a0.turns,a0.next⟩:ak))) k ((0:Int),([]:List Task))
def nT (k:Nat) (a0:Int):Option (Bool):=
 (sJ k a0 (0:Int) (1000000:Int)).bind λr1=>some r1
def uz (k:Nat) (a0:Int):Option (Bool):=
 (sJ k a0 (1:Int) (1000:Int)).bind λr1=>some (!r1)
def br {ρ:Type} (k:Nat) (p:List Int× Int) (v:Int) (next:Int->Option ρ) (x0:Unit->Option ρ) (fZ:Int->Option ρ):Option ρ:=
 cond (decide (v<p.2)) ((idx p.1 v).bind λe1=>(uz k e1).bind λr2=>cond (r2) (fZ v) (next (i64.wrap (v+1)))) (x0 ())
def cL (k:Nat) (a0:List Int):Option (Int):=
 iter (λu5 n5=>br k (a0,(a0.length:Int)) u5 n5 (λy3=>some (-1:Int)) (λy4=>some y4)) k (0:Int)
def cr (k:Nat) (a0:List Int):Option (Bool):=
 (cL k a0).bind λr1=>some (decide (r1>=0))
def vF (k:Nat) (a0:Task):Option (Bool):=
 (sJ k a0.id (1:Int) (1000000:Int)).bind λr1=>cond (r1) ((sJ k (a0.ay.length:Int) (1:Int) (6:Int)).bind λr2=>cond (r2) ((cr k a0.ay).bind λr3=>cond (!r3) ((sJ k a0.at_ (0:Int) (i64.wrap ((a0.ay.length:Int)-(1:Int)))).bind λr4=>cond (r4) ((nT k a0.due).bind λr5=>cond (r5) ((nT k a0.born).bind λr6=>some r6) (some false)) (some false)) (some false)) (some false)) (some false)
def fQ {ρ:Type} (k:Nat) (p:List Task× Int× Int× Int× Int× List Task× Int× Int× Int× Int) (v:Int) (next:Int->Option ρ) (x0:Unit->Option ρ) (fZ:Bool->Option ρ):Option ρ:=
 cond (decide (v<p.2.1)) ((idx p.1 v).bind λe1=>(vF k e1).bind λr2=>cond (!r2) (fZ false) (cond (decide (e1.id>=p.2.2.2.2.2.2.2.2.2)) (fZ false) (cond (decide (e1.born>p.2.2.1)) (fZ false) (cond (decide (v>0)) ((idx p.2.2.2.2.2.1 (i64.wrap (v-1))).bind λe3=>cond (decide (e3.id>=e1.id)) (fZ false) (next (i64.wrap (v+1)))) (next (i64.wrap (v+1))))))) (x0 ())
def iJ (k:Nat) (a0:ak):Option (Bool):=
 iter (λu6 n6=>fQ k (a0.tasks,(a0.tasks.length:Int),a0.now,a0.ai,a0.age,a0.tasks,a0.run,a0.left,a0.turns,a0.next) u6 n6 (λy4=>some (decide ((a0.tasks.length:Int)<=(12:Int)))) (λy5=>some y5)) k (0:Int)
def kB (k:Nat) (a0:Task) (EO:Int):Option (Bool):=
 cond (decide (EO=EO)) (some (a0.id==EO)) none
def bV {ρ:Type} (k:Nat) (p:List Task× Int× Int) (v:Int) (next:Int->Option ρ) (x0:Unit->Option ρ) (fZ:Int->Option ρ):Option ρ:=
 cond (decide (v<p.2.1)) ((idx p.1 v).bind λe1=>(kB k e1 p.2.2).bind λr2=>cond (r2) (fZ v) (next (i64.wrap (v+1)))) (x0 ())
def dq (k:Nat) (a0:List Task) (dz:Int):Option (Int):=
 iter (λu5 n5=>bV k (a0,(a0.length:Int),dz) u5 n5 (λy3=>cond (decide (dz=dz)) (some (-1:Int)) none) (λy4=>cond (decide (dz=dz)) (some y4) none)) k (0:Int)
def dw (k:Nat) (a0:ak) (a1:Int):Option (Int):=
 (dq k a0.tasks a1).bind λr1=>some r1
def ni (k:Nat) (a0:ak):Option (Bool):=
 (nT k a0.now).bind λr1=>cond (!r1) (some false) ((sJ k a0.ai (0:Int) (1000:Int)).bind λr2=>cond (!r2) (some false) ((sJ k a0.age (0:Int) (20:Int)).bind λr3=>cond (!r3) (some false) ((nT k a0.turns).bind λr4=>cond (!r4) (some false) ((sJ k a0.next (1:Int) (1000000:Int)).bind λr5=>cond (!r5) (some false) ((iJ k a0).bind λr6=>cond (!r6) (some false) ((dw k a0 a0.run).bind λr7=>cond (a0.run==0) (cond (a0.run==0) (some (a0.left==0)) (some false)) (cond (decide (r7<0)) (cond (a0.run==0) (some (a0.left==0)) (some false)) ((idx a0.tasks r7).bind λe8=>(idx a0.tasks r7).bind λe9=>(idx e8.ay e9.at_).bind λe10=>(sJ k a0.left (1:Int) e10).bind λr11=>some r11))))))))
def dm (k:Nat) (a0:ak) (a1:Task):Option (Bool):=
 some (decide (a1.due<=a0.now))
def kQ (k:Nat) (a0:ak) (a1:Task):Option (Int):=
 cond (decide (0<=a1.at_/\a1.at_<=(a1.ay.length:Int))) ((N8 k ((a1.ay.take a1.ay.length).drop a1.at_.toNat)).bind λr1=>cond (a0.run==a1.id) ((idx a1.ay a1.at_).bind λe2=>some (i64.wrap (r1+(i64.wrap (a0.left-e2))))) (some r1)) none
def fG {ρ:Type} (k:Nat) (p:Int× List Task× Int× Int× Int× Int× List Task× Int× Int× Int× Int) (v:Int× Int) (next:(Int× Int)->Option ρ) (x0:Int->Option ρ):Option ρ:=
 cond (decide (v.2<p.2.2.1)) ((idx p.2.1 v.2).bind λe1=>cond (decide (e1.due<=p.1)) ((kQ k (⟨p.2.2.2.1,p.2.2.2.2.1,p.2.2.2.2.2.1,p.2.2.2.2.2.2.1,p.2.2.2.2.2.2.2.1,p.2.2.2.2.2.2.2.2.1,p.2.2.2.2.2.2.2.2.2.1,p.2.2.2.2.2.2.2.2.2.2⟩:ak) e1).bind λr2=>next (i64.wrap (v.1+r2),i64.wrap (v.2+1))) (next (v.1,i64.wrap (v.2+1)))) (x0 v.1)
def kR (k:Nat) (a0:ak) (a1:Int):Option (Int):=
 iter (λu4 n4=>fG k (a1,a0.tasks,(a0.tasks.length:Int),a0.now,a0.ai,a0.age,a0.tasks,a0.run,a0.left,a0.turns,a0.next) u4 n4 (λy3=>some y3)) k ((0:Int),(0:Int))
def l7 (k:Nat) (a0:ak) (a1:Int):Option (Int):=
 (dw k a0 a0.run).bind λr1=>cond (decide (r1>=0)) ((idx a0.tasks r1).bind λe2=>cond (decide (e2.due>a1)) (some a0.left) (some (0:Int))) (some (0:Int))
def l9 (k:Nat) (a0:Task) (a1:ak):Option (Bool):=
 (dm k a1 a0).bind λr1=>cond (r1) (cond (decide (a1.now=a1.now)) (cond (decide (a1.ai=a1.ai)) (cond (decide (a1.age=a1.age)) (cond (decide (a1.tasks=a1.tasks)) (cond (decide (a1.run=a1.run)) (cond (decide (a1.left=a1.left)) (cond (decide (a1.turns=a1.turns)) (cond (decide (a1.next=a1.next)) (some true) none) none) none) none) none) none) none) none) ((kR k a1 a0.due).bind λr2=>(l7 k a1 a0.due).bind λr3=>cond (decide (a1.now=a1.now)) (cond (decide (a1.ai=a1.ai)) (cond (decide (a1.age=a1.age)) (cond (decide (a1.tasks=a1.tasks)) (cond (decide (a1.run=a1.run)) (cond (decide (a1.left=a1.left)) (cond (decide (a1.turns=a1.turns)) (cond (decide (a1.next=a1.next)) (some (decide ((i64.wrap ((i64.wrap (r2+r3))+a1.ai))>(i64.wrap (a0.due-a1.now))))) none) none) none) none) none) none) none) none)
def bN {ρ:Type} (k:Nat) (p:List Task× Int× Int× Int× Int× List Task× Int× Int× Int× Int) (v:Int) (next:Int->Option ρ) (x0:Unit->Option ρ) (fZ:Int->Option ρ):Option ρ:=
 cond (decide (v<p.2.1)) ((idx p.1 v).bind λe1=>(l9 k e1 (⟨p.2.2.1,p.2.2.2.1,p.2.2.2.2.1,p.2.2.2.2.2.1,p.2.2.2.2.2.2.1,p.2.2.2.2.2.2.2.1,p.2.2.2.2.2.2.2.2.1,p.2.2.2.2.2.2.2.2.2⟩:ak)).bind λr2=>cond (r2) (fZ v) (next (i64.wrap (v+1)))) (x0 ())
def dj (k:Nat) (a0:List Task) (eM:ak):Option (Int):=
 iter (λu5 n5=>bN k (a0,(a0.length:Int),eM.now,eM.ai,eM.age,eM.tasks,eM.run,eM.left,eM.turns,eM.next) u5 n5 (λy3=>cond (decide (eM.now=eM.now)) (cond (decide (eM.ai=eM.ai)) (cond (decide (eM.age=eM.age)) (cond (decide (eM.tasks=eM.tasks)) (cond (decide (eM.run=eM.run)) (cond (decide (eM.left=eM.left)) (cond (decide (eM.turns=eM.turns)) (cond (decide (eM.next=eM.next)) (some (-1:Int)) none) none) none) none) none) none) none) none) (λy4=>cond (decide (eM.now=eM.now)) (cond (decide (eM.ai=eM.ai)) (cond (decide (eM.age=eM.age)) (cond (decide (eM.tasks=eM.tasks)) (cond (decide (eM.run=eM.run)) (cond (decide (eM.left=eM.left)) (cond (decide (eM.turns=eM.turns)) (cond (decide (eM.next=eM.next)) (some y4) none) none) none) none) none) none) none) none)) k (0:Int)
def cU (k:Nat) (a0:List Task) (eM:ak):Option (Bool):=
 (dj k a0 eM).bind λr1=>cond (decide (eM.now=eM.now)) (cond (decide (eM.ai=eM.ai)) (cond (decide (eM.age=eM.age)) (cond (decide (eM.tasks=eM.tasks)) (cond (decide (eM.run=eM.run)) (cond (decide (eM.left=eM.left)) (cond (decide (eM.turns=eM.turns)) (cond (decide (eM.next=eM.next)) (some (decide (r1>=0))) none) none) none) none) none) none) none) none
def zB (k:Nat) (a0:ak):Option (Bool):=
 (ni k a0).bind λr1=>cond (r1) ((cU k a0.tasks a0).bind λr2=>some (!r2)) (some false)
def EP (k:Nat) (a0:ak) (a1:List Int) (a2:Int):Option (ak× Int× Int):=
 (bW k a1).bind λr1=>(gu k a0).bind λr2=>(ni k a0).bind λr3=>cond (!r3) (some (r2,(0:Int),(1:Int))) ((vF k (⟨a0.next,r1,(0:Int),a2,a0.now⟩:Task)).bind λr4=>cond (!r4) (some (r2,(0:Int),(1:Int))) (cond ((a0.tasks.length:Int)==(12:Int)) (some (r2,(0:Int),(2:Int))) (cond (a0.next==1000000) (some (r2,(0:Int),(2:Int))) ((gu k a0).bind λr5=>cond (Nat.ble (r5.tasks.length+1) aU) ((zB k (⟨r5.now,r5.ai,r5.age,(r5.tasks++[(⟨a0.next,r1,(0:Int),a2,a0.now⟩:Task)]),r5.run,r5.left,r5.turns,(i64.wrap (r5.next+1))⟩:ak)).bind λr6=>cond (!r6) (some (r2,(0:Int),(3:Int))) (some ((⟨r5.now,r5.ai,r5.age,(r5.tasks++[(⟨a0.next,r1,(0:Int),a2,a0.now⟩:Task)]),r5.run,r5.left,r5.turns,(i64.wrap (r5.next+1))⟩:ak),a0.next,(0:Int)))) none))))
end
end
set_option maxRecDepth 100000
section
noncomputable section
def iB {ρ:Type} (k:Nat) (p:Int× Int× Int× Int× Int× Int× Int× Int× List dY) (v:Int× List dY) (next:(Int× List dY)->Option ρ) (x0:(List dY)->Option ρ):Option ρ:=
 cond (decide (v.1<(p.2.2.2.2.2.2.2.2.length:Int))) (cond (decide (0<=v.1/\v.1<(p.2.2.2.2.2.2.2.2.length:Int))) ((p.2.2.2.2.2.2.2.2[v.1.toNat]?).bind λe1=>cond (e1.id !=p.1) (cond (decide (0<=v.1/\v.1<(p.2.2.2.2.2.2.2.2.length:Int))) ((p.2.2.2.2.2.2.2.2[v.1.toNat]?).bind λe2=>cond (Nat.ble (v.2.length+[e2].length) aU) (next (i64.wrap (v.1+1),v.2++[e2])) none) none) (next (i64.wrap (v.1+1),v.2))) none) (x0 v.2)
def gF (k:Nat) (aZ:Int) (fM:Int) (fH:Int) (pJ:List dY) (AV:Int) (ER:Int) (xu:Int) (nU:Int) (a1:Int):Option (List dY):=
 iter (λu4 n4=>iB k (a1,aZ,fM,fH,AV,ER,xu,nU,pJ) u4 n4 (λy3=>cond (decide (aZ=aZ)) (cond (decide (fM=fM)) (cond (decide (fH=fH)) (cond (decide (AV=AV)) (cond (decide (ER=ER)) (cond (decide (xu=xu)) (cond (decide (nU=nU)) (some y3) none) none) none) none) none) none) none)) k ((0:Int),([]:List dY))
def ly (k:Nat) (a0:ak) (a1:Int):Option (ak× Bool):=
 (ng k a0).bind λr1=>(fE k a0).bind λr2=>cond (!r2) (some (r1,false)) ((lU k a0 a1).bind λr3=>cond (decide (r3<0)) (some (r1,false)) ((lT r1.tasks).bind λy4=>(gF k r1.now r1.ai r1.age y4 r1.run r1.left r1.turns r1.next a1).bind λr5=>cond (ky r5) ((qM r1.tasks r5).bind λz6=>cond (r1.run==a1) (some ((⟨r1.now,r1.ai,r1.age,z6,(0:Int),(0:Int),r1.turns,r1.next⟩:ak),true)) (some ((⟨r1.now,r1.ai,r1.age,z6,r1.run,r1.left,r1.turns,r1.next⟩:ak),true))) none))
def eD (k:Nat) (a0:dY) (EO:Int):Option (Bool):=
 cond (decide (EO=EO)) (some (a0.id==EO)) none
def bO {ρ:Type} (k:Nat) (p:List dY× Int× Int) (v:Int) (next:Int->Option ρ) (x0:Unit->Option ρ) (fZ:Int->Option ρ):Option ρ:=
 cond (decide (v<p.2.1)) ((idx p.1 v).bind λe1=>(eD k e1 p.2.2).bind λr2=>cond (r2) (fZ v) (next (i64.wrap (v+1)))) (x0 ())
def cj (k:Nat) (a0:List dY) (dz:Int):Option (Int):=
 iter (λu5 n5=>bO k (a0,(a0.length:Int),dz) u5 n5 (λy3=>cond (decide (dz=dz)) (some (-1:Int)) none) (λy4=>cond (decide (dz=dz)) (some y4) none)) k (0:Int)
def ba {ρ:Type} (k:Nat) (p:Int) (v:Int× Int× List dY) (next:(Int× Int× List dY)->Option ρ) (x0:(Int× List dY)->Option ρ):Option ρ:=
 cond (decide (v.2.1<(v.2.2.length:Int))) (cond (decide (0<=v.2.1/\v.2.1<(v.2.2.length:Int))) ((v.2.2[v.2.1.toNat]?).bind λe2=>(eD k e2 p).bind λr3=>cond (!r3) (cond (decide (0<=v.1/\v.1<(v.2.2.length:Int))) (next (i64.wrap (v.1+1),i64.wrap (v.2.1+1),v.2.2.set v.1.toNat e2)) none) (next (v.1,i64.wrap (v.2.1+1),v.2.2))) none) (x0 (v.1,v.2.2))
def bo (k:Nat) (a0:List dY) (dz:Int):Option (List dY):=
 (cj k a0 dz).bind λr1=>cond (r1==(-1:Int)) (cond (decide (dz=dz)) (some a0) none) (iter (λu5 n5=>ba k dz u5 n5 (λy4=>cond (decide (0<=y4.1/\y4.1<=(y4.2.length:Int))) (cond (decide (0<=y4.1/\y4.1<=(((y4.2).take y4.1.toNat++List.replicate (y4.2.length-y4.1.toNat) (⟨(0:Int),(0:Nat),(0:Int),(0:Int),(0:Int)⟩:dY)++(y4.2).drop (y4.1.toNat+(y4.2.length-y4.1.toNat))).length:Int))) (cond (decide (dz=dz)) (some (((y4.2).take y4.1.toNat++List.replicate (y4.2.length-y4.1.toNat) (⟨(0:Int),(0:Nat),(0:Int),(0:Int),(0:Int)⟩:dY)++(y4.2).drop (y4.1.toNat+(y4.2.length-y4.1.toNat))).take (y4.1.toNat-0))) none) none) none)) k (r1,i64.wrap (r1+1),a0))
def dP (k:Nat) (aZ:Int) (fM:Int) (fH:Int) (pJ:List dY) (AV:Int) (ER:Int) (xu:Int) (nU:Int) (a1:Int):Option (List dY× Int× Int):=
 (bo k pJ a1).bind λr1=>cond (AV==a1) (cond (decide (aZ=aZ)) (cond (decide (fM=fM)) (cond (decide (fH=fH)) (cond (decide (xu=xu)) (cond (decide (nU=nU)) (some (r1,(0:Int),(0:Int))) none) none) none) none) none) (cond (decide (aZ=aZ)) (cond (decide (fM=fM)) (cond (decide (fH=fH)) (cond (decide (xu=xu)) (cond (decide (nU=nU)) (some (r1,AV,ER)) none) none) none) none) none)
end
end
set_option maxRecDepth 100000
section
noncomputable section
def eX {ρ:Type} (k:Nat) (p:Int× Int× Int× List Task× Int× Int× Int× Int) (v:Int× Int× Int) (next:(Int× Int× Int)->Option ρ) (x0:(Int× Int)->Option ρ):Option ρ:=
 cond (decide (v.2.2<(p.2.2.2.1.length:Int))) ((idx p.2.2.2.1 v.2.2).bind λe2=>cond (decide (e2.due<=p.1)) (cond (decide (v.1<0)) (next (v.2.2,v.2.1,i64.wrap (v.2.2+1))) ((idx p.2.2.2.1 v.1).bind λe3=>cond (decide (e2.born<e3.born)) (next (v.2.2,v.2.1,i64.wrap (v.2.2+1))) (next (v.1,v.2.1,i64.wrap (v.2.2+1))))) (cond (decide (v.2.1<0)) (next (v.1,v.2.2,i64.wrap (v.2.2+1))) ((idx p.2.2.2.1 v.2.1).bind λe4=>cond (decide (e2.due<e4.due)) (next (v.1,v.2.2,i64.wrap (v.2.2+1))) (next (v.1,v.2.1,i64.wrap (v.2.2+1)))))) (x0 (v.1,v.2.1))
def sP (k:Nat) (a0:ak):Option (Int):=
 (fE k a0).bind λr1=>cond (!r1) (some (0:Int)) (iter (λu11 n11=>eX k (a0.now,a0.ai,a0.age,a0.tasks,a0.run,a0.left,a0.turns,a0.next) u11 n11 (λy5=>cond (decide (y5.1>=0)) (cond (decide (y5.2<0)) ((idx a0.tasks y5.1).bind λe6=>some e6.id) (cond (decide (a0.age>0)) (cond (decide (a0.age=0)) none (cond ((a0.turns.tmod a0.age)==0) ((idx a0.tasks y5.1).bind λe7=>some e7.id) (cond (decide (y5.2>=0)) ((idx a0.tasks y5.2).bind λe8=>some e8.id) (some (0:Int))))) (cond (decide (y5.2>=0)) ((idx a0.tasks y5.2).bind λe9=>some e9.id) (some (0:Int))))) (cond (decide (y5.2>=0)) ((idx a0.tasks y5.2).bind λe10=>some e10.id) (some (0:Int))))) k ((-1:Int),(-1:Int),(0:Int)))
def qj (k:Nat) (a0:ak) (a1:Bool):Option (ak× Int× Bool):=
 (ng k a0).bind λr1=>(fE k a0).bind λr2=>cond (!r2) (some (r1,(0:Int),false)) (cond (a0.now==1000000) (some (r1,(0:Int),false)) (cond (a1) (some ((⟨(i64.wrap (a0.now+1)),r1.ai,r1.age,r1.tasks,r1.run,r1.left,r1.turns,r1.next⟩:ak),(0:Int),false)) (cond (r1.run==0) ((sP k a0).bind λr3=>cond (r3==0) (some ((⟨(i64.wrap (a0.now+1)),r1.ai,r1.age,r1.tasks,r1.run,r1.left,r1.turns,r1.next⟩:ak),(0:Int),false)) ((lU k (⟨(i64.wrap (a0.now+1)),r1.ai,r1.age,r1.tasks,r1.run,r1.left,r1.turns,r1.next⟩:ak) r3).bind λr4=>cond (decide (0<=r4/\r4<(r1.tasks.length:Int))) ((r1.tasks[r4.toNat]?).bind λe5=>(idx e5.ay e5.at_).bind λe6=>cond (decide ((i64.wrap (r1.turns+1))>1000000)) (cond (decide ((i64.wrap (e6-1))>0)) (some ((⟨(i64.wrap (a0.now+1)),r1.ai,r1.age,r1.tasks,r3,(i64.wrap (e6-1)),(0:Int),r1.next⟩:ak),(0:Int),false)) ((lU k (⟨(i64.wrap (a0.now+1)),r1.ai,r1.age,r1.tasks,r3,(i64.wrap (e6-1)),(0:Int),r1.next⟩:ak) r3).bind λr7=>cond (decide (0<=r7/\r7<(r1.tasks.length:Int))) ((r1.tasks[r7.toNat]?).bind λe8=>cond (decide (0<=r7/\r7<(r1.tasks.length:Int))) ((r1.tasks[r7.toNat]?).bind λe9=>cond (decide (0<=r7/\r7<((r1.tasks.set r7.toNat (⟨e9.id,e9.ay,(i64.wrap (e8.at_+1)),e9.due,e9.born⟩:Task)).length:Int))) (((r1.tasks.set r7.toNat (⟨e9.id,e9.ay,(i64.wrap (e8.at_+1)),e9.due,e9.born⟩:Task))[r7.toNat]?).bind λe10=>cond (decide (0<=r7/\r7<((r1.tasks.set r7.toNat (⟨e9.id,e9.ay,(i64.wrap (e8.at_+1)),e9.due,e9.born⟩:Task)).length:Int))) (((r1.tasks.set r7.toNat (⟨e9.id,e9.ay,(i64.wrap (e8.at_+1)),e9.due,e9.born⟩:Task))[r7.toNat]?).bind λe11=>cond (decide (e10.at_<(e11.ay.length:Int))) (some ((⟨(i64.wrap (a0.now+1)),r1.ai,r1.age,(r1.tasks.set r7.toNat (⟨e9.id,e9.ay,(i64.wrap (e8.at_+1)),e9.due,e9.born⟩:Task)),(0:Int),(i64.wrap (e6-1)),(0:Int),r1.next⟩:ak),r3,false)) ((lT (r1.tasks.set r7.toNat (⟨e9.id,e9.ay,(i64.wrap (e8.at_+1)),e9.due,e9.born⟩:Task))).bind λy12=>(gF k (i64.wrap (a0.now+1)) r1.ai r1.age y12 (0:Int) (i64.wrap (e6-1)) (0:Int) r1.next r3).bind λr13=>cond (ky r13) ((qM (r1.tasks.set r7.toNat (⟨e9.id,e9.ay,(i64.wrap (e8.at_+1)),e9.due,e9.born⟩:Task)) r13).bind λz14=>some ((⟨(i64.wrap (a0.now+1)),r1.ai,r1.age,z14,(0:Int),(i64.wrap (e6-1)),(0:Int),r1.next⟩:ak),r3,true)) none)) none) none) none) none)) (cond (decide ((i64.wrap (e6-1))>0)) (some ((⟨(i64.wrap (a0.now+1)),r1.ai,r1.age,r1.tasks,r3,(i64.wrap (e6-1)),(i64.wrap (r1.turns+1)),r1.next⟩:ak),(0:Int),false)) ((lU k (⟨(i64.wrap (a0.now+1)),r1.ai,r1.age,r1.tasks,r3,(i64.wrap (e6-1)),(i64.wrap (r1.turns+1)),r1.next⟩:ak) r3).bind λr15=>cond (decide (0<=r15/\r15<(r1.tasks.length:Int))) ((r1.tasks[r15.toNat]?).bind λe16=>cond (decide (0<=r15/\r15<(r1.tasks.length:Int))) ((r1.tasks[r15.toNat]?).bind λe17=>cond (decide (0<=r15/\r15<((r1.tasks.set r15.toNat (⟨e17.id,e17.ay,(i64.wrap (e16.at_+1)),e17.due,e17.born⟩:Task)).length:Int))) (((r1.tasks.set r15.toNat (⟨e17.id,e17.ay,(i64.wrap (e16.at_+1)),e17.due,e17.born⟩:Task))[r15.toNat]?).bind λe18=>cond (decide (0<=r15/\r15<((r1.tasks.set r15.toNat (⟨e17.id,e17.ay,(i64.wrap (e16.at_+1)),e17.due,e17.born⟩:Task)).length:Int))) (((r1.tasks.set r15.toNat (⟨e17.id,e17.ay,(i64.wrap (e16.at_+1)),e17.due,e17.born⟩:Task))[r15.toNat]?).bind λe19=>cond (decide (e18.at_<(e19.ay.length:Int))) (some ((⟨(i64.wrap (a0.now+1)),r1.ai,r1.age,(r1.tasks.set r15.toNat (⟨e17.id,e17.ay,(i64.wrap (e16.at_+1)),e17.due,e17.born⟩:Task)),(0:Int),(i64.wrap (e6-1)),(i64.wrap (r1.turns+1)),r1.next⟩:ak),r3,false)) ((lT (r1.tasks.set r15.toNat (⟨e17.id,e17.ay,(i64.wrap (e16.at_+1)),e17.due,e17.born⟩:Task))).bind λy20=>(gF k (i64.wrap (a0.now+1)) r1.ai r1.age y20 (0:Int) (i64.wrap (e6-1)) (i64.wrap (r1.turns+1)) r1.next r3).bind λr21=>cond (ky r21) ((qM (r1.tasks.set r15.toNat (⟨e17.id,e17.ay,(i64.wrap (e16.at_+1)),e17.due,e17.born⟩:Task)) r21).bind λz22=>some ((⟨(i64.wrap (a0.now+1)),r1.ai,r1.age,z22,(0:Int),(i64.wrap (e6-1)),(i64.wrap (r1.turns+1)),r1.next⟩:ak),r3,true)) none)) none) none) none) none))) none)) (cond (decide ((i64.wrap (r1.left-1))>0)) (some ((⟨(i64.wrap (a0.now+1)),r1.ai,r1.age,r1.tasks,r1.run,(i64.wrap (r1.left-1)),r1.turns,r1.next⟩:ak),(0:Int),false)) ((lU k (⟨(i64.wrap (a0.now+1)),r1.ai,r1.age,r1.tasks,r1.run,(i64.wrap (r1.left-1)),r1.turns,r1.next⟩:ak) r1.run).bind λr23=>cond (decide (0<=r23/\r23<(r1.tasks.length:Int))) ((r1.tasks[r23.toNat]?).bind λe24=>cond (decide (0<=r23/\r23<(r1.tasks.length:Int))) ((r1.tasks[r23.toNat]?).bind λe25=>cond (decide (0<=r23/\r23<((r1.tasks.set r23.toNat (⟨e25.id,e25.ay,(i64.wrap (e24.at_+1)),e25.due,e25.born⟩:Task)).length:Int))) (((r1.tasks.set r23.toNat (⟨e25.id,e25.ay,(i64.wrap (e24.at_+1)),e25.due,e25.born⟩:Task))[r23.toNat]?).bind λe26=>cond (decide (0<=r23/\r23<((r1.tasks.set r23.toNat (⟨e25.id,e25.ay,(i64.wrap (e24.at_+1)),e25.due,e25.born⟩:Task)).length:Int))) (((r1.tasks.set r23.toNat (⟨e25.id,e25.ay,(i64.wrap (e24.at_+1)),e25.due,e25.born⟩:Task))[r23.toNat]?).bind λe27=>cond (decide (e26.at_<(e27.ay.length:Int))) (some ((⟨(i64.wrap (a0.now+1)),r1.ai,r1.age,(r1.tasks.set r23.toNat (⟨e25.id,e25.ay,(i64.wrap (e24.at_+1)),e25.due,e25.born⟩:Task)),(0:Int),(i64.wrap (r1.left-1)),r1.turns,r1.next⟩:ak),r1.run,false)) ((lT (r1.tasks.set r23.toNat (⟨e25.id,e25.ay,(i64.wrap (e24.at_+1)),e25.due,e25.born⟩:Task))).bind λy28=>(gF k (i64.wrap (a0.now+1)) r1.ai r1.age y28 (0:Int) (i64.wrap (r1.left-1)) r1.turns r1.next r1.run).bind λr29=>cond (ky r29) ((qM (r1.tasks.set r23.toNat (⟨e25.id,e25.ay,(i64.wrap (e24.at_+1)),e25.due,e25.born⟩:Task)) r29).bind λz30=>some ((⟨(i64.wrap (a0.now+1)),r1.ai,r1.age,z30,(0:Int),(i64.wrap (r1.left-1)),r1.turns,r1.next⟩:ak),r1.run,true)) none)) none) none) none) none)))))
def cG (k:Nat) (a0:List Task):Option (List Task):=
 cond (isNil a0) (both (some ([]:List Task)) (cond (Nat.ble (([]:List Task).length+a0.length) aU) (some (([]:List Task)++a0)) none)) (cond (Nat.ble (([]:List Task).length+a0.length) aU) (some (([]:List Task)++a0)) none)
def jL (k:Nat) (a0:Task) (dK:ak):Option (Bool):=
 (dm k dK a0).bind λr1=>cond (decide (dK.now=dK.now)) (cond (decide (dK.ai=dK.ai)) (cond (decide (dK.age=dK.age)) (cond (decide (dK.tasks=dK.tasks)) (cond (decide (dK.run=dK.run)) (cond (decide (dK.left=dK.left)) (cond (decide (dK.turns=dK.turns)) (cond (decide (dK.next=dK.next)) (some (!r1)) none) none) none) none) none) none) none) none
def iT (k:Nat) (a0:Task) (dK:ak):Option (Bool):=
 (dm k dK a0).bind λr1=>cond (decide (dK.now=dK.now)) (cond (decide (dK.ai=dK.ai)) (cond (decide (dK.age=dK.age)) (cond (decide (dK.tasks=dK.tasks)) (cond (decide (dK.run=dK.run)) (cond (decide (dK.left=dK.left)) (cond (decide (dK.turns=dK.turns)) (cond (decide (dK.next=dK.next)) (some (!r1)) none) none) none) none) none) none) none) none
def bP {ρ:Type} (k:Nat) (p:Int× List Task× Int× Int× Int× List Task× Int× Int× Int× Int) (v:Int) (next:Int->Option ρ) (x0:Unit->Option ρ) (fZ:Int->Option ρ):Option ρ:=
 cond (decide (v<p.1)) (cond (decide (0<=v/\v<(p.2.1.length:Int))) ((p.2.1[v.toNat]?).bind λe1=>(jL k e1 (⟨p.2.2.1,p.2.2.2.1,p.2.2.2.2.1,p.2.2.2.2.2.1,p.2.2.2.2.2.2.1,p.2.2.2.2.2.2.2.1,p.2.2.2.2.2.2.2.2.1,p.2.2.2.2.2.2.2.2.2⟩:ak)).bind λr2=>cond (r2) (fZ v) (next (i64.wrap (v+1)))) none) (x0 ())
def cl (k:Nat) (a0:List Task) (aA:ak):Option (Int):=
 iter (λu5 n5=>bP k ((a0.length:Int),a0,aA.now,aA.ai,aA.age,aA.tasks,aA.run,aA.left,aA.turns,aA.next) u5 n5 (λy3=>cond (decide (a0=a0)) (cond (decide (aA.now=aA.now)) (cond (decide (aA.ai=aA.ai)) (cond (decide (aA.age=aA.age)) (cond (decide (aA.tasks=aA.tasks)) (cond (decide (aA.run=aA.run)) (cond (decide (aA.left=aA.left)) (cond (decide (aA.turns=aA.turns)) (cond (decide (aA.next=aA.next)) (some (-1:Int)) none) none) none) none) none) none) none) none) none) (λy4=>cond (decide (a0=a0)) (cond (decide (aA.now=aA.now)) (cond (decide (aA.ai=aA.ai)) (cond (decide (aA.age=aA.age)) (cond (decide (aA.tasks=aA.tasks)) (cond (decide (aA.run=aA.run)) (cond (decide (aA.left=aA.left)) (cond (decide (aA.turns=aA.turns)) (cond (decide (aA.next=aA.next)) (some y4) none) none) none) none) none) none) none) none) none)) k (0:Int)
def bc {ρ:Type} (k:Nat) (p:Int× Int× Int× List Task× Int× Int× Int× Int) (v:Int× Int× List Task) (next:(Int× Int× List Task)->Option ρ) (x0:(Int× List Task)->Option ρ):Option ρ:=
 cond (decide (v.2.1<(v.2.2.length:Int))) (cond (decide (0<=v.2.1/\v.2.1<(v.2.2.length:Int))) ((v.2.2[v.2.1.toNat]?).bind λe2=>(iT k e2 (⟨p.1,p.2.1,p.2.2.1,p.2.2.2.1,p.2.2.2.2.1,p.2.2.2.2.2.1,p.2.2.2.2.2.2.1,p.2.2.2.2.2.2.2⟩:ak)).bind λr3=>cond (!r3) (cond (decide (0<=v.1/\v.1<(v.2.2.length:Int))) (next (i64.wrap (v.1+1),i64.wrap (v.2.1+1),v.2.2.set v.1.toNat e2)) none) (next (v.1,i64.wrap (v.2.1+1),v.2.2))) none) (x0 (v.1,v.2.2))
def bZ (k:Nat) (a0:List Task) (aA:ak):Option (List Task):=
 (cl k a0 aA).bind λr1=>cond (r1==(-1:Int)) (cond (decide (aA.now=aA.now)) (cond (decide (aA.ai=aA.ai)) (cond (decide (aA.age=aA.age)) (cond (decide (aA.tasks=aA.tasks)) (cond (decide (aA.run=aA.run)) (cond (decide (aA.left=aA.left)) (cond (decide (aA.turns=aA.turns)) (cond (decide (aA.next=aA.next)) (some a0) none) none) none) none) none) none) none) none) (iter (λu5 n5=>bc k (aA.now,aA.ai,aA.age,aA.tasks,aA.run,aA.left,aA.turns,aA.next) u5 n5 (λy4=>cond (decide (0<=y4.1/\y4.1<=(y4.2.length:Int))) (cond (decide (0<=y4.1/\y4.1<=(((y4.2).take y4.1.toNat++List.replicate (y4.2.length-y4.1.toNat) (⟨(0:Int),([]:List Int),(0:Int),(0:Int),(0:Int)⟩:Task)++(y4.2).drop (y4.1.toNat+(y4.2.length-y4.1.toNat))).length:Int))) (cond (decide (aA.now=aA.now)) (cond (decide (aA.ai=aA.ai)) (cond (decide (aA.age=aA.age)) (cond (decide (aA.tasks=aA.tasks)) (cond (decide (aA.run=aA.run)) (cond (decide (aA.left=aA.left)) (cond (decide (aA.turns=aA.turns)) (cond (decide (aA.next=aA.next)) (some (((y4.2).take y4.1.toNat++List.replicate (y4.2.length-y4.1.toNat) (⟨(0:Int),([]:List Int),(0:Int),(0:Int),(0:Int)⟩:Task)++(y4.2).drop (y4.1.toNat+(y4.2.length-y4.1.toNat))).take (y4.1.toNat-0))) none) none) none) none) none) none) none) none) none) none)) k (r1,i64.wrap (r1+1),a0))
def jM (k:Nat) (a0:Task):Option (Int):=
 some a0.born
def ma (k:Nat) (a0:Int):Option (Bool):=
 some (a0 !=a0)
def eE (k:Nat) (a0:Int) (a1:Int):Option (Int):=
 (ma k a0).bind λr1=>(ma k a1).bind λr2=>cond (r1) (cond (r2) (some (0:Int)) (some (-1:Int))) (cond (r2) (some (1:Int)) (cond (decide (a0<a1)) (some (-1:Int)) (cond (decide (a0>a1)) (some (1:Int)) (some (0:Int)))))
def mb {ρ:Type} (k:Nat) (p:Int× List Int× Int) (v:Int) (next:Int->Option ρ) (x0:Unit->Option ρ) (fZ:Int->Option ρ):Option ρ:=
 cond (decide (v<p.2.2)) ((idx p.2.1 v).bind λe1=>cond (e1 !=p.1) (fZ e1) (next (i64.wrap (v+1)))) (x0 ())
def pn (k:Nat) (a0:List Int):Option (Int):=
 iter (λu4 n4=>mb k ((0:Int),a0,(a0.length:Int)) u4 n4 (λy2=>some (0:Int)) (λy3=>some y3)) k (0:Int)
def jN (k:Nat) (a0:Task) (a1:Task):Option (Int):=
 (jM k a0).bind λr1=>(jM k a1).bind λr2=>(eE k r1 r2).bind λr3=>(eE k a0.id a1.id).bind λr4=>(pn k [r3,r4]).bind λr5=>some r5
def bC {ρ:Type} (k:Nat) (p:List Task× Int× Int× Int× Int) (v:Int× Int× List Int× Int× Int× Int) (next:(Int× Int× List Int× Int× Int× Int)->Option ρ) (x0:(Int× List Int× Int× Int× Int)->Option ρ):Option ρ:=
 cond (decide (v.1<(p.1.length:Int))) ((idx p.1 v.1).bind λe2=>(jN k e2 (⟨v.2.1,v.2.2.1,v.2.2.2.1,v.2.2.2.2.1,v.2.2.2.2.2⟩:Task)).bind λr3=>cond (decide (r3<0)) ((idx p.1 v.1).bind λe4=>next (i64.wrap (v.1+1),e4.id,e4.ay,e4.at_,e4.due,e4.born)) (next (i64.wrap (v.1+1),v.2.1,v.2.2.1,v.2.2.2.1,v.2.2.2.2.1,v.2.2.2.2.2))) (x0 (v.2.1,v.2.2.1,v.2.2.2.1,v.2.2.2.2.1,v.2.2.2.2.2))
def cM (k:Nat) (a0:List Task):Option (Task):=
 cond (decide ((a0.length:Int)<(1:Int))) (none) ((idx a0 (0:Int)).bind λe1=>iter (λu6 n6=>bC k (a0,(0:Int),(0:Int),(0:Int),(0:Int)) u6 n6 (λy5=>some (⟨y5.1,y5.2.1,y5.2.2.1,y5.2.2.2.1,y5.2.2.2.2⟩:Task))) k ((1:Int),e1.id,e1.ay,e1.at_,e1.due,e1.born))
def jO (k:Nat) (a0:ak) (VG:ak):Option (Int):=
 (cG k a0.tasks).bind λr1=>(bZ k r1 VG).bind λr2=>cond ((r2.length:Int)==(0:Int)) (some (0:Int)) ((cM k r2).bind λr3=>some r3.id)
def fI (k:Nat) (a0:Task) (a1:ak):Option (Bool):=
 (dm k a1 a0).bind λr1=>cond (decide (a1.now=a1.now)) (cond (decide (a1.ai=a1.ai)) (cond (decide (a1.age=a1.age)) (cond (decide (a1.tasks=a1.tasks)) (cond (decide (a1.run=a1.run)) (cond (decide (a1.left=a1.left)) (cond (decide (a1.turns=a1.turns)) (cond (decide (a1.next=a1.next)) (some (!r1)) none) none) none) none) none) none) none) none
def iU (k:Nat) (a0:Task) (dL:ak):Option (Bool):=
 (fI k a0 dL).bind λr1=>cond (decide (dL.now=dL.now)) (cond (decide (dL.ai=dL.ai)) (cond (decide (dL.age=dL.age)) (cond (decide (dL.tasks=dL.tasks)) (cond (decide (dL.run=dL.run)) (cond (decide (dL.left=dL.left)) (cond (decide (dL.turns=dL.turns)) (cond (decide (dL.next=dL.next)) (some (!r1)) none) none) none) none) none) none) none) none
def eF (k:Nat) (a0:Task) (dL:ak):Option (Bool):=
 (fI k a0 dL).bind λr1=>cond (decide (dL.now=dL.now)) (cond (decide (dL.ai=dL.ai)) (cond (decide (dL.age=dL.age)) (cond (decide (dL.tasks=dL.tasks)) (cond (decide (dL.run=dL.run)) (cond (decide (dL.left=dL.left)) (cond (decide (dL.turns=dL.turns)) (cond (decide (dL.next=dL.next)) (some (!r1)) none) none) none) none) none) none) none) none
def bQ {ρ:Type} (k:Nat) (p:Int× List Task× Int× Int× Int× List Task× Int× Int× Int× Int) (v:Int) (next:Int->Option ρ) (x0:Unit->Option ρ) (fZ:Int->Option ρ):Option ρ:=
 cond (decide (v<p.1)) (cond (decide (0<=v/\v<(p.2.1.length:Int))) ((p.2.1[v.toNat]?).bind λe1=>(iU k e1 (⟨p.2.2.1,p.2.2.2.1,p.2.2.2.2.1,p.2.2.2.2.2.1,p.2.2.2.2.2.2.1,p.2.2.2.2.2.2.2.1,p.2.2.2.2.2.2.2.2.1,p.2.2.2.2.2.2.2.2.2⟩:ak)).bind λr2=>cond (r2) (fZ v) (next (i64.wrap (v+1)))) none) (x0 ())
def cn (k:Nat) (a0:List Task) (aB:ak):Option (Int):=
 iter (λu5 n5=>bQ k ((a0.length:Int),a0,aB.now,aB.ai,aB.age,aB.tasks,aB.run,aB.left,aB.turns,aB.next) u5 n5 (λy3=>cond (decide (a0=a0)) (cond (decide (aB.now=aB.now)) (cond (decide (aB.ai=aB.ai)) (cond (decide (aB.age=aB.age)) (cond (decide (aB.tasks=aB.tasks)) (cond (decide (aB.run=aB.run)) (cond (decide (aB.left=aB.left)) (cond (decide (aB.turns=aB.turns)) (cond (decide (aB.next=aB.next)) (some (-1:Int)) none) none) none) none) none) none) none) none) none) (λy4=>cond (decide (a0=a0)) (cond (decide (aB.now=aB.now)) (cond (decide (aB.ai=aB.ai)) (cond (decide (aB.age=aB.age)) (cond (decide (aB.tasks=aB.tasks)) (cond (decide (aB.run=aB.run)) (cond (decide (aB.left=aB.left)) (cond (decide (aB.turns=aB.turns)) (cond (decide (aB.next=aB.next)) (some y4) none) none) none) none) none) none) none) none) none)) k (0:Int)
def bd {ρ:Type} (k:Nat) (p:Int× Int× Int× List Task× Int× Int× Int× Int) (v:Int× Int× List Task) (next:(Int× Int× List Task)->Option ρ) (x0:(Int× List Task)->Option ρ):Option ρ:=
 cond (decide (v.2.1<(v.2.2.length:Int))) (cond (decide (0<=v.2.1/\v.2.1<(v.2.2.length:Int))) ((v.2.2[v.2.1.toNat]?).bind λe2=>(eF k e2 (⟨p.1,p.2.1,p.2.2.1,p.2.2.2.1,p.2.2.2.2.1,p.2.2.2.2.2.1,p.2.2.2.2.2.2.1,p.2.2.2.2.2.2.2⟩:ak)).bind λr3=>cond (!r3) (cond (decide (0<=v.1/\v.1<(v.2.2.length:Int))) (next (i64.wrap (v.1+1),i64.wrap (v.2.1+1),v.2.2.set v.1.toNat e2)) none) (next (v.1,i64.wrap (v.2.1+1),v.2.2))) none) (x0 (v.1,v.2.2))
def b8 (k:Nat) (a0:List Task) (aB:ak):Option (List Task):=
 (cn k a0 aB).bind λr1=>cond (r1==(-1:Int)) (cond (decide (aB.now=aB.now)) (cond (decide (aB.ai=aB.ai)) (cond (decide (aB.age=aB.age)) (cond (decide (aB.tasks=aB.tasks)) (cond (decide (aB.run=aB.run)) (cond (decide (aB.left=aB.left)) (cond (decide (aB.turns=aB.turns)) (cond (decide (aB.next=aB.next)) (some a0) none) none) none) none) none) none) none) none) (iter (λu5 n5=>bd k (aB.now,aB.ai,aB.age,aB.tasks,aB.run,aB.left,aB.turns,aB.next) u5 n5 (λy4=>cond (decide (0<=y4.1/\y4.1<=(y4.2.length:Int))) (cond (decide (0<=y4.1/\y4.1<=(((y4.2).take y4.1.toNat++List.replicate (y4.2.length-y4.1.toNat) (⟨(0:Int),([]:List Int),(0:Int),(0:Int),(0:Int)⟩:Task)++(y4.2).drop (y4.1.toNat+(y4.2.length-y4.1.toNat))).length:Int))) (cond (decide (aB.now=aB.now)) (cond (decide (aB.ai=aB.ai)) (cond (decide (aB.age=aB.age)) (cond (decide (aB.tasks=aB.tasks)) (cond (decide (aB.run=aB.run)) (cond (decide (aB.left=aB.left)) (cond (decide (aB.turns=aB.turns)) (cond (decide (aB.next=aB.next)) (some (((y4.2).take y4.1.toNat++List.replicate (y4.2.length-y4.1.toNat) (⟨(0:Int),([]:List Int),(0:Int),(0:Int),(0:Int)⟩:Task)++(y4.2).drop (y4.1.toNat+(y4.2.length-y4.1.toNat))).take (y4.1.toNat-0))) none) none) none) none) none) none) none) none) none) none)) k (r1,i64.wrap (r1+1),a0))
def jP (k:Nat) (a0:Task):Option (Int):=
 some a0.due
def iV (k:Nat) (a0:Task) (a1:Task):Option (Int):=
 (jP k a0).bind λr1=>(jP k a1).bind λr2=>(eE k r1 r2).bind λr3=>(eE k a0.id a1.id).bind λr4=>(pn k [r3,r4]).bind λr5=>some r5
def bp {ρ:Type} (k:Nat) (p:List Task× Int× Int× Int× Int) (v:Int× Int× List Int× Int× Int× Int) (next:(Int× Int× List Int× Int× Int× Int)->Option ρ) (x0:(Int× List Int× Int× Int× Int)->Option ρ):Option ρ:=
 cond (decide (v.1<(p.1.length:Int))) ((idx p.1 v.1).bind λe2=>(iV k e2 (⟨v.2.1,v.2.2.1,v.2.2.2.1,v.2.2.2.2.1,v.2.2.2.2.2⟩:Task)).bind λr3=>cond (decide (r3<0)) ((idx p.1 v.1).bind λe4=>next (i64.wrap (v.1+1),e4.id,e4.ay,e4.at_,e4.due,e4.born)) (next (i64.wrap (v.1+1),v.2.1,v.2.2.1,v.2.2.2.1,v.2.2.2.2.1,v.2.2.2.2.2))) (x0 (v.2.1,v.2.2.1,v.2.2.2.1,v.2.2.2.2.1,v.2.2.2.2.2))
def cC (k:Nat) (a0:List Task):Option (Task):=
 cond (decide ((a0.length:Int)<(1:Int))) (none) ((idx a0 (0:Int)).bind λe1=>iter (λu6 n6=>bp k (a0,(0:Int),(0:Int),(0:Int),(0:Int)) u6 n6 (λy5=>some (⟨y5.1,y5.2.1,y5.2.2.1,y5.2.2.2.1,y5.2.2.2.2⟩:Task))) k ((1:Int),e1.id,e1.ay,e1.at_,e1.due,e1.born))
def iK (k:Nat) (a0:ak) (eM:ak):Option (Int):=
 (cG k a0.tasks).bind λr1=>(b8 k r1 eM).bind λr2=>cond ((r2.length:Int)==(0:Int)) (cond (decide (eM.now=eM.now)) (cond (decide (eM.ai=eM.ai)) (cond (decide (eM.age=eM.age)) (cond (decide (eM.tasks=eM.tasks)) (cond (decide (eM.run=eM.run)) (cond (decide (eM.left=eM.left)) (cond (decide (eM.turns=eM.turns)) (cond (decide (eM.next=eM.next)) (some (0:Int)) none) none) none) none) none) none) none) none) ((cC k r2).bind λr3=>cond (decide (eM.now=eM.now)) (cond (decide (eM.ai=eM.ai)) (cond (decide (eM.age=eM.age)) (cond (decide (eM.tasks=eM.tasks)) (cond (decide (eM.run=eM.run)) (cond (decide (eM.left=eM.left)) (cond (decide (eM.turns=eM.turns)) (cond (decide (eM.next=eM.next)) (some r3.id) none) none) none) none) none) none) none) none)
def lz (k:Nat) (a0:ak):Option (Int):=
 (jO k a0 a0).bind λr1=>(iK k a0 a0).bind λr2=>cond (decide (a0.age>0)) (cond (decide (a0.age=0)) none (cond ((a0.turns.tmod a0.age)==0) (cond (r1 !=0) (some r1) (cond (r2==0) (some r1) (some r2))) (cond (r2==0) (some r1) (some r2)))) (cond (r2==0) (some r1) (some r2))
def eO (k:Nat) (a0:ak):Option (Bool× Int× Int× Int):=
 (lz k a0).bind λr1=>cond (r1==0) (cond (decide (a0.now=a0.now)) (cond (decide (a0.ai=a0.ai)) (cond (decide (a0.age=a0.age)) (cond (decide (a0.tasks=a0.tasks)) (cond (decide (a0.next=a0.next)) (some (false,a0.run,a0.left,a0.turns)) none) none) none) none) none) ((dw k a0 r1).bind λr2=>cond (decide (0<=r2/\r2<(a0.tasks.length:Int))) ((a0.tasks[r2.toNat]?).bind λe3=>(idx e3.ay e3.at_).bind λe4=>cond (decide ((i64.wrap (a0.turns+1))>1000000)) (cond (decide (a0.now=a0.now)) (cond (decide (a0.ai=a0.ai)) (cond (decide (a0.age=a0.age)) (cond (decide (a0.tasks=a0.tasks)) (cond (decide (a0.next=a0.next)) (some (true,r1,e4,(0:Int))) none) none) none) none) none) (cond (decide (a0.now=a0.now)) (cond (decide (a0.ai=a0.ai)) (cond (decide (a0.age=a0.age)) (cond (decide (a0.tasks=a0.tasks)) (cond (decide (a0.next=a0.next)) (some (true,r1,e4,i64.wrap (a0.turns+1))) none) none) none) none) none)) none)
def gG (k:Nat) (a0:ak) (a1:Bool):Option ((Int× Bool)× Int× List Task× Int× Int× Int):=
 cond (!a1) (cond (a0.run !=0) (cond (decide ((i64.wrap (a0.left-1))>0)) (cond (decide (a0.ai=a0.ai)) (cond (decide (a0.age=a0.age)) (cond (decide (a0.next=a0.next)) (some (((0:Int),false),i64.wrap (a0.now+1),a0.tasks,a0.run,i64.wrap (a0.left-1),a0.turns)) none) none) none) ((dw k (⟨(i64.wrap (a0.now+1)),a0.ai,a0.age,a0.tasks,a0.run,(i64.wrap (a0.left-1)),a0.turns,a0.next⟩:ak) a0.run).bind λr1=>cond (decide (0<=r1/\r1<(a0.tasks.length:Int))) ((a0.tasks[r1.toNat]?).bind λe2=>(a0.tasks[r1.toNat]?).bind λe3=>((a0.tasks.set r1.toNat (⟨e3.id,e3.ay,(i64.wrap (e2.at_+1)),e3.due,e3.born⟩:Task))[r1.toNat]?).bind λe4=>((a0.tasks.set r1.toNat (⟨e3.id,e3.ay,(i64.wrap (e2.at_+1)),e3.due,e3.born⟩:Task))[r1.toNat]?).bind λe5=>cond (decide (e4.at_<(e5.ay.length:Int))) (cond (decide (a0.ai=a0.ai)) (cond (decide (a0.age=a0.age)) (cond (decide (a0.next=a0.next)) (some ((a0.run,false),i64.wrap (a0.now+1),a0.tasks.set r1.toNat (⟨e3.id,e3.ay,(i64.wrap (e2.at_+1)),e3.due,e3.born⟩:Task),(0:Int),i64.wrap (a0.left-1),a0.turns)) none) none) none) ((lT (a0.tasks.set r1.toNat (⟨e3.id,e3.ay,(i64.wrap (e2.at_+1)),e3.due,e3.born⟩:Task))).bind λy6=>(dP k (i64.wrap (a0.now+1)) a0.ai a0.age y6 (0:Int) (i64.wrap (a0.left-1)) a0.turns a0.next a0.run).bind λr7=>cond (ky r7.1) ((qM (a0.tasks.set r1.toNat (⟨e3.id,e3.ay,(i64.wrap (e2.at_+1)),e3.due,e3.born⟩:Task)) r7.1).bind λz8=>cond (decide (a0.ai=a0.ai)) (cond (decide (a0.age=a0.age)) (cond (decide (a0.next=a0.next)) (some ((a0.run,true),i64.wrap (a0.now+1),z8,r7.2.1,r7.2.2,a0.turns)) none) none) none) none)) none)) ((eO k a0).bind λr9=>cond (!r9.1) (cond (decide (a0.ai=a0.ai)) (cond (decide (a0.age=a0.age)) (cond (decide (a0.next=a0.next)) (some (((0:Int),false),i64.wrap (a0.now+1),a0.tasks,r9.2.1,r9.2.2.1,r9.2.2.2)) none) none) none) (cond (decide ((i64.wrap (r9.2.2.1-1))>0)) (cond (decide (a0.ai=a0.ai)) (cond (decide (a0.age=a0.age)) (cond (decide (a0.next=a0.next)) (some (((0:Int),false),i64.wrap (a0.now+1),a0.tasks,r9.2.1,i64.wrap (r9.2.2.1-1),r9.2.2.2)) none) none) none) ((dw k (⟨(i64.wrap (a0.now+1)),a0.ai,a0.age,a0.tasks,r9.2.1,(i64.wrap (r9.2.2.1-1)),r9.2.2.2,a0.next⟩:ak) r9.2.1).bind λr10=>cond (decide (0<=r10/\r10<(a0.tasks.length:Int))) ((a0.tasks[r10.toNat]?).bind λe11=>(a0.tasks[r10.toNat]?).bind λe12=>((a0.tasks.set r10.toNat (⟨e12.id,e12.ay,(i64.wrap (e11.at_+1)),e12.due,e12.born⟩:Task))[r10.toNat]?).bind λe13=>((a0.tasks.set r10.toNat (⟨e12.id,e12.ay,(i64.wrap (e11.at_+1)),e12.due,e12.born⟩:Task))[r10.toNat]?).bind λe14=>cond (decide (e13.at_<(e14.ay.length:Int))) (cond (decide (a0.ai=a0.ai)) (cond (decide (a0.age=a0.age)) (cond (decide (a0.next=a0.next)) (some ((r9.2.1,false),i64.wrap (a0.now+1),a0.tasks.set r10.toNat (⟨e12.id,e12.ay,(i64.wrap (e11.at_+1)),e12.due,e12.born⟩:Task),(0:Int),i64.wrap (r9.2.2.1-1),r9.2.2.2)) none) none) none) ((lT (a0.tasks.set r10.toNat (⟨e12.id,e12.ay,(i64.wrap (e11.at_+1)),e12.due,e12.born⟩:Task))).bind λy15=>(dP k (i64.wrap (a0.now+1)) a0.ai a0.age y15 (0:Int) (i64.wrap (r9.2.2.1-1)) r9.2.2.2 a0.next r9.2.1).bind λr16=>cond (ky r16.1) ((qM (a0.tasks.set r10.toNat (⟨e12.id,e12.ay,(i64.wrap (e11.at_+1)),e12.due,e12.born⟩:Task)) r16.1).bind λz17=>cond (decide (a0.ai=a0.ai)) (cond (decide (a0.age=a0.age)) (cond (decide (a0.next=a0.next)) (some ((r9.2.1,true),i64.wrap (a0.now+1),z17,r16.2.1,r16.2.2,r9.2.2.2)) none) none) none) none)) none)))) (cond (decide (a0.ai=a0.ai)) (cond (decide (a0.age=a0.age)) (cond (decide (a0.next=a0.next)) (some (((0:Int),false),i64.wrap (a0.now+1),a0.tasks,a0.run,a0.left,a0.turns)) none) none) none)
def uA (k:Nat) (a0:ak) (a1:Bool):Option (ak× Int× Bool):=
 (gu k a0).bind λr1=>(ni k a0).bind λr2=>cond (!r2) (some (r1,(0:Int),false)) (cond (a0.now==1000000) (some (r1,(0:Int),false)) ((gG k r1 a1).bind λr3=>some ((⟨r3.2.1,r1.ai,r1.age,r3.2.2.1,r3.2.2.2.1,r3.2.2.2.2.1,r3.2.2.2.2.2,r1.next⟩:ak),r3.1.1,r3.1.2)))
def sQ (k:Nat) (a0:Int) (a1:Int):Option (ak× Bool):=
 (fE k (⟨(0:Int),a0,a1,([]:List Task),(0:Int),(0:Int),(0:Int),(1:Int)⟩:ak)).bind λr1=>cond (!r1) (some ((⟨(0:Int),(0:Int),(0:Int),([]:List Task),(0:Int),(0:Int),(0:Int),(0:Int)⟩:ak),false)) (some ((⟨(0:Int),a0,a1,([]:List Task),(0:Int),(0:Int),(0:Int),(1:Int)⟩:ak),true))
def sR (k:Nat) (a0:Int) (a1:Int):Option (ak× Bool):=
 (ni k (⟨(0:Int),a0,a1,([]:List Task),(0:Int),(0:Int),(0:Int),(1:Int)⟩:ak)).bind λr1=>cond (!r1) (some ((⟨(0:Int),(0:Int),(0:Int),([]:List Task),(0:Int),(0:Int),(0:Int),(0:Int)⟩:ak),false)) (some ((⟨(0:Int),a0,a1,([]:List Task),(0:Int),(0:Int),(0:Int),(1:Int)⟩:ak),true))
end
end
set_option maxRecDepth 100000
set_option maxHeartbeats 4000000
section
noncomputable section
def Sj (k:Nat) (a0:List Int):Option (Bool):=
 some (decide ((a0.length:Int)>(1048576:Int)))
def qk {ρ:Type} (k:Nat) (p:List Int) (v:Int× Int) (next:(Int× Int)->Option ρ) (x0:Int->Option ρ):Option ρ:=
 cond (decide (v.2<(p.length:Int))) (cond (decide (v.2<4000)) ((idx p v.2).bind λe1=>next (i64.wrap (((BitVec.ofInt i64.bits (i64.wrap ((i64.wrap ((i64.wrap (v.1*149))+(i64.wrap (e1))))+11))&&& BitVec.ofInt i64.bits (1073741823:Int)).toNat:Int)),i64.wrap (v.2+1))) (x0 v.1)) (x0 v.1)
def sS (k:Nat) (a0:List Int):Option (Int× Int):=
 iter (λu3 n3=>qk k a0 u3 n3 (λy2=>cond (decide (a0=a0)) (some ((0:Int),y2)) none)) k (i64.wrap ((778778:Int)+(a0.length:Int)),(0:Int))
def vG (k:Nat) (a0:List Int) (a1:Int):Option (Int):=
 cond (decide ((i64.wrap ((2:Int)+(i64.wrap ((a0.length:Int).tdiv (16:Int)))))>a1)) (some a1) (some (i64.wrap ((2:Int)+(i64.wrap ((a0.length:Int).tdiv (16:Int))))))
def iW (k:Nat) (aZ:List Int) (fM:Int) (fH:Int):Option (Int× Int× Int):=
 cond (decide (fM<(aZ.length:Int))) ((idx aZ fM).bind λe1=>cond (decide (aZ=aZ)) (some (i64.wrap (((BitVec.ofInt i64.bits (i64.wrap ((i64.wrap (((BitVec.ofInt i64.bits (i64.wrap (((BitVec.ofInt i64.bits ((i64.wrap ((i64.wrap (fH*6364136223846793005))+1442695040888963407)).fdiv (2^(min (33:Int).toNat i64.bits)))^^^ BitVec.ofInt i64.bits ((i64.wrap ((i64.wrap (fH*6364136223846793005))+1442695040888963407)).fdiv (2^(min (45:Int).toNat i64.bits)))).toNat:Int)))&&& BitVec.ofInt i64.bits (255:Int)).toNat:Int)))+(i64.wrap (e1))))&&& BitVec.ofInt i64.bits (255:Int)).toNat:Int)),i64.wrap (fM+1),i64.wrap ((i64.wrap (fH*6364136223846793005))+1442695040888963407))) none) (cond (decide (aZ=aZ)) (some (i64.wrap (((BitVec.ofInt i64.bits (i64.wrap (((BitVec.ofInt i64.bits ((i64.wrap ((i64.wrap (fH*6364136223846793005))+1442695040888963407)).fdiv (2^(min (33:Int).toNat i64.bits)))^^^ BitVec.ofInt i64.bits ((i64.wrap ((i64.wrap (fH*6364136223846793005))+1442695040888963407)).fdiv (2^(min (45:Int).toNat i64.bits)))).toNat:Int)))&&& BitVec.ofInt i64.bits (255:Int)).toNat:Int)),fM,i64.wrap ((i64.wrap (fH*6364136223846793005))+1442695040888963407))) none)
def ag (k:Nat) (aZ:List Int) (fM:Int) (fH:Int) (a1:Int):Option (Int× Int× Int):=
 cond (decide (a1<=0)) (cond (decide (aZ=aZ)) (some ((0:Int),fM,fH)) none) (cond (decide (a1<=256)) ((iW k aZ fM fH).bind λr1=>cond (decide (a1=0)) none (cond (decide (aZ=aZ)) (some (r1.1.tmod a1,r1.2.1,r1.2.2)) none)) ((iW k aZ fM fH).bind λr2=>(iW k aZ r2.2.1 r2.2.2).bind λr3=>(iW k aZ r3.2.1 r3.2.2).bind λr4=>cond (decide (a1=0)) none (cond (decide (aZ=aZ)) (some ((i64.wrap ((i64.wrap ((i64.wrap (r2.1*65536))+(i64.wrap (r3.1*256))))+r4.1)).tmod a1,r4.2.1,r4.2.2)) none)))
def az (k:Nat) (aZ:List Int) (fM:Int) (fH:Int) (a1:List Int):Option (Int× Int× Int):=
 (ag k aZ fM fH (a1.length:Int)).bind λr1=>(idx a1 r1.1).bind λe2=>cond (decide (aZ=aZ)) (some (e2,r1.2.1,r1.2.2)) none
def b9 (k:Nat) (aZ:List Int) (fM:Int) (fH:Int) (a1:Int):Option (Bool× Int× Int):=
 (ag k aZ fM fH a1).bind λr1=>cond (decide (aZ=aZ)) (some (r1.1==0,r1.2.1,r1.2.2)) none
end
end
set_option maxRecDepth 100000
set_option maxHeartbeats 4000000
section
noncomputable section
def vH {ρ:Type} (k:Nat) (p:List Int× List Int) (v:Int) (next:Int->Option ρ) (x0:Unit->Option ρ) (fZ:Bool->Option ρ):Option ρ:=
 cond (decide (v<(p.1.length:Int))) ((idx p.1 v).bind λe1=>(idx p.2 v).bind λe2=>cond (e1 !=e2) (fZ false) (next (i64.wrap (v+1)))) (x0 ())
def Dq (k:Nat) (a0:List Int) (a1:List Int):Option (Bool):=
 cond ((a0.length:Int) !=(a1.length:Int)) (some false) (iter (λu5 n5=>vH k (a0,a1) u5 n5 (λy3=>some true) (λy4=>some y4)) k (0:Int))
end
end
set_option maxRecDepth 100000
section
noncomputable section
end
end
set_option maxRecDepth 100000
section
noncomputable section
def vI (k:Nat) (a0:av):Option (av):=
 (lh k a0.weights).bind λr1=>(lh k a0.ny).bind λr2=>some (⟨a0.kind,a0.out,a0.size,a0.step,a0.mult,a0.shift,a0.zero,r1,r2⟩:av)
def kS (k:Nat) (a0:av):Option (av):=
 (bW k a0.weights).bind λr1=>(bW k a0.ny).bind λr2=>some (⟨a0.kind,a0.out,a0.size,a0.step,a0.mult,a0.shift,a0.zero,r1,r2⟩:av)
def fJ {ρ:Type} (k:Nat) (p:List av× Int) (v:Int× List av) (next:(Int× List av)->Option ρ) (x0:(List av)->Option ρ):Option ρ:=
 cond (decide (v.1<p.2)) ((idx p.1 v.1).bind λe1=>(kS k e1).bind λr2=>cond (Nat.ble (v.2.length+1) aU) (next (i64.wrap (v.1+1),v.2++[r2])) none) (x0 v.2)
def oO (k:Nat) (a0:List av):Option (List av):=
 iter (λu4 n4=>fJ k (a0,(a0.length:Int)) u4 n4 (λy3=>some y3)) k ((0:Int),([]:List av))
def lA {ρ:Type} (k:Nat) (p:Int× Int× Int× List av× Int× Int× Int× Int× Int× Int) (v:Int× List av) (next:(Int× List av)->Option ρ) (x0:(List av)->Option ρ):Option ρ:=
 cond (decide (v.1<(p.2.2.2.1.length:Int))) ((idx p.2.2.2.1 v.1).bind λe1=>(vI k e1).bind λr2=>cond (Nat.ble (v.2.length+1) aU) (next (i64.wrap (v.1+1),v.2++[r2])) none) (x0 v.2)
def rN (k:Nat) (a0:Model):Option (Model):=
 iter (λu4 n4=>lA k (a0.inp.h,a0.inp.w,a0.inp.c,a0.aC,(0:Int),(0:Int),(0:Int),a0.inp.h,a0.inp.w,a0.inp.c) u4 n4 (λy3=>some (⟨a0.inp,y3⟩:Model))) k ((0:Int),([]:List av))
def pq {ρ:Type} (k:Nat) (p:Int× Int× Int× List av× Int× Int× Int× Int× List Int× Int× List Int) (v:Int× Int) (next:(Int× Int)->Option ρ) (x0:Int->Option ρ):Option ρ:=
 cond (decide (v.2<p.2.2.2.2.1)) (cond (decide (0<=v.2/\v.2<(p.2.2.2.2.2.2.2.2.2.2.length:Int))) ((p.2.2.2.2.2.2.2.2.2.2[v.2.toNat]?).bind λe6=>next (i64.wrap (v.1+e6),i64.wrap (v.2+1))) none) (x0 v.1)
def uB (k:Nat) (a0:Job):Option (Bool):=
 (kA k a0.model).bind λr1=>cond (!r1.2) (some false) ((bA k a0.at_ (0:Int) (a0.model.aC.length:Int)).bind λr2=>cond (!r2) (some false) ((mK k a0.act).bind λr3=>cond (!r3) (some false) (cond (decide (0<=a0.at_/\a0.at_<(r1.1.length:Int))) ((r1.1[a0.at_.toNat]?).bind λe4=>cond (!(cond (a0.act.sh.h==e4.h) (cond (a0.act.sh.w==e4.w) (cond (a0.act.sh.c==e4.c) (true) false) false) false)) (some false) ((ln k a0.model).bind λr5=>iter (λu8 n8=>pq k (a0.model.inp.h,a0.model.inp.w,a0.model.inp.c,a0.model.aC,a0.at_,a0.act.sh.h,a0.act.sh.w,a0.act.sh.c,a0.act.data,a0.ke,r5) u8 n8 (λy7=>some (a0.ke==y7))) k ((0:Int),(0:Int)))) none)))
def sT (k:Nat) (a0:Model) (a1:aF):Option (Job× Bool):=
 (rN k a0).bind λr1=>(pe k a1).bind λr2=>(uB k (⟨r1,(0:Int),r2,(0:Int)⟩:Job)).bind λr3=>cond (!r3) (some ((⟨(⟨(⟨(0:Int),(0:Int),(0:Int)⟩:Shape),([]:List av)⟩:Model),(0:Int),(⟨(⟨(0:Int),(0:Int),(0:Int)⟩:Shape),([]:List Int)⟩:aF),(0:Int)⟩:Job),false)) (some ((⟨r1,(0:Int),r2,(0:Int)⟩:Job),true))
def AW (k:Nat) (a0:Job):Option (Bool):=
 (nd k a0.model).bind λr1=>cond (r1) ((sJ k a0.at_ (0:Int) (a0.model.aC.length:Int)).bind λr2=>cond (r2) ((ph k a0.act).bind λr3=>cond (r3) ((pk k a0.model).bind λr4=>cond (decide (0<=a0.at_/\a0.at_<(r4.length:Int))) ((r4[a0.at_.toNat]?).bind λe5=>cond (cond (a0.act.sh.h==e5.h) (cond (a0.act.sh.w==e5.w) (cond (a0.act.sh.c==e5.c) (true) false) false) false) ((lr k a0.model).bind λr6=>cond (decide (0<=a0.at_/\a0.at_<=(r6.length:Int))) ((N8 k (((r6).drop 0).take (a0.at_.toNat-0))).bind λr7=>some (a0.ke==r7)) none) (some false)) none) (some false)) (some false)) (some false)
def iC (k:Nat) (a0:Model):Option (Model):=
 (oO k a0.aC).bind λr1=>some (⟨a0.inp,r1⟩:Model)
def nV (k:Nat) (a0:Job):Option (Job):=
 (iC k a0.model).bind λr1=>(gE k a0.act).bind λr2=>some (⟨r1,a0.at_,r2,a0.ke⟩:Job)
def sU (k:Nat) (a0:Model) (a1:aF):Option (Job× Bool):=
 (AW k (⟨a0,(0:Int),a1,(0:Int)⟩:Job)).bind λr1=>cond (!r1) (some ((⟨(⟨(⟨(0:Int),(0:Int),(0:Int)⟩:Shape),([]:List av)⟩:Model),(0:Int),(⟨(⟨(0:Int),(0:Int),(0:Int)⟩:Shape),([]:List Int)⟩:aF),(0:Int)⟩:Job),false)) ((nV k (⟨a0,(0:Int),a1,(0:Int)⟩:Job)).bind λr2=>some (r2,true))
end
end
set_option maxRecDepth 100000
section
noncomputable section
def vJ (k:Nat) (a0:Job):Option (Job):=
 (rN k a0.model).bind λr1=>(pe k a0.act).bind λr2=>some (⟨r1,a0.at_,r2,a0.ke⟩:Job)
def vK (k:Nat) (a0:Job):Option (Bool):=
 (uB k a0).bind λr1=>cond (r1) (some (a0.at_==(a0.model.aC.length:Int))) (some false)
def pt (k:Nat) (a0:Int) (a1:Int) (a2:Int):Option (Int):=
 cond (decide (a0<a1)) (some a1) (cond (decide (a1>a2)) (some a1) (cond (decide (a0>a2)) (some a2) (some a0)))
def AX (k:Nat) (a0:Int):Option (Int):=
 (pt k a0 (-128:Int) (127:Int)).bind λr1=>some r1
def oQ (k:Nat) (a0:Int):Option (Int):=
 (pt k a0 (-2147483648:Int) (2147483647:Int)).bind λr1=>some r1
def nW (k:Nat) (a0:Int) (a1:Int):Option (Int):=
 (oQ k a0).bind λr1=>(oQ k a1).bind λr2=>(oQ k (i64.wrap (r1+r2))).bind λr3=>some r3
def sV {ρ:Type} (k:Nat) (p:List Int× List Int) (v:Int× Int) (next:(Int× Int)->Option ρ) (x0:Int->Option ρ):Option ρ:=
 cond (decide (v.2<(p.1.length:Int))) (cond (decide (v.2<(p.2.length:Int))) ((idx p.1 v.2).bind λe1=>(AX k e1).bind λr2=>(idx p.2 v.2).bind λe3=>(AX k e3).bind λr4=>(nW k v.1 (i64.wrap (r2*r4))).bind λr5=>next (r5,i64.wrap (v.2+1))) (x0 v.1)) (x0 v.1)
def ES (k:Nat) (a0:List Int) (a1:List Int):Option (Int):=
 iter (λu7 n7=>sV k (a0,a1) u7 n7 (λy6=>some y6)) k ((0:Int),(0:Int))
def vL (k:Nat) (a0:Int) (a1:Int):Option (Int):=
 cond (decide (a1=0)) none (cond (decide (a1=0)) none (cond (decide ((a0.tmod a1)<0)) (some (i64.wrap ((i64.wrap (a0.tdiv a1))-1))) (some (i64.wrap (a0.tdiv a1)))))
def vM (k:Nat) (a0:Int) (a1:Int):Option (Int):=
 (oQ k a0).bind λr1=>(oQ k a1).bind λr2=>(vL k (i64.wrap ((i64.wrap (r1*r2))+1073741824)) (2147483648:Int)).bind λr3=>(oQ k r3).bind λr4=>some r4
def nX (k:Nat) (a0:Int) (a1:Int):Option (Int):=
 (oQ k a0).bind λr1=>(pt k a1 (0:Int) (31:Int)).bind λr2=>cond (decide ((u64.wrap (r2))<0)) none (cond (decide (r1<0)) (cond (decide ((i64.wrap ((1:Int)*2^(min (u64.wrap (r2)).toNat i64.bits)))=0)) none (some (i64.wrap (0-(i64.wrap ((i64.wrap ((i64.wrap (0-r1))+(i64.wrap ((i64.wrap ((1:Int)*2^(min (u64.wrap (r2)).toNat i64.bits))).tdiv (2:Int))))).tdiv (i64.wrap ((1:Int)*2^(min (u64.wrap (r2)).toNat i64.bits))))))))) (cond (decide ((i64.wrap ((1:Int)*2^(min (u64.wrap (r2)).toNat i64.bits)))=0)) none (some (i64.wrap ((i64.wrap (r1+(i64.wrap ((i64.wrap ((1:Int)*2^(min (u64.wrap (r2)).toNat i64.bits))).tdiv (2:Int))))).tdiv (i64.wrap ((1:Int)*2^(min (u64.wrap (r2)).toNat i64.bits))))))))
def pw (k:Nat) (a0:Int) (a1:Int) (a2:Int) (a3:Int):Option (Int):=
 (vM k a0 a1).bind λr1=>(nX k r1 a2).bind λr2=>(AX k a3).bind λr3=>(AX k (i64.wrap (r2+r3))).bind λr4=>some r4
def AY (k:Nat) (a0:Shape) (a1:Int) (a2:Int) (a3:Int):Option (Int):=
 (lj k a0).bind λr1=>cond (!r1) (some (-1:Int)) ((bA k a1 (0:Int) (i64.wrap (a0.h-1))).bind λr2=>cond (!r2) (some (-1:Int)) ((bA k a2 (0:Int) (i64.wrap (a0.w-1))).bind λr3=>cond (!r3) (some (-1:Int)) ((bA k a3 (0:Int) (i64.wrap (a0.c-1))).bind λr4=>cond (!r4) (some (-1:Int)) (some (i64.wrap ((i64.wrap ((i64.wrap ((i64.wrap (a1*a0.w))+a2))*a0.c))+a3))))))
def ql (k:Nat) (a0:aF) (a1:Int) (a2:Int) (a3:Int):Option (Int× Bool):=
 (AY k a0.sh a1 a2 a3).bind λr1=>(mK k a0).bind λr2=>cond (!r2) (some ((0:Int),false)) (cond (decide (r1<0)) (some ((0:Int),false)) ((idx a0.data r1).bind λe3=>some (e3,true)))
def nY {ρ:Type} (k:Nat) (p:Int× Int× Int× Int× Int× Int× Int× List Int× Int× Int× Int× Int× Int× Int× Int× List Int× List Int) (v:Int× List Int) (next:(Int× List Int)->Option ρ) (x2:(List Int)->Option ρ):Option ρ:=
 cond (decide (v.1<p.2.2.2.2.2.2.2.2.2.2.1)) ((ql k (⟨(⟨p.2.2.2.2.1,p.2.2.2.2.2.1,p.2.2.2.2.2.2.1⟩:Shape),p.2.2.2.2.2.2.2.1⟩:aF) (i64.wrap ((i64.wrap (p.1*p.2.2.2.2.2.2.2.2.2.2.2.1))+p.2.2.2.1)) (i64.wrap ((i64.wrap (p.2.1*p.2.2.2.2.2.2.2.2.2.2.2.1))+v.1)) p.2.2.1).bind λr1=>cond (Nat.ble (v.2.length+[r1.1].length) aU) (next (i64.wrap (v.1+1),v.2++[r1.1])) none) (x2 v.2)
def nZ {ρ:Type} (k:Nat) (p:Int× Int× Int× Int× Int× Int× List Int× Int× Int× Int× Int× Int× Int× Int× List Int× List Int) (v:Int× List Int) (next:(Int× List Int)->Option ρ) (x0:(List Int)->Option ρ):Option ρ:=
 cond (decide (v.1<p.2.2.2.2.2.2.2.2.2.1)) (iter (λu3 n3=>nY k (p.1,p.2.1,p.2.2.1,v.1,p.2.2.2.1,p.2.2.2.2.1,p.2.2.2.2.2.1,p.2.2.2.2.2.2.1,p.2.2.2.2.2.2.2.1,p.2.2.2.2.2.2.2.2.1,p.2.2.2.2.2.2.2.2.2.1,p.2.2.2.2.2.2.2.2.2.2.1,p.2.2.2.2.2.2.2.2.2.2.2.1,p.2.2.2.2.2.2.2.2.2.2.2.2.1,p.2.2.2.2.2.2.2.2.2.2.2.2.2.1,p.2.2.2.2.2.2.2.2.2.2.2.2.2.2.1,p.2.2.2.2.2.2.2.2.2.2.2.2.2.2.2) u3 n3 (λy2=>next (i64.wrap (v.1+1),y2))) k ((0:Int),v.2)) (x0 v.2)
def nj (k:Nat) (a0:aF) (a1:av) (a2:Int) (a3:Int) (a4:Int):Option (List Int):=
 iter (λu5 n5=>nZ k (a2,a3,a4,a0.sh.h,a0.sh.w,a0.sh.c,a0.data,a1.kind,a1.out,a1.size,a1.step,a1.mult,a1.shift,a1.zero,a1.weights,a1.ny) u5 n5 (λy4=>some y4)) k ((0:Int),([]:List Int))
def oa {ρ:Type} (k:Nat) (p:Int× Int× Int× Int× Int× Int× Int× Int× List Int× Int× Int× Int× Int× Int× Int× Int× List Int× List Int× Int× Int× Int) (v:Int× Int) (next:(Int× Int)->Option ρ) (x5:Int->Option ρ):Option ρ:=
 cond (decide (v.2<p.2.2.2.2.2.2.2.2.2.2.2.2.2.2.2.2.2.2.2.2)) ((ql k (⟨(⟨p.2.2.2.2.2.1,p.2.2.2.2.2.2.1,p.2.2.2.2.2.2.2.1⟩:Shape),p.2.2.2.2.2.2.2.2.1⟩:aF) (i64.wrap ((i64.wrap (p.1*p.2.2.2.2.2.2.2.2.2.2.2.2.1))+p.2.2.2.1)) (i64.wrap ((i64.wrap (p.2.1*p.2.2.2.2.2.2.2.2.2.2.2.2.1))+p.2.2.2.2.1)) v.2).bind λr6=>(idx p.2.2.2.2.2.2.2.2.2.2.2.2.2.2.2.2.1 (i64.wrap ((i64.wrap ((i64.wrap ((i64.wrap ((i64.wrap ((i64.wrap (p.2.2.1*p.2.2.2.2.2.2.2.2.2.2.2.1))+p.2.2.2.1))*p.2.2.2.2.2.2.2.2.2.2.2.1))+p.2.2.2.2.1))*p.2.2.2.2.2.2.2.2.2.2.2.2.2.2.2.2.2.2.2.2))+v.2))).bind λe7=>(nW k v.1 (i64.wrap (r6.1*e7))).bind λr8=>next (r8,i64.wrap (v.2+1))) (x5 v.1)
def oc {ρ:Type} (k:Nat) (p:Int× Int× Int× Int× Int× Int× Int× List Int× Int× Int× Int× Int× Int× Int× Int× List Int× List Int× Int× Int× Int) (v:Int× Int) (next:(Int× Int)->Option ρ) (x3:Int->Option ρ):Option ρ:=
 cond (decide (v.2<p.2.2.2.2.2.2.2.2.2.2.1)) (iter (λu10 n10=>oa k (p.1,p.2.1,p.2.2.1,p.2.2.2.1,v.2,p.2.2.2.2.1,p.2.2.2.2.2.1,p.2.2.2.2.2.2.1,p.2.2.2.2.2.2.2.1,p.2.2.2.2.2.2.2.2.1,p.2.2.2.2.2.2.2.2.2.1,p.2.2.2.2.2.2.2.2.2.2.1,p.2.2.2.2.2.2.2.2.2.2.2.1,p.2.2.2.2.2.2.2.2.2.2.2.2.1,p.2.2.2.2.2.2.2.2.2.2.2.2.2.1,p.2.2.2.2.2.2.2.2.2.2.2.2.2.2.1,p.2.2.2.2.2.2.2.2.2.2.2.2.2.2.2.1,p.2.2.2.2.2.2.2.2.2.2.2.2.2.2.2.2.1,p.2.2.2.2.2.2.2.2.2.2.2.2.2.2.2.2.2.1,p.2.2.2.2.2.2.2.2.2.2.2.2.2.2.2.2.2.2.1,p.2.2.2.2.2.2.2.2.2.2.2.2.2.2.2.2.2.2.2) u10 n10 (λy9=>next (y9,i64.wrap (v.2+1)))) k (v.1,(0:Int))) (x3 v.1)
def od {ρ:Type} (k:Nat) (p:Int× Int× Int× Int× Int× Int× List Int× Int× Int× Int× Int× Int× Int× Int× List Int× List Int× Int× Int× Int) (v:Int× Int) (next:(Int× Int)->Option ρ) (x1:Int->Option ρ):Option ρ:=
 cond (decide (v.2<p.2.2.2.2.2.2.2.2.2.1)) (iter (λu12 n12=>oc k (p.1,p.2.1,p.2.2.1,v.2,p.2.2.2.1,p.2.2.2.2.1,p.2.2.2.2.2.1,p.2.2.2.2.2.2.1,p.2.2.2.2.2.2.2.1,p.2.2.2.2.2.2.2.2.1,p.2.2.2.2.2.2.2.2.2.1,p.2.2.2.2.2.2.2.2.2.2.1,p.2.2.2.2.2.2.2.2.2.2.2.1,p.2.2.2.2.2.2.2.2.2.2.2.2.1,p.2.2.2.2.2.2.2.2.2.2.2.2.2.1,p.2.2.2.2.2.2.2.2.2.2.2.2.2.2.1,p.2.2.2.2.2.2.2.2.2.2.2.2.2.2.2.1,p.2.2.2.2.2.2.2.2.2.2.2.2.2.2.2.2.1,p.2.2.2.2.2.2.2.2.2.2.2.2.2.2.2.2.2.1,p.2.2.2.2.2.2.2.2.2.2.2.2.2.2.2.2.2.2) u12 n12 (λy11=>next (y11,i64.wrap (v.2+1)))) k (v.1,(0:Int))) (x1 v.1)
def oe {ρ:Type} (k:Nat) (p:List Int) (v:Int× Int) (next:(Int× Int)->Option ρ) (x7:Int->Option ρ):Option ρ:=
 cond (decide (v.2<(p.length:Int))) (cond (decide (0<=v.2/\v.2<(p.length:Int))) ((p[v.2.toNat]?).bind λe20=>cond (decide (e20>v.1)) (cond (decide (0<=v.2/\v.2<(p.length:Int))) ((p[v.2.toNat]?).bind λe21=>next (e21,i64.wrap (v.2+1))) none) (next (v.1,i64.wrap (v.2+1)))) none) (x7 v.1)
def oh {ρ:Type} (k:Nat) (p:List Int) (v:Int× Int) (next:(Int× Int)->Option ρ) (x9:Int->Option ρ):Option ρ:=
 cond (decide (v.2<(p.length:Int))) (cond (decide (0<=v.2/\v.2<(p.length:Int))) ((p[v.2.toNat]?).bind λe25=>next (i64.wrap (v.1+e25),i64.wrap (v.2+1))) none) (x9 v.1)
def vN (k:Nat) (a0:aF) (a1:av) (a2:Int) (a3:Int) (a4:Int):Option (Int):=
 cond (a1.kind==0) ((cu k a0.sh).bind λr1=>cond (decide (0<=(i64.wrap ((i64.wrap (a4*r1))+r1))/\(i64.wrap ((i64.wrap (a4*r1))+r1))<=(a1.weights.length:Int))) (cond (decide (0<=(i64.wrap (a4*r1))/\(i64.wrap (a4*r1))<=((i64.wrap ((i64.wrap (a4*r1))+r1)).toNat:Int))) ((ES k a0.data ((a1.weights.take ((i64.wrap ((i64.wrap (a4*r1))+r1)).toNat)).drop ((i64.wrap (a4*r1)).toNat))).bind λr2=>(idx a1.ny a4).bind λe3=>(nW k r2 e3).bind λr4=>(pw k r4 a1.mult a1.shift a1.zero).bind λr5=>some r5) none) none) (cond (a1.kind==1) (iter (λu17 n17=>od k (a2,a3,a4,a0.sh.h,a0.sh.w,a0.sh.c,a0.data,a1.kind,a1.out,a1.size,a1.step,a1.mult,a1.shift,a1.zero,a1.weights,a1.ny,a0.sh.h,a0.sh.w,a0.sh.c) u17 n17 (λy13=>(idx a1.ny a4).bind λe14=>(nW k y13 e14).bind λr15=>(pw k r15 a1.mult a1.shift a1.zero).bind λr16=>some r16)) k ((0:Int),(0:Int))) (cond (a1.kind==2) ((nj k a0 a1 a2 a3 a4).bind λr18=>cond (decide (0<=(0:Int)/\(0:Int)<(r18.length:Int))) ((r18[(0:Int).toNat]?).bind λe19=>iter (λu23 n23=>oe k r18 u23 n23 (λy22=>some y22)) k (e19,(1:Int))) none) (cond (a1.kind==3) ((nj k a0 a1 a2 a3 a4).bind λr24=>iter (λu27 n27=>oh k r24 u27 n27 (λy26=>cond (decide (y26<0)) (cond (decide ((i64.wrap ((2:Int)*(r24.length:Int)))=0)) none (some (i64.wrap (0-(i64.wrap ((i64.wrap ((i64.wrap ((-2:Int)*y26))+(r24.length:Int))).tdiv (i64.wrap ((2:Int)*(r24.length:Int))))))))) (cond (decide ((i64.wrap ((2:Int)*(r24.length:Int)))=0)) none (some (i64.wrap ((i64.wrap ((i64.wrap ((2:Int)*y26))+(r24.length:Int))).tdiv (i64.wrap ((2:Int)*(r24.length:Int))))))))) k ((0:Int),(0:Int))) (cond (a1.kind==4) ((ql k a0 a2 a3 a4).bind λr28=>cond (decide (r28.1<a1.zero)) (some a1.zero) (some r28.1)) ((idx a0.data a4).bind λe29=>some e29)))))
def md {ρ:Type} (k:Nat) (p:Int× Int× Int× Int× Int× List Int× Int× Int× Int× Int× Int× Int× Int× List Int× List Int× Int× Int× Int× Int× Int× Int× Int× Int× Int) (v:Int× List Int) (next:(Int× List Int)->Option ρ) (x4:(List Int)->Option ρ):Option ρ:=
 cond (decide (v.1<p.2.2.2.2.2.2.2.2.2.2.2.2.2.2.2.2.2.2.2.2.1)) ((vN k (⟨(⟨p.2.2.1,p.2.2.2.1,p.2.2.2.2.1⟩:Shape),p.2.2.2.2.2.1⟩:aF) (⟨p.2.2.2.2.2.2.1,p.2.2.2.2.2.2.2.1,p.2.2.2.2.2.2.2.2.1,p.2.2.2.2.2.2.2.2.2.1,p.2.2.2.2.2.2.2.2.2.2.1,p.2.2.2.2.2.2.2.2.2.2.2.1,p.2.2.2.2.2.2.2.2.2.2.2.2.1,p.2.2.2.2.2.2.2.2.2.2.2.2.2.1,p.2.2.2.2.2.2.2.2.2.2.2.2.2.2.1⟩:av) p.1 p.2.1 v.1).bind λr3=>cond (Nat.ble (v.2.length+[r3].length) aU) (next (i64.wrap (v.1+1),v.2++[r3])) none) (x4 v.2)
def mf {ρ:Type} (k:Nat) (p:Int× Int× Int× Int× List Int× Int× Int× Int× Int× Int× Int× Int× List Int× List Int× Int× Int× Int× Int× Int× Int× Int× Int× Int) (v:Int× List Int) (next:(Int× List Int)->Option ρ) (x2:(List Int)->Option ρ):Option ρ:=
 cond (decide (v.1<p.2.2.2.2.2.2.2.2.2.2.2.2.2.2.2.2.2.2.1)) (iter (λu5 n5=>md k (p.1,v.1,p.2.1,p.2.2.1,p.2.2.2.1,p.2.2.2.2.1,p.2.2.2.2.2.1,p.2.2.2.2.2.2.1,p.2.2.2.2.2.2.2.1,p.2.2.2.2.2.2.2.2.1,p.2.2.2.2.2.2.2.2.2.1,p.2.2.2.2.2.2.2.2.2.2.1,p.2.2.2.2.2.2.2.2.2.2.2.1,p.2.2.2.2.2.2.2.2.2.2.2.2.1,p.2.2.2.2.2.2.2.2.2.2.2.2.2.1,p.2.2.2.2.2.2.2.2.2.2.2.2.2.2.1,p.2.2.2.2.2.2.2.2.2.2.2.2.2.2.2.1,p.2.2.2.2.2.2.2.2.2.2.2.2.2.2.2.2.1,p.2.2.2.2.2.2.2.2.2.2.2.2.2.2.2.2.2.1,p.2.2.2.2.2.2.2.2.2.2.2.2.2.2.2.2.2.2.1,p.2.2.2.2.2.2.2.2.2.2.2.2.2.2.2.2.2.2.2.1,p.2.2.2.2.2.2.2.2.2.2.2.2.2.2.2.2.2.2.2.2.1,p.2.2.2.2.2.2.2.2.2.2.2.2.2.2.2.2.2.2.2.2.2.1,p.2.2.2.2.2.2.2.2.2.2.2.2.2.2.2.2.2.2.2.2.2.2) u5 n5 (λy4=>next (i64.wrap (v.1+1),y4))) k ((0:Int),v.2)) (x2 v.2)
def mg {ρ:Type} (k:Nat) (p:Int× Int× Int× List Int× Int× Int× Int× Int× Int× Int× Int× List Int× List Int× Int× Int× Int× Int× Int× Int× Int× Int× Int) (v:Int× List Int) (next:(Int× List Int)->Option ρ) (x0:(List Int)->Option ρ):Option ρ:=
 cond (decide (v.1<p.2.2.2.2.2.2.2.2.2.2.2.2.2.2.2.2.1)) (iter (λu7 n7=>mf k (v.1,p.1,p.2.1,p.2.2.1,p.2.2.2.1,p.2.2.2.2.1,p.2.2.2.2.2.1,p.2.2.2.2.2.2.1,p.2.2.2.2.2.2.2.1,p.2.2.2.2.2.2.2.2.1,p.2.2.2.2.2.2.2.2.2.1,p.2.2.2.2.2.2.2.2.2.2.1,p.2.2.2.2.2.2.2.2.2.2.2.1,p.2.2.2.2.2.2.2.2.2.2.2.2.1,p.2.2.2.2.2.2.2.2.2.2.2.2.2.1,p.2.2.2.2.2.2.2.2.2.2.2.2.2.2.1,p.2.2.2.2.2.2.2.2.2.2.2.2.2.2.2.1,p.2.2.2.2.2.2.2.2.2.2.2.2.2.2.2.2.1,p.2.2.2.2.2.2.2.2.2.2.2.2.2.2.2.2.2.1,p.2.2.2.2.2.2.2.2.2.2.2.2.2.2.2.2.2.2.1,p.2.2.2.2.2.2.2.2.2.2.2.2.2.2.2.2.2.2.2.1,p.2.2.2.2.2.2.2.2.2.2.2.2.2.2.2.2.2.2.2.2.1,p.2.2.2.2.2.2.2.2.2.2.2.2.2.2.2.2.2.2.2.2.2) u7 n7 (λy6=>next (i64.wrap (v.1+1),y6))) k ((0:Int),v.2)) (x0 v.2)
def sW (k:Nat) (a0:aF) (a1:av):Option (aF× Bool):=
 (mK k a0).bind λr1=>cond (!r1) (some ((⟨(⟨(0:Int),(0:Int),(0:Int)⟩:Shape),([]:List Int)⟩:aF),false)) ((kz k a0.sh a1).bind λr2=>cond (!r2.2) (some ((⟨(⟨(0:Int),(0:Int),(0:Int)⟩:Shape),([]:List Int)⟩:aF),false)) (iter (λu9 n9=>mg k (a0.sh.h,a0.sh.w,a0.sh.c,a0.data,a1.kind,a1.out,a1.size,a1.step,a1.mult,a1.shift,a1.zero,a1.weights,a1.ny,(0:Int),(0:Int),(0:Int),r2.1.h,r2.1.w,r2.1.c,r2.1.h,r2.1.w,r2.1.c) u9 n9 (λy8=>some ((⟨r2.1,y8⟩:aF),true))) k ((0:Int),([]:List Int))))
def nk {ρ:Type} (k:Nat) (p:List Int) (v:Int× List Int) (next:(Int× List Int)->Option ρ) (x0:(List Int)->Option ρ):Option ρ:=
 cond (decide (v.1<(p.length:Int))) (cond (decide (0<=v.1/\v.1<(p.length:Int))) ((p[v.1.toNat]?).bind λe3=>cond (Nat.ble (v.2.length+[e3].length) aU) (next (i64.wrap (v.1+1),v.2++[e3])) none) none) (x0 v.2)
def zC (k:Nat) (a0:Job):Option (List Int):=
 (uB k a0).bind λr1=>cond (!r1) (some ([]:List Int)) ((ln k a0.model).bind λr2=>iter (λu5 n5=>nk k r2 u5 n5 (λy4=>some y4)) k (a0.at_,([]:List Int)))
def sX (k:Nat) (a0:Job):Option (Int):=
 (zC k a0).bind λr1=>cond ((r1.length:Int)==(0:Int)) (some (0:Int)) (cond (decide (0<=(0:Int)/\(0:Int)<(r1.length:Int))) ((r1[(0:Int).toNat]?).bind λe2=>some e2) none)
def vO (k:Nat) (a0:Job):Option (Job× Bool):=
 (vJ k a0).bind λr1=>(uB k a0).bind λr2=>cond (!r2) (some (r1,false)) ((vK k a0).bind λr3=>cond (r3) (some (r1,false)) ((idx a0.model.aC a0.at_).bind λe4=>(sW k a0.act e4).bind λr5=>(sX k a0).bind λr6=>some ((⟨r1.model,(i64.wrap (a0.at_+1)),r5.1,(i64.wrap (a0.ke+r6))⟩:Job),true)))
def zD (k:Nat) (a0:Job):Option (List Int):=
 (AW k a0).bind λr1=>cond (!r1) (some ([]:List Int)) ((lr k a0.model).bind λr2=>cond (decide (0<=a0.at_/\a0.at_<=(r2.length:Int))) (some (((r2).drop a0.at_.toNat).take (r2.length-a0.at_.toNat))) none)
def sY (k:Nat) (a0:Job):Option (Int):=
 (zD k a0).bind λr1=>cond ((r1.length:Int)==(0:Int)) (some (0:Int)) ((idx r1 (0:Int)).bind λe2=>some e2)
def LG (k:Nat) (a0:Int) (a1:Int) (a2:Int):Option (Int):=
 some (if(if a2<a0 then a2 else a0)>a1 then(if a2<a0 then a2 else a0)else a1)
def AZ (k:Nat) (a0:Int):Option (Int):=
 (LG k a0 (-128:Int) (127:Int)).bind λr1=>some r1
def oR (k:Nat) (a0:Int):Option (Int):=
 (LG k a0 (-2147483648:Int) (2147483647:Int)).bind λr1=>some r1
def vP (k:Nat) (a0:Int) (a1:Int):Option (Int):=
 (oR k a0).bind λr1=>(oR k a1).bind λr2=>(oR k (i64.wrap (r1+r2))).bind λr3=>some r3
def sZ {ρ:Type} (k:Nat) (p:List Int× List Int× Int) (v:Int× Int) (next:(Int× Int)->Option ρ) (x0:Int->Option ρ):Option ρ:=
 cond (decide (v.2<p.2.2)) ((idx p.1 v.2).bind λe1=>(AZ k e1).bind λr2=>(idx p.2.1 v.2).bind λe3=>(AZ k e3).bind λr4=>(vP k v.1 (i64.wrap (r2*r4))).bind λr5=>next (r5,i64.wrap (v.2+1))) (x0 v.1)
def ET (k:Nat) (a0:List Int) (a1:List Int):Option (Int):=
 iter (λu7 n7=>sZ k (a0,a1,if(a1.length:Int)<(a0.length:Int)then(a1.length:Int)else(a0.length:Int)) u7 n7 (λy6=>some y6)) k ((0:Int),(0:Int))
def vQ (k:Nat) (a0:Int) (a1:Int):Option (Int):=
 (oR k a0).bind λr1=>(oR k a1).bind λr2=>(oR k ((i64.wrap ((i64.wrap (r1*r2))+1073741824)).fdiv (2^(min (31:Int).toNat i64.bits)))).bind λr3=>some r3
def qm (k:Nat) (a0:Int) (a1:Int):Option (Int):=
 cond (decide (a0<0)) (none) (cond (decide ((i64.wrap ((2:Int)*a1))=0)) none (some (i64.wrap ((i64.wrap ((i64.wrap ((2:Int)*a0))+a1)).tdiv (i64.wrap ((2:Int)*a1))))))
def px (k:Nat) (a0:Int) (a1:Int):Option (Int):=
 cond (decide (a0<0)) ((qm k (i64.wrap (0-a0)) a1).bind λr1=>some (i64.wrap (0-r1))) (cond (decide ((i64.wrap ((2:Int)*a1))=0)) none (some (i64.wrap ((i64.wrap ((i64.wrap ((2:Int)*a0))+a1)).tdiv (i64.wrap ((2:Int)*a1))))))
def om (k:Nat) (a0:Int) (a1:Int):Option (Int):=
 (oR k a0).bind λr1=>(LG k a1 (0:Int) (31:Int)).bind λr2=>cond (decide (r2<0)) none ((px k r1 (i64.wrap ((1:Int)*2^(min r2.toNat i64.bits)))).bind λr3=>some r3)
def vR (k:Nat) (a0:Int) (a1:Int) (a2:Int) (a3:Int):Option (Int):=
 (vQ k a0 a1).bind λr1=>(om k r1 a2).bind λr2=>(AZ k a3).bind λr3=>(AZ k (i64.wrap (r2+r3))).bind λr4=>some r4
def gv (k:Nat) (a0:av) (a1:List Int) (a2:Int):Option (Int):=
 cond (decide (0<=(i64.wrap ((i64.wrap (a2+1))*(a1.length:Int)))/\(i64.wrap ((i64.wrap (a2+1))*(a1.length:Int)))<=(a0.weights.length:Int))) (cond (decide (0<=(i64.wrap (a2*(a1.length:Int)))/\(i64.wrap (a2*(a1.length:Int)))<=((i64.wrap ((i64.wrap (a2+1))*(a1.length:Int))).toNat:Int))) ((ET k a1 ((a0.weights.take ((i64.wrap ((i64.wrap (a2+1))*(a1.length:Int))).toNat)).drop ((i64.wrap (a2*(a1.length:Int))).toNat))).bind λr1=>(idx a0.ny a2).bind λe2=>(vP k r1 e2).bind λr3=>(vR k r3 a0.mult a0.shift a0.zero).bind λr4=>some r4) none) none
def jQ (k:Nat) (a0:Shape) (a1:Int) (a2:Int) (a3:Int):Option (Int):=
 some (i64.wrap ((i64.wrap ((i64.wrap ((i64.wrap (a1*a0.w))+a2))*a0.c))+a3))
def er {ρ:Type} (k:Nat) (p:Int× Int× Int× Int× Int× Int× Int× Int× Int× Int× Int× Int× Int× Int× List Int× List Int× Int× Int× Int× List Int) (v:Int× List Int) (next:(Int× List Int)->Option ρ) (x2:(List Int)->Option ρ):Option ρ:=
 cond (decide (v.1<p.2.2.2.2.2.2.1)) ((jQ k (⟨p.2.2.2.2.2.2.2.2.2.2.2.2.2.2.2.2.1,p.2.2.2.2.2.2.2.2.2.2.2.2.2.2.2.2.2.1,p.2.2.2.2.2.2.2.2.2.2.2.2.2.2.2.2.2.2.1⟩:Shape) (i64.wrap ((i64.wrap (p.1*p.2.2.2.2.2.2.2.2.2.2.1))+p.2.2.2.1)) (i64.wrap ((i64.wrap (p.2.1*p.2.2.2.2.2.2.2.2.2.2.1))+v.1)) (0:Int)).bind λr1=>cond (decide (p.2.2.1<0)) (cond (decide (0<=(i64.wrap (r1+p.2.2.2.2.2.2.2.2.2.2.2.2.2.2.2.2.2.2.1))/\(i64.wrap (r1+p.2.2.2.2.2.2.2.2.2.2.2.2.2.2.2.2.2.2.1))<=(p.2.2.2.2.2.2.2.2.2.2.2.2.2.2.2.2.2.2.2.length:Int))) (cond (decide (0<=r1/\r1<=((i64.wrap (r1+p.2.2.2.2.2.2.2.2.2.2.2.2.2.2.2.2.2.2.1)).toNat:Int))) (cond (Nat.ble (v.2.length+((p.2.2.2.2.2.2.2.2.2.2.2.2.2.2.2.2.2.2.2.take ((i64.wrap (r1+p.2.2.2.2.2.2.2.2.2.2.2.2.2.2.2.2.2.2.1)).toNat)).drop r1.toNat).length) aU) (next (i64.wrap (v.1+1),v.2++((p.2.2.2.2.2.2.2.2.2.2.2.2.2.2.2.2.2.2.2.take ((i64.wrap (r1+p.2.2.2.2.2.2.2.2.2.2.2.2.2.2.2.2.2.2.1)).toNat)).drop r1.toNat))) none) none) none) ((idx p.2.2.2.2.2.2.2.2.2.2.2.2.2.2.2.2.2.2.2 (i64.wrap (r1+p.2.2.1))).bind λe2=>cond (Nat.ble (v.2.length+[e2].length) aU) (next (i64.wrap (v.1+1),v.2++[e2])) none)) (x2 v.2)
def et {ρ:Type} (k:Nat) (p:Int× Int× Int× Int× Int× Int× Int× Int× Int× Int× Int× List Int× List Int× Int× Int× Int× List Int) (v:Int× List Int) (next:(Int× List Int)->Option ρ) (x0:(List Int)->Option ρ):Option ρ:=
 cond (decide (v.1<p.2.2.2.1)) (iter (λu4 n4=>er k (p.1,p.2.1,p.2.2.1,v.1,p.2.2.2.1,v.1,p.2.2.2.2.2.2.1,p.2.2.2.2.1,p.2.2.2.2.2.1,p.2.2.2.2.2.2.1,p.2.2.2.2.2.2.2.1,p.2.2.2.2.2.2.2.2.1,p.2.2.2.2.2.2.2.2.2.1,p.2.2.2.2.2.2.2.2.2.2.1,p.2.2.2.2.2.2.2.2.2.2.2.1,p.2.2.2.2.2.2.2.2.2.2.2.2.1,p.2.2.2.2.2.2.2.2.2.2.2.2.2.1,p.2.2.2.2.2.2.2.2.2.2.2.2.2.2.1,p.2.2.2.2.2.2.2.2.2.2.2.2.2.2.2.1,p.2.2.2.2.2.2.2.2.2.2.2.2.2.2.2.2) u4 n4 (λy3=>next (i64.wrap (v.1+1),y3))) k ((0:Int),v.2)) (x0 v.2)
def cW (k:Nat) (a0:av) (a1:aF) (a2:Int) (a3:Int) (a4:Int):Option (List Int):=
 iter (λu6 n6=>et k (a2,a3,a4,a0.size,a0.kind,a0.out,a0.size,a0.step,a0.mult,a0.shift,a0.zero,a0.weights,a0.ny,a1.sh.h,a1.sh.w,a1.sh.c,a1.data) u6 n6 (λy5=>some y5)) k ((0:Int),([]:List Int))
def eJ {ρ:Type} (k:Nat) (p:List Int) (v:Int× Int) (next:(Int× Int)->Option ρ) (x0:Int->Option ρ):Option ρ:=
 cond (decide (v.2<(p.length:Int))) ((idx p v.2).bind λe2=>next (if e2>v.1 then e2 else v.1,i64.wrap (v.2+1))) (x0 v.1)
def fR (k:Nat) (a0:List Int):Option (Int):=
 cond (decide ((a0.length:Int)<(1:Int))) (none) ((idx a0 (0:Int)).bind λe1=>iter (λu4 n4=>eJ k a0 u4 n4 (λy3=>some y3)) k (e1,(1:Int)))
def jR {ρ:Type} (k:Nat) (p:Int× Int× Int× Int× Int× Int× Int× Int× List Int× List Int× List Int) (v:Int× Int) (next:(Int× Int)->Option ρ) (x1:Int->Option ρ):Option ρ:=
 cond (decide (v.2<p.1)) (cond (decide (0<=v.2/\v.2<(p.2.2.2.2.2.2.2.2.2.2.length:Int))) ((p.2.2.2.2.2.2.2.2.2.2[v.2.toNat]?).bind λe7=>next (i64.wrap (v.1+e7),i64.wrap (v.2+1))) none) (x1 v.1)
def oo (k:Nat) (a0:av) (a1:aF) (a2:Int) (a3:Int) (a4:Int):Option (Int):=
 cond (a0.kind==0) ((gv k a0 a1.data a4).bind λr1=>some r1) (cond (a0.kind==1) ((cW k a0 a1 a2 a3 (-1:Int)).bind λr2=>(gv k a0 r2 a4).bind λr3=>some r3) (cond (a0.kind==2) ((cW k a0 a1 a2 a3 a4).bind λr4=>(fR k r4).bind λr5=>some r5) (cond (a0.kind==3) ((cW k a0 a1 a2 a3 a4).bind λr6=>iter (λu10 n10=>jR k ((r6.length:Int),a0.kind,a0.out,a0.size,a0.step,a0.mult,a0.shift,a0.zero,a0.weights,a0.ny,r6) u10 n10 (λy8=>(px k y8 (i64.wrap (a0.size*a0.size))).bind λr9=>some r9)) k ((0:Int),(0:Int))) (cond (a0.kind==4) ((jQ k a1.sh a2 a3 a4).bind λr11=>(idx a1.data r11).bind λe12=>some (if a0.zero>e12 then a0.zero else e12)) ((idx a1.data a4).bind λe13=>some e13)))))
def mi {ρ:Type} (k:Nat) (p:Int× Int× Int× Int× Int× Int× Int× Int× Int× Int× List Int× Int× Int× Int× Int× Int× Int× Int× List Int× List Int× Int× Int× Int× Int× Int× Int× Int× Int× Int) (v:Int× List Int) (next:(Int× List Int)->Option ρ) (x4:(List Int)->Option ρ):Option ρ:=
 cond (decide (v.1<p.2.2.2.2.2.2.1)) ((oo k (⟨p.2.2.2.2.2.2.2.2.2.2.2.1,p.2.2.2.2.2.2.2.2.2.2.2.2.1,p.2.2.2.2.2.2.2.2.2.2.2.2.2.1,p.2.2.2.2.2.2.2.2.2.2.2.2.2.2.1,p.2.2.2.2.2.2.2.2.2.2.2.2.2.2.2.1,p.2.2.2.2.2.2.2.2.2.2.2.2.2.2.2.2.1,p.2.2.2.2.2.2.2.2.2.2.2.2.2.2.2.2.2.1,p.2.2.2.2.2.2.2.2.2.2.2.2.2.2.2.2.2.2.1,p.2.2.2.2.2.2.2.2.2.2.2.2.2.2.2.2.2.2.2.1⟩:av) (⟨(⟨p.2.2.2.2.2.2.2.1,p.2.2.2.2.2.2.2.2.1,p.2.2.2.2.2.2.2.2.2.1⟩:Shape),p.2.2.2.2.2.2.2.2.2.2.1⟩:aF) p.1 p.2.1 v.1).bind λr3=>cond (Nat.ble (v.2.length+[r3].length) aU) (next (i64.wrap (v.1+1),v.2++[r3])) none) (x4 v.2)
def mj {ρ:Type} (k:Nat) (p:Int× Int× Int× Int× Int× Int× Int× List Int× Int× Int× Int× Int× Int× Int× Int× List Int× List Int× Int× Int× Int× Int× Int× Int× Int× Int× Int) (v:Int× List Int) (next:(Int× List Int)->Option ρ) (x2:(List Int)->Option ρ):Option ρ:=
 cond (decide (v.1<p.2.2.2.1)) (iter (λu5 n5=>mi k (p.1,v.1,p.2.1,p.2.2.1,p.2.2.2.1,v.1,p.2.2.2.2.2.2.2.2.2.2.2.2.2.2.2.2.2.2.2.2.2.2.1,p.2.2.2.2.1,p.2.2.2.2.2.1,p.2.2.2.2.2.2.1,p.2.2.2.2.2.2.2.1,p.2.2.2.2.2.2.2.2.1,p.2.2.2.2.2.2.2.2.2.1,p.2.2.2.2.2.2.2.2.2.2.1,p.2.2.2.2.2.2.2.2.2.2.2.1,p.2.2.2.2.2.2.2.2.2.2.2.2.1,p.2.2.2.2.2.2.2.2.2.2.2.2.2.1,p.2.2.2.2.2.2.2.2.2.2.2.2.2.2.1,p.2.2.2.2.2.2.2.2.2.2.2.2.2.2.2.1,p.2.2.2.2.2.2.2.2.2.2.2.2.2.2.2.2.1,p.2.2.2.2.2.2.2.2.2.2.2.2.2.2.2.2.2.1,p.2.2.2.2.2.2.2.2.2.2.2.2.2.2.2.2.2.2.1,p.2.2.2.2.2.2.2.2.2.2.2.2.2.2.2.2.2.2.2.1,p.2.2.2.2.2.2.2.2.2.2.2.2.2.2.2.2.2.2.2.2.1,p.2.2.2.2.2.2.2.2.2.2.2.2.2.2.2.2.2.2.2.2.2.1,p.2.2.2.2.2.2.2.2.2.2.2.2.2.2.2.2.2.2.2.2.2.2.1,p.2.2.2.2.2.2.2.2.2.2.2.2.2.2.2.2.2.2.2.2.2.2.2.1,p.2.2.2.2.2.2.2.2.2.2.2.2.2.2.2.2.2.2.2.2.2.2.2.2.1,p.2.2.2.2.2.2.2.2.2.2.2.2.2.2.2.2.2.2.2.2.2.2.2.2.2) u5 n5 (λy4=>next (i64.wrap (v.1+1),y4))) k ((0:Int),v.2)) (x2 v.2)
def mm {ρ:Type} (k:Nat) (p:Int× Int× Int× Int× List Int× Int× Int× Int× Int× Int× Int× Int× List Int× List Int× Int× Int× Int× Int× Int× Int× Int× Int× Int) (v:Int× List Int) (next:(Int× List Int)->Option ρ) (x0:(List Int)->Option ρ):Option ρ:=
 cond (decide (v.1<p.1)) (iter (λu7 n7=>mj k (v.1,p.1,v.1,p.2.2.2.2.2.2.2.2.2.2.2.2.2.2.2.2.2.2.1,p.2.1,p.2.2.1,p.2.2.2.1,p.2.2.2.2.1,p.2.2.2.2.2.1,p.2.2.2.2.2.2.1,p.2.2.2.2.2.2.2.1,p.2.2.2.2.2.2.2.2.1,p.2.2.2.2.2.2.2.2.2.1,p.2.2.2.2.2.2.2.2.2.2.1,p.2.2.2.2.2.2.2.2.2.2.2.1,p.2.2.2.2.2.2.2.2.2.2.2.2.1,p.2.2.2.2.2.2.2.2.2.2.2.2.2.1,p.2.2.2.2.2.2.2.2.2.2.2.2.2.2.1,p.2.2.2.2.2.2.2.2.2.2.2.2.2.2.2.1,p.2.2.2.2.2.2.2.2.2.2.2.2.2.2.2.2.1,p.2.2.2.2.2.2.2.2.2.2.2.2.2.2.2.2.2.1,p.2.2.2.2.2.2.2.2.2.2.2.2.2.2.2.2.2.2.1,p.2.2.2.2.2.2.2.2.2.2.2.2.2.2.2.2.2.2.2.1,p.2.2.2.2.2.2.2.2.2.2.2.2.2.2.2.2.2.2.2.2.1,p.2.2.2.2.2.2.2.2.2.2.2.2.2.2.2.2.2.2.2.2.2.1,p.2.2.2.2.2.2.2.2.2.2.2.2.2.2.2.2.2.2.2.2.2.2) u7 n7 (λy6=>next (i64.wrap (v.1+1),y6))) k ((0:Int),v.2)) (x0 v.2)
def s5 (k:Nat) (a0:aF) (a1:av):Option (aF× Bool):=
 (mL k a0.sh a1).bind λr1=>cond (!r1.2) (some ((⟨(⟨(0:Int),(0:Int),(0:Int)⟩:Shape),([]:List Int)⟩:aF),false)) ((ph k a0).bind λr2=>cond (!r2) (some ((⟨(⟨(0:Int),(0:Int),(0:Int)⟩:Shape),([]:List Int)⟩:aF),false)) (iter (λu9 n9=>mm k (r1.1.h,a0.sh.h,a0.sh.w,a0.sh.c,a0.data,a1.kind,a1.out,a1.size,a1.step,a1.mult,a1.shift,a1.zero,a1.weights,a1.ny,(0:Int),(0:Int),(0:Int),r1.1.h,r1.1.w,r1.1.c,r1.1.h,r1.1.w,r1.1.c) u9 n9 (λy8=>some ((⟨r1.1,y8⟩:aF),true))) k ((0:Int),([]:List Int))))
end
end
set_option maxRecDepth 100000
set_option maxHeartbeats 4000000
section
noncomputable section
end
end
set_option maxRecDepth 100000
section
noncomputable section
def jk {ρ:Type} (k:Nat) (p:Unit) (v:Int× List Int) (next:(Int× List Int)->Option ρ) (x0:(Int× List Int)->Option ρ):Option ρ:=
 cond (decide (v.1>=128)) (cond (Nat.ble (v.2.length+[(u8.wrap (i64.wrap ((128:Int)+(v.1.tmod (128:Int)))))].length) aU) (next (i64.wrap (v.1.tdiv (128:Int)),v.2++[(u8.wrap (i64.wrap ((128:Int)+(v.1.tmod (128:Int)))))])) none) (x0 (v.1,v.2))
def rO (k:Nat) (a0:Int):Option (List Int):=
 (bA k a0 (-1099511627776:Int) (1099511627775:Int)).bind λr1=>cond (!r1) (some ([]:List Int)) (cond (decide (a0<0)) (iter (λu3 n3=>jk k () u3 n3 (λy2=>cond (Nat.ble (y2.2.length+[(u8.wrap (y2.1))].length) aU) (some (y2.2++[(u8.wrap (y2.1))])) none)) k (i64.wrap ((i64.wrap ((-2:Int)*a0))-1),([]:List Int))) (iter (λu5 n5=>jk k () u5 n5 (λy4=>cond (Nat.ble (y4.2.length+[(u8.wrap (y4.1))].length) aU) (some (y4.2++[(u8.wrap (y4.1))])) none)) k (i64.wrap ((2:Int)*a0),([]:List Int))))
def kU {ρ:Type} (k:Nat) (p:Int× List Int× List Int) (v:Int× List Int) (next:(Int× List Int)->Option ρ) (x2:(List Int)->Option ρ):Option ρ:=
 cond (decide (v.1<(p.2.2.length:Int))) (cond (decide (0<=v.1/\v.1<(p.2.2.length:Int))) ((p.2.2[v.1.toNat]?).bind λe3=>cond (Nat.ble (v.2.length+[e3].length) aU) (next (i64.wrap (v.1+1),v.2++[e3])) none) none) (x2 v.2)
def kV {ρ:Type} (k:Nat) (p:List Int) (v:Int× List Int) (next:(Int× List Int)->Option ρ) (x0:(List Int)->Option ρ):Option ρ:=
 cond (decide (v.1<(p.length:Int))) (cond (decide (0<=v.1/\v.1<(p.length:Int))) ((p[v.1.toNat]?).bind λe1=>(rO k e1).bind λr2=>iter (λu5 n5=>kU k (v.1,p,r2) u5 n5 (λy4=>next (i64.wrap (v.1+1),y4))) k ((0:Int),v.2)) none) (x0 v.2)
def iX (k:Nat) (a0:List Int) (a1:List Int):Option (List Int):=
 iter (λu7 n7=>kV k a1 u7 n7 (λy6=>cond (decide (a1=a1)) (some y6) none)) k ((0:Int),a0)
def kW {ρ:Type} (k:Nat) (p:List Int× Int× List Int) (v:Int× List Int) (next:(Int× List Int)->Option ρ) (x2:(List Int)->Option ρ):Option ρ:=
 cond (decide (v.1<(p.2.2.length:Int))) (cond (decide (0<=v.1/\v.1<(p.2.2.length:Int))) ((p.2.2[v.1.toNat]?).bind λe3=>cond (Nat.ble (v.2.length+[e3].length) aU) (next (i64.wrap (v.1+1),v.2++[e3])) none) none) (x2 v.2)
def kX {ρ:Type} (k:Nat) (p:List Int) (v:Int× List Int) (next:(Int× List Int)->Option ρ) (x0:(List Int)->Option ρ):Option ρ:=
 cond (decide (v.1<(p.length:Int))) ((idx p v.1).bind λe1=>(rO k e1).bind λr2=>iter (λu5 n5=>kW k (p,v.1,r2) u5 n5 (λy4=>next (i64.wrap (v.1+1),y4))) k ((0:Int),v.2)) (x0 v.2)
def nm (k:Nat) (a0:List Int) (a1:List Int):Option (List Int):=
 iter (λu7 n7=>kX k a1 u7 n7 (λy6=>some y6)) k ((0:Int),a0)
def qn (k:Nat) (a0:Int):Option (Bool):=
 (sJ k a0 (-1099511627776:Int) (1099511627775:Int)).bind λr1=>some r1
def gY {ρ:Type} (k:Nat) (p:List Int× Int) (v:Int× Int) (next:(Int× Int)->Option ρ) (x0:Unit->Option ρ) (fZ:(Int× Int)->Option ρ):Option ρ:=
 cond (decide (v.2<6)) (cond (decide (p.2<0)) (fZ ((0:Int),(-1:Int))) (cond (decide (p.2>=(i64.wrap ((p.1.length:Int)-v.2)))) (fZ ((0:Int),(-1:Int))) ((idx p.1 (i64.wrap (p.2+v.2))).bind λe1=>cond (decide ((u64.wrap (i64.wrap ((7:Int)*v.2)))<0)) none (cond (decide ((i64.wrap (e1))<128)) (cond ((i64.wrap (e1))==0) (cond (decide (v.2>0)) (fZ ((0:Int),(-1:Int))) (cond (decide ((i64.wrap (v.1+(i64.wrap (((i64.wrap (e1)).tmod (128:Int))*2^(min (u64.wrap (i64.wrap ((7:Int)*v.2))).toNat i64.bits)))))>2199023255551)) (fZ ((0:Int),(-1:Int))) (cond (((i64.wrap (v.1+(i64.wrap (((i64.wrap (e1)).tmod (128:Int))*2^(min (u64.wrap (i64.wrap ((7:Int)*v.2))).toNat i64.bits))))).tmod (2:Int))==1) (fZ (i64.wrap ((i64.wrap (0-(i64.wrap ((i64.wrap (v.1+(i64.wrap (((i64.wrap (e1)).tmod (128:Int))*2^(min (u64.wrap (i64.wrap ((7:Int)*v.2))).toNat i64.bits)))))+1)))).tdiv (2:Int)),i64.wrap ((i64.wrap (p.2+v.2))+1))) (fZ (i64.wrap ((i64.wrap (v.1+(i64.wrap (((i64.wrap (e1)).tmod (128:Int))*2^(min (u64.wrap (i64.wrap ((7:Int)*v.2))).toNat i64.bits))))).tdiv (2:Int)),i64.wrap ((i64.wrap (p.2+v.2))+1)))))) (cond (decide ((i64.wrap (v.1+(i64.wrap (((i64.wrap (e1)).tmod (128:Int))*2^(min (u64.wrap (i64.wrap ((7:Int)*v.2))).toNat i64.bits)))))>2199023255551)) (fZ ((0:Int),(-1:Int))) (cond (((i64.wrap (v.1+(i64.wrap (((i64.wrap (e1)).tmod (128:Int))*2^(min (u64.wrap (i64.wrap ((7:Int)*v.2))).toNat i64.bits))))).tmod (2:Int))==1) (fZ (i64.wrap ((i64.wrap (0-(i64.wrap ((i64.wrap (v.1+(i64.wrap (((i64.wrap (e1)).tmod (128:Int))*2^(min (u64.wrap (i64.wrap ((7:Int)*v.2))).toNat i64.bits)))))+1)))).tdiv (2:Int)),i64.wrap ((i64.wrap (p.2+v.2))+1))) (fZ (i64.wrap ((i64.wrap (v.1+(i64.wrap (((i64.wrap (e1)).tmod (128:Int))*2^(min (u64.wrap (i64.wrap ((7:Int)*v.2))).toNat i64.bits))))).tdiv (2:Int)),i64.wrap ((i64.wrap (p.2+v.2))+1)))))) (next (i64.wrap (v.1+(i64.wrap (((i64.wrap (e1)).tmod (128:Int))*2^(min (u64.wrap (i64.wrap ((7:Int)*v.2))).toNat i64.bits)))),i64.wrap (v.2+1))))))) (x0 ())
def s6 (k:Nat) (a0:List Int) (a1:Int):Option (Int× Int):=
 iter (λu4 n4=>gY k (a0,a1) u4 n4 (λy2=>some ((0:Int),(-1:Int))) (λy3=>some (y3.1,y3.2))) k ((0:Int),(0:Int))
def cO (k:Nat) (aZ:List Int) (fM:Int) (fH:Bool):Option (Int× Int× Bool):=
 cond (fH) (cond (decide (aZ=aZ)) (some ((0:Int),fM,fH)) none) ((s6 k aZ fM).bind λr1=>cond (decide (r1.2<0)) (cond (decide (aZ=aZ)) (some ((0:Int),fM,true)) none) (cond (decide (aZ=aZ)) (some (r1.1,r1.2,fH)) none))
def jS {ρ:Type} (k:Nat) (p:Int× List Int× Int) (v:Int× Int) (next:(Int× Int)->Option ρ) (x0:Unit->Option ρ) (fZ:(Int× Int)->Option ρ):Option ρ:=
 cond (decide (v.2<p.2.2)) ((idx p.2.1 v.2).bind λe2=>cond (decide ((i64.wrap ((7:Int)*v.2))<0)) none (cond (decide (e2>=128)) (next (i64.wrap (((BitVec.ofInt i64.bits v.1||| BitVec.ofInt i64.bits (i64.wrap ((i64.wrap (u8.wrap (((BitVec.ofInt u8.bits e2&&& BitVec.ofInt u8.bits (127:Int)).toNat:Int))))*2^(min (i64.wrap ((7:Int)*v.2)).toNat i64.bits)))).toNat:Int)),i64.wrap (v.2+1))) (cond (((i64.wrap (((BitVec.ofInt i64.bits v.1||| BitVec.ofInt i64.bits (i64.wrap ((i64.wrap (u8.wrap (((BitVec.ofInt u8.bits e2&&& BitVec.ofInt u8.bits (127:Int)).toNat:Int))))*2^(min (i64.wrap ((7:Int)*v.2)).toNat i64.bits)))).toNat:Int))).tmod (2:Int))==1) (cond (decide (v.2>0)) (cond (e2==0) (x0 ()) ((qn k (i64.wrap ((i64.wrap (0-(i64.wrap ((i64.wrap (((BitVec.ofInt i64.bits v.1||| BitVec.ofInt i64.bits (i64.wrap ((i64.wrap (u8.wrap (((BitVec.ofInt u8.bits e2&&& BitVec.ofInt u8.bits (127:Int)).toNat:Int))))*2^(min (i64.wrap ((7:Int)*v.2)).toNat i64.bits)))).toNat:Int))).tdiv (2:Int)))))-1))).bind λr3=>cond (!r3) (x0 ()) (fZ (i64.wrap ((i64.wrap (0-(i64.wrap ((i64.wrap (((BitVec.ofInt i64.bits v.1||| BitVec.ofInt i64.bits (i64.wrap ((i64.wrap (u8.wrap (((BitVec.ofInt u8.bits e2&&& BitVec.ofInt u8.bits (127:Int)).toNat:Int))))*2^(min (i64.wrap ((7:Int)*v.2)).toNat i64.bits)))).toNat:Int))).tdiv (2:Int)))))-1),i64.wrap ((i64.wrap (p.1+v.2))+1))))) ((qn k (i64.wrap ((i64.wrap (0-(i64.wrap ((i64.wrap (((BitVec.ofInt i64.bits v.1||| BitVec.ofInt i64.bits (i64.wrap ((i64.wrap (u8.wrap (((BitVec.ofInt u8.bits e2&&& BitVec.ofInt u8.bits (127:Int)).toNat:Int))))*2^(min (i64.wrap ((7:Int)*v.2)).toNat i64.bits)))).toNat:Int))).tdiv (2:Int)))))-1))).bind λr4=>cond (!r4) (x0 ()) (fZ (i64.wrap ((i64.wrap (0-(i64.wrap ((i64.wrap (((BitVec.ofInt i64.bits v.1||| BitVec.ofInt i64.bits (i64.wrap ((i64.wrap (u8.wrap (((BitVec.ofInt u8.bits e2&&& BitVec.ofInt u8.bits (127:Int)).toNat:Int))))*2^(min (i64.wrap ((7:Int)*v.2)).toNat i64.bits)))).toNat:Int))).tdiv (2:Int)))))-1),i64.wrap ((i64.wrap (p.1+v.2))+1))))) (cond (decide (v.2>0)) (cond (e2==0) (x0 ()) ((qn k (i64.wrap ((i64.wrap (((BitVec.ofInt i64.bits v.1||| BitVec.ofInt i64.bits (i64.wrap ((i64.wrap (u8.wrap (((BitVec.ofInt u8.bits e2&&& BitVec.ofInt u8.bits (127:Int)).toNat:Int))))*2^(min (i64.wrap ((7:Int)*v.2)).toNat i64.bits)))).toNat:Int))).tdiv (2:Int)))).bind λr5=>cond (!r5) (x0 ()) (fZ (i64.wrap ((i64.wrap (((BitVec.ofInt i64.bits v.1||| BitVec.ofInt i64.bits (i64.wrap ((i64.wrap (u8.wrap (((BitVec.ofInt u8.bits e2&&& BitVec.ofInt u8.bits (127:Int)).toNat:Int))))*2^(min (i64.wrap ((7:Int)*v.2)).toNat i64.bits)))).toNat:Int))).tdiv (2:Int)),i64.wrap ((i64.wrap (p.1+v.2))+1))))) ((qn k (i64.wrap ((i64.wrap (((BitVec.ofInt i64.bits v.1||| BitVec.ofInt i64.bits (i64.wrap ((i64.wrap (u8.wrap (((BitVec.ofInt u8.bits e2&&& BitVec.ofInt u8.bits (127:Int)).toNat:Int))))*2^(min (i64.wrap ((7:Int)*v.2)).toNat i64.bits)))).toNat:Int))).tdiv (2:Int)))).bind λr6=>cond (!r6) (x0 ()) (fZ (i64.wrap ((i64.wrap (((BitVec.ofInt i64.bits v.1||| BitVec.ofInt i64.bits (i64.wrap ((i64.wrap (u8.wrap (((BitVec.ofInt u8.bits e2&&& BitVec.ofInt u8.bits (127:Int)).toNat:Int))))*2^(min (i64.wrap ((7:Int)*v.2)).toNat i64.bits)))).toNat:Int))).tdiv (2:Int)),i64.wrap ((i64.wrap (p.1+v.2))+1)))))))) (x0 ())
def s7 (k:Nat) (a0:List Int) (a1:Int):Option (Int× Int):=
 (sJ k a1 (0:Int) (i64.wrap ((a0.length:Int)-(1:Int)))).bind λr1=>cond (!r1) (some ((0:Int),(-1:Int))) (cond (decide (0<=(if(i64.wrap (a1+6))<(a0.length:Int)then(i64.wrap (a1+6))else(a0.length:Int))/\(if(i64.wrap (a1+6))<(a0.length:Int)then(i64.wrap (a1+6))else(a0.length:Int))<=(a0.length:Int))) (cond (decide (0<=a1/\a1<=((if(i64.wrap (a1+6))<(a0.length:Int)then(i64.wrap (a1+6))else(a0.length:Int)).toNat:Int))) (iter (λu9 n9=>jS k (a1,(a0.take ((if(i64.wrap (a1+6))<(a0.length:Int)then(i64.wrap (a1+6))else(a0.length:Int)).toNat)).drop a1.toNat,(((a0.take ((if(i64.wrap (a1+6))<(a0.length:Int)then(i64.wrap (a1+6))else(a0.length:Int)).toNat)).drop a1.toNat).length:Int)) u9 n9 (λy7=>some ((0:Int),(-1:Int))) (λy8=>some (y8.1,y8.2))) k ((0:Int),(0:Int))) none) none)
def aJ (k:Nat) (a0:Reader):Option (Int× Int× Bool):=
 cond (a0.bad) (cond (decide (a0.b=a0.b)) (some ((0:Int),a0.at_,a0.bad)) none) ((s7 k a0.b a0.at_).bind λr1=>cond (decide (r1.2<0)) (cond (decide (a0.b=a0.b)) (some ((0:Int),a0.at_,true)) none) (cond (decide (a0.b=a0.b)) (some (r1.1,r1.2,a0.bad)) none))
def dM (k:Nat) (a0:Reader) (a1:Int):Option (Int× Int× Bool):=
 (aJ k a0).bind λr1=>(sJ k r1.1 (0:Int) a1).bind λr2=>cond (!r2) (cond (decide (a0.b=a0.b)) (some ((0:Int),r1.2.1,true)) none) (cond (decide (a0.b=a0.b)) (some (r1.1,r1.2.1,r1.2.2)) none)
def eY (k:Nat) (a0:Reader):Option (Shape× Int× Bool):=
 (aJ k a0).bind λr1=>(aJ k (⟨a0.b,r1.2.1,r1.2.2⟩:Reader)).bind λr2=>(aJ k (⟨a0.b,r2.2.1,r2.2.2⟩:Reader)).bind λr3=>cond (decide (a0.b=a0.b)) (some ((⟨r1.1,r2.1,r3.1⟩:Shape),r3.2.1,r3.2.2)) none
def ca {ρ:Type} (k:Nat) (p:List Int) (v:Int× Int× Bool× List Int) (next:(Int× Int× Bool× List Int)->Option ρ) (x0:(List Int× Int× Bool)->Option ρ):Option ρ:=
 cond (decide (v.1>0)) (cond (!v.2.2.1) ((aJ k (⟨p,v.2.1,v.2.2.1⟩:Reader)).bind λr2=>cond (Nat.ble (v.2.2.2.length+[r2.1].length) aU) (next (i64.wrap (v.1-1),r2.2.1,r2.2.2,v.2.2.2++[r2.1])) none) (x0 (v.2.2.2,v.2.1,v.2.2.1))) (x0 (v.2.2.2,v.2.1,v.2.2.1))
def dX (k:Nat) (a0:Reader) (a1:Int):Option (List Int× Int× Bool):=
 (dM k a0 a1).bind λr1=>iter (λu4 n4=>ca k a0.b u4 n4 (λy3=>cond (decide (a0.b=a0.b)) (some (y3.1,y3.2.1,y3.2.2)) none)) k (r1.1,r1.2.1,r1.2.2,([]:List Int))
def py {ρ:Type} (k:Nat) (p:List Int) (v:Int× Int) (next:(Int× Int)->Option ρ) (x0:Int->Option ρ):Option ρ:=
 cond (decide (v.2<(p.length:Int))) ((idx p v.2).bind λe1=>next ((i64.wrap ((i64.wrap ((i64.wrap ((257:Int)*v.1))+(i64.wrap (e1))))+1)).tmod (1000003:Int),i64.wrap (v.2+1))) (x0 v.1)
def xv (k:Nat) (a0:List Int):Option (Int):=
 iter (λu3 n3=>py k a0 u3 n3 (λy2=>some y2)) k ((1:Int),(0:Int))
def pz {ρ:Type} (k:Nat) (p:List Int× Int) (v:Int× Int) (next:(Int× Int)->Option ρ) (x0:Int->Option ρ):Option ρ:=
 cond (decide (v.2<p.2)) ((idx p.1 v.2).bind λe1=>next ((i64.wrap ((i64.wrap ((i64.wrap (v.1*257))+(i64.wrap (e1))))+1)).tmod (1000003:Int),i64.wrap (v.2+1))) (x0 v.1)
def A7 (k:Nat) (a0:List Int):Option (Int):=
 iter (λu3 n3=>pz k (a0,(a0.length:Int)) u3 n3 (λy2=>some y2)) k ((1:Int),(0:Int))
def jT (k:Nat) (a0:List Int) (a1:List Int):Option (Bool):=
 cond (decide ((a0.length:Int)>=(a1.length:Int))) (cond (decide (0<=(a1.length:Int)/\(a1.length:Int)<=(a0.length:Int))) ((qe k ((a0.take ((a1.length:Int).toNat)).drop 0) a1).bind λr1=>some r1) none) (some false)
end
end
end Go.Proofs.Ev
