/- Typed functions and what holds of them: part 1. -/
import Derived.Test.YtimmojehndbiiaaGreatEvK6
import Derived.Test.YtimmojehndbiiaaGreatEvK7
import Derived.Test.YtimmojehndbiiaaGreatProg
import Derived.RangeFuncNested
import Derived.RangeFuncBound
import Derived.Shelf.Abstract
import Derived.Shelf.RegionOpen
import Derived.WalkKit
import Derived.OwnWalkIn
import Derived.TacticsInMore
import Derived.LoopNIn
import Derived.LoopIn
import Derived.Test.YtimmojehndbiiaaGreatEvK8
set_option linter.unusedVariables false
set_option linter.unusedSimpArgs false
set_option linter.unusedSectionVars false
namespace Go.Proofs.Ev
open IntKind(i64 u8 u64)
set_option maxRecDepth 100000
section
noncomputable section
def fL {ρ:Type} (k:Nat) (p:List Int) (v:Int× List Int) (next:(Int× List Int)->Option ρ) (x0:(List Int)->Option ρ):Option ρ:=
 cond (decide (v.1<(p.length:Int))) ((idx p v.1).bind λe1=>cond (Nat.ble (v.2.length+[e1].length) bJ) (next (i64.wrap (v.1+1),v.2++[e1])) none) (x0 v.2)
def nR (k:Nat) (a0:List Int):Option (List Int):=
 iter (λu3 n3=>fL k a0 u3 n3 (λy2=>some y2)) k ((0:Int),([]:List Int))
def nS (k:Nat) (a0:ab):Option (ab):=
 (nR k a0.data).bind λr1=>some (⟨a0.sh,r1⟩:ab)
def bn (k:Nat) (a0:Int) (a1:Int) (a2:Int):Option (Bool):=
 cond (decide (a1<=a0)) (some (decide (a0<=a2))) (some false)
def fM (k:Nat) (a0:Shape):Option (Bool):=
 (bn k a0.h (1:Int) (8:Int)).bind λr1=>cond (r1) ((bn k a0.w (1:Int) (8:Int)).bind λr2=>cond (r2) ((bn k a0.c (1:Int) (8:Int)).bind λr3=>some r3) (some false)) (some false)
def aT (k:Nat) (a0:Shape):Option (Int):=
 (fM k a0).bind λr1=>cond (!r1) (some (0:Int)) (some (i64.wrap ((i64.wrap (a0.h*a0.w))*a0.c)))
def dD (k:Nat) (a0:Int):Option (Bool):=
 (bn k a0 (-128:Int) (127:Int)).bind λr1=>some r1
def gd {ρ:Type} (k:Nat) (p:Int× Int× Int× List Int) (v:Int) (next:Int->Option ρ) (x0:Unit->Option ρ) (mf:Bool->Option ρ):Option ρ:=
 cond (decide (v<(p.2.2.2.length:Int))) ((idx p.2.2.2 v).bind λe3=>(dD k e3).bind λr4=>cond (!r4) (mf false) (next (i64.wrap (v+1)))) (x0 ())
def fk (k:Nat) (a0:ab):Option (Bool):=
 (fM k a0.sh).bind λr1=>cond (!r1) (some false) ((aT k a0.sh).bind λr2=>cond ((a0.data.length:Int) !=r2) (some false) (iter (λu7 n7=>gd k (a0.sh.h,a0.sh.w,a0.sh.c,a0.data) u7 n7 (λy5=>some true) (λy6=>some y6)) k (0:Int)))
def bw (k:Nat) (a0:List Int):Option (List Int):=
 cond (isNil a0) (both (some ([]:List Int)) (cond (Nat.ble (([]:List Int).length+a0.length) bJ) (some (([]:List Int)++a0)) none)) (cond (Nat.ble (([]:List Int).length+a0.length) bJ) (some (([]:List Int)++a0)) none)
def uS (k:Nat) (a0:Int) (a1:Int) (a2:Int):Option (Bool):=
 cond (decide (a1<=a0)) (some (decide (a0<=a2))) (some false)
def jq (k:Nat) (a0:Shape):Option (Bool):=
 (uS k a0.h (1:Int) (8:Int)).bind λr1=>cond (r1) ((uS k a0.w (1:Int) (8:Int)).bind λr2=>cond (r2) ((uS k a0.c (1:Int) (8:Int)).bind λr3=>some r3) (some false)) (some false)
def fu (k:Nat) (a0:Shape):Option (Int):=
 (jq k a0).bind λr1=>cond (!r1) (some (0:Int)) (some (i64.wrap ((i64.wrap (a0.h*a0.w))*a0.c)))
def kd (k:Nat) (a0:Int):Option (Bool):=
 (uS k a0 (-128:Int) (127:Int)).bind λr1=>some (!r1)
def aI {ρ:Type} (k:Nat) (p:List Int× Int) (v:Int) (next:Int->Option ρ) (x0:Unit->Option ρ) (mf:Int->Option ρ):Option ρ:=
 cond (decide (v<p.2)) ((idx p.1 v).bind λe1=>(kd k e1).bind λr2=>cond (r2) (mf v) (next (i64.wrap (v+1)))) (x0 ())
def aU (k:Nat) (a0:List Int):Option (Int):=
 iter (λu5 n5=>aI k (a0,(a0.length:Int)) u5 n5 (λy3=>some (-1:Int)) (λy4=>some y4)) k (0:Int)
def aQ (k:Nat) (a0:List Int):Option (Bool):=
 (aU k a0).bind λr1=>some (decide (r1>=0))
def jr (k:Nat) (a0:List Int):Option (Bool):=
 (aQ k a0).bind λr1=>some (!r1)
def du (k:Nat) (a0:ab):Option (Bool):=
 (jq k a0.sh).bind λr1=>cond (r1) ((fu k a0.sh).bind λr2=>cond ((a0.data.length:Int)==r2) ((jr k a0.data).bind λr3=>some r3) (some false)) (some false)
def eo {ρ:Type} (k:Nat) (p:List Int× List Int× Int) (v:Int) (next:Int->Option ρ) (x0:Unit->Option ρ) (mf:Bool->Option ρ):Option ρ:=
 cond (decide (v<p.2.2)) ((idx p.1 v).bind λe1=>(idx p.2.1 v).bind λe2=>cond (e1 !=e2) (mf false) (next (i64.wrap (v+1)))) (x0 ())
def dc (k:Nat) (a0:List Int) (a1:List Int):Option (Bool):=
 cond ((a0.length:Int) !=(a1.length:Int)) (some false) (iter (λu5 n5=>eo k (a0,a1,(a0.length:Int)) u5 n5 (λy3=>some true) (λy4=>some y4)) k (0:Int))
def gg (k:Nat) (a0:ab) (a1:ab):Option (Bool):=
 cond (cond (a0.sh.h==a1.sh.h) (cond (a0.sh.w==a1.sh.w) (cond (a0.sh.c==a1.sh.c) (true) false) false) false) ((dc k a0.data a1.data).bind λr1=>some r1) (some false)
def fv {ρ:Type} (k:Nat) (p:List ab× Int× Int× Int× Int× Int× Int× Int× Int× Int× Int× List Int) (v:Int× List Int) (next:(Int× List Int)->Option ρ) (x2:(List Int)->Option ρ):Option ρ:=
 cond (decide (v.1<(p.2.2.2.2.2.2.2.2.2.2.2.length:Int))) ((idx p.2.2.2.2.2.2.2.2.2.2.2 v.1).bind λe5=>cond (Nat.ble (v.2.length+[e5].length) bJ) (next (i64.wrap (v.1+1),v.2++[e5])) none) (x2 v.2)
def dE {ρ:Type} (k:Nat) (p:List ab× Int× Int× Int× Int× Int× Int) (v:Int× List Int) (next:(Int× List Int)->Option ρ) (x0:(List Int)->Option ρ) (mf:(Bool× Int× Int× Int)->Option ρ):Option ρ:=
 cond (decide (v.1<(p.1.length:Int))) ((idx p.1 v.1).bind λe2=>(fk k e2).bind λr3=>cond (!r3) (mf (false,(0:Int),(0:Int),(0:Int))) (cond (e2.sh.h !=1) (mf (false,(0:Int),(0:Int),(0:Int))) (cond (e2.sh.w !=1) (mf (false,(0:Int),(0:Int),(0:Int))) ((idx p.1 (0:Int)).bind λe4=>cond (e2.sh.c !=e4.sh.c) (mf (false,(0:Int),(0:Int),(0:Int))) (iter (λu7 n7=>fv k (p.1,v.1,p.2.1,p.2.2.1,p.2.2.2.1,p.2.2.2.2.1,p.2.2.2.2.2.1,p.2.2.2.2.2.2,e2.sh.h,e2.sh.w,e2.sh.c,e2.data) u7 n7 (λy6=>next (i64.wrap (v.1+1),y6))) k ((0:Int),v.2)))))) (x0 v.2)
def ke (k:Nat) (a0:List ab):Option (ab× Bool):=
 (bn k (a0.length:Int) (1:Int) (8:Int)).bind λr1=>cond (!r1) (some ((⟨(⟨(0:Int),(0:Int),(0:Int)⟩:Shape),([]:List Int)⟩:ab),false)) (iter (λu11 n11=>dE k (a0,(0:Int),(0:Int),(0:Int),(0:Int),(0:Int),(0:Int)) u11 n11 (λy8=>(idx a0 (0:Int)).bind λe9=>some ((⟨(⟨(a0.length:Int),(1:Int),e9.sh.c⟩:Shape),y8⟩:ab),true)) (λy10=>some ((⟨(⟨y10.2.1,y10.2.2.1,y10.2.2.2⟩:Shape),([]:List Int)⟩:ab),y10.1))) k ((0:Int),([]:List Int)))
def dF {ρ:Type} (k:Nat) (p:List ab× Int× Int× Int× Int× Int× Int× Int) (v:Int× List Int) (next:(Int× List Int)->Option ρ) (x0:(List Int)->Option ρ) (mf:(Bool× Int× Int× Int)->Option ρ):Option ρ:=
 cond (decide (v.1<p.2.1)) ((idx p.1 v.1).bind λe3=>(du k e3).bind λr4=>cond (!r4) (mf (false,(0:Int),(0:Int),(0:Int))) (cond (!(cond (e3.sh.h==1) (cond (e3.sh.w==1) (cond (e3.sh.c==p.2.2.2.2.2.2.2) (true) false) false) false)) (mf (false,(0:Int),(0:Int),(0:Int))) (cond (Nat.ble (v.2.length+e3.data.length) bJ) (next (i64.wrap (v.1+1),v.2++e3.data)) none))) (x0 v.2)
def kf (k:Nat) (a0:List ab):Option (ab× Bool):=
 (uS k (a0.length:Int) (1:Int) (8:Int)).bind λr1=>cond (!r1) (some ((⟨(⟨(0:Int),(0:Int),(0:Int)⟩:Shape),([]:List Int)⟩:ab),false)) ((idx a0 (0:Int)).bind λe2=>iter (λu7 n7=>dF k (a0,(a0.length:Int),(0:Int),(0:Int),(0:Int),(a0.length:Int),(1:Int),e2.sh.c) u7 n7 (λy5=>some ((⟨(⟨(a0.length:Int),(1:Int),e2.sh.c⟩:Shape),y5⟩:ab),true)) (λy6=>some ((⟨(⟨y6.2.1,y6.2.2.1,y6.2.2.2⟩:Shape),([]:List Int)⟩:ab),y6.1))) k ((0:Int),([]:List Int)))
end
end
set_option maxRecDepth 100000
section
noncomputable section
end
end
set_option maxRecDepth 100000
section
noncomputable section
def dv {ρ:Type} (k:Nat) (p:Int× Int× Int× Int× Int× Int× Int× List Int× List Int) (v:Int) (next:Int->Option ρ) (x0:Unit->Option ρ) (mf:Bool->Option ρ):Option ρ:=
 cond (decide (v<(p.2.2.2.2.2.2.2.2.length:Int))) ((idx p.2.2.2.2.2.2.2.2 v).bind λe7=>(bn k e7 (-1000000:Int) (1000000:Int)).bind λr8=>cond (!r8) (mf false) (next (i64.wrap (v+1)))) (x0 ())
def dw {ρ:Type} (k:Nat) (p:Int× Int× Int× Int× Int× Int× Int× List Int× List Int) (v:Int) (next:Int->Option ρ) (x2:Unit->Option ρ) (mf:Bool->Option ρ):Option ρ:=
 cond (decide (v<(p.2.2.2.2.2.2.2.1.length:Int))) ((idx p.2.2.2.2.2.2.2.1 v).bind λe10=>(dD k e10).bind λr11=>cond (!r11) (mf false) (next (i64.wrap (v+1)))) (x2 ())
def lV (k:Nat) (a0:al) (a1:Bool) (a2:Bool):Option (Bool):=
 cond (a1) ((bn k a0.size (1:Int) (3:Int)).bind λr1=>cond (!r1) (some false) ((bn k a0.step (1:Int) (2:Int)).bind λr2=>cond (!r2) (some false) (cond (a2) ((bn k a0.out (1:Int) (8:Int)).bind λr3=>cond (!r3) (some false) ((bn k a0.mult (0:Int) (2147483647:Int)).bind λr4=>cond (!r4) (some false) ((bn k a0.shift (0:Int) (31:Int)).bind λr5=>cond (!r5) (some false) ((dD k a0.zero).bind λr6=>cond (!r6) (some false) (cond ((a0.gI.length:Int) !=a0.out) (some false) (iter (λu16 n16=>dv k (a0.kind,a0.out,a0.size,a0.step,a0.mult,a0.shift,a0.zero,a0.weights,a0.gI) u16 n16 (λy9=>iter (λu14 n14=>dw k (a0.kind,a0.out,a0.size,a0.step,a0.mult,a0.shift,a0.zero,a0.weights,a0.gI) u14 n14 (λy12=>some true) (λy13=>some y13)) k (0:Int)) (λy15=>some y15)) k (0:Int))))))) (cond (a0.out !=0) (some false) (cond (a0.mult !=0) (some false) (cond (a0.shift !=0) (some false) (cond (decide ((a0.weights.length:Int)>(0:Int))) (some false) (cond (decide ((a0.gI.length:Int)>(0:Int))) (some false) (cond (a0.kind==4) ((dD k a0.zero).bind λr17=>some r17) (some (a0.zero==0))))))))))) (cond (a0.size !=0) (some false) (cond (a0.step !=0) (some false) (cond (a2) ((bn k a0.out (1:Int) (8:Int)).bind λr18=>cond (!r18) (some false) ((bn k a0.mult (0:Int) (2147483647:Int)).bind λr19=>cond (!r19) (some false) ((bn k a0.shift (0:Int) (31:Int)).bind λr20=>cond (!r20) (some false) ((dD k a0.zero).bind λr21=>cond (!r21) (some false) (cond ((a0.gI.length:Int) !=a0.out) (some false) (iter (λu31 n31=>dv k (a0.kind,a0.out,a0.size,a0.step,a0.mult,a0.shift,a0.zero,a0.weights,a0.gI) u31 n31 (λy24=>iter (λu29 n29=>dw k (a0.kind,a0.out,a0.size,a0.step,a0.mult,a0.shift,a0.zero,a0.weights,a0.gI) u29 n29 (λy27=>some true) (λy28=>some y28)) k (0:Int)) (λy30=>some y30)) k (0:Int))))))) (cond (a0.out !=0) (some false) (cond (a0.mult !=0) (some false) (cond (a0.shift !=0) (some false) (cond (decide ((a0.weights.length:Int)>(0:Int))) (some false) (cond (decide ((a0.gI.length:Int)>(0:Int))) (some false) (cond (a0.kind==4) ((dD k a0.zero).bind λr32=>some r32) (some (a0.zero==0)))))))))))
def fl (k:Nat) (a0:Shape) (a1:al):Option (Shape× Bool):=
 (fM k a0).bind λr1=>cond (!r1) (some ((⟨(0:Int),(0:Int),(0:Int)⟩:Shape),false)) ((bn k a1.kind (0:Int) (5:Int)).bind λr2=>cond (!r2) (some ((⟨(0:Int),(0:Int),(0:Int)⟩:Shape),false)) ((bn k a1.kind (1:Int) (3:Int)).bind λr3=>(lV k a1 r3 (decide (a1.kind<=1))).bind λr4=>cond (!r4) (some ((⟨(0:Int),(0:Int),(0:Int)⟩:Shape),false)) (cond (r3) (cond (decide (a1.size>a0.h)) (some ((⟨(0:Int),(0:Int),(0:Int)⟩:Shape),false)) (cond (decide (a1.size>a0.w)) (some ((⟨(0:Int),(0:Int),(0:Int)⟩:Shape),false)) (cond (decide (a1.step=0)) none (cond (decide (a1.step=0)) none (cond (a1.kind==0) ((aT k a0).bind λr5=>cond (decide (r5>64)) (some ((⟨(0:Int),(0:Int),(0:Int)⟩:Shape),false)) ((aT k a0).bind λr6=>cond ((a1.weights.length:Int) !=(i64.wrap (a1.out*r6))) (some ((⟨(0:Int),(0:Int),(0:Int)⟩:Shape),false)) (some ((⟨(1:Int),(1:Int),a1.out⟩:Shape),true)))) (cond (a1.kind==1) (cond ((a1.weights.length:Int) !=(i64.wrap ((i64.wrap ((i64.wrap (a1.out*a1.size))*a1.size))*a0.c))) (some ((⟨(0:Int),(0:Int),(0:Int)⟩:Shape),false)) (cond (decide ((a1.weights.length:Int)>(600:Int))) (some ((⟨(0:Int),(0:Int),(0:Int)⟩:Shape),false)) (some ((⟨(i64.wrap ((i64.wrap ((i64.wrap (a0.h-a1.size)).tdiv a1.step))+1)),(i64.wrap ((i64.wrap ((i64.wrap (a0.w-a1.size)).tdiv a1.step))+1)),a1.out⟩:Shape),true)))) (cond (a1.kind==5) ((aT k a0).bind λr7=>cond (decide (r7>8)) (some ((⟨(0:Int),(0:Int),(0:Int)⟩:Shape),false)) ((aT k a0).bind λr8=>some ((⟨(1:Int),(1:Int),r8⟩:Shape),true))) (some ((⟨(i64.wrap ((i64.wrap ((i64.wrap (a0.h-a1.size)).tdiv a1.step))+1)),(i64.wrap ((i64.wrap ((i64.wrap (a0.w-a1.size)).tdiv a1.step))+1)),a0.c⟩:Shape),true))))))))) (cond (a1.kind==0) ((aT k a0).bind λr9=>cond (decide (r9>64)) (some ((⟨(0:Int),(0:Int),(0:Int)⟩:Shape),false)) ((aT k a0).bind λr10=>cond ((a1.weights.length:Int) !=(i64.wrap (a1.out*r10))) (some ((⟨(0:Int),(0:Int),(0:Int)⟩:Shape),false)) (some ((⟨(1:Int),(1:Int),a1.out⟩:Shape),true)))) (cond (a1.kind==1) (cond ((a1.weights.length:Int) !=(i64.wrap ((i64.wrap ((i64.wrap (a1.out*a1.size))*a1.size))*a0.c))) (some ((⟨(0:Int),(0:Int),(0:Int)⟩:Shape),false)) (cond (decide ((a1.weights.length:Int)>(600:Int))) (some ((⟨(0:Int),(0:Int),(0:Int)⟩:Shape),false)) (some ((⟨a0.h,a0.w,a1.out⟩:Shape),true)))) (cond (a1.kind==5) ((aT k a0).bind λr11=>cond (decide (r11>8)) (some ((⟨(0:Int),(0:Int),(0:Int)⟩:Shape),false)) ((aT k a0).bind λr12=>some ((⟨(1:Int),(1:Int),r12⟩:Shape),true))) (some (a0,true))))))))
def dG {ρ:Type} (k:Nat) (p:Int× Int× Int× List al) (v:Int× List Shape) (next:(Int× List Shape)->Option ρ) (x0:(List Shape)->Option ρ) (mf:Bool->Option ρ):Option ρ:=
 cond (decide (v.1<(p.2.2.2.length:Int))) (cond (decide (0<=v.1/\v.1<(v.2.length:Int))) ((v.2[v.1.toNat]?).bind λe3=>(idx p.2.2.2 v.1).bind λe4=>(fl k e3 e4).bind λr5=>cond (!r5.2) (mf false) (cond (Nat.ble (v.2.length+[r5.1].length) bJ) (next (i64.wrap (v.1+1),v.2++[r5.1])) none)) none) (x0 v.2)
def gU (k:Nat) (a0:Model):Option (List Shape× Bool):=
 (fM k a0.inp).bind λr1=>cond (!r1) (some (([]:List Shape),false)) ((bn k (a0.ai.length:Int) (1:Int) (6:Int)).bind λr2=>cond (!r2) (some (([]:List Shape),false)) (iter (λu8 n8=>dG k (a0.inp.h,a0.inp.w,a0.inp.c,a0.ai) u8 n8 (λy6=>some (y6,true)) (λy7=>some (([]:List Shape),y7))) k ((0:Int),[a0.inp])))
def lu (k:Nat) (a0:Model):Option (Bool):=
 (gU k a0).bind λr1=>some r1.2
def qe (k:Nat) (a0:Shape) (a1:al):Option (Int):=
 (fl k a0 a1).bind λr1=>cond (!r1.2) (some (0:Int)) ((aT k a0).bind λr2=>cond (a1.kind==0) ((aT k r1.1).bind λr3=>(aT k a0).bind λr4=>some (i64.wrap ((1:Int)+(i64.wrap ((i64.wrap (r3*r4)).tdiv (16:Int)))))) (cond (a1.kind==1) ((aT k r1.1).bind λr5=>some (i64.wrap ((1:Int)+(i64.wrap ((i64.wrap ((i64.wrap ((i64.wrap (r5*a1.size))*a1.size))*a0.c)).tdiv (16:Int)))))) (cond (a1.kind==2) ((aT k r1.1).bind λr6=>some (i64.wrap ((1:Int)+(i64.wrap ((i64.wrap ((i64.wrap (r6*a1.size))*a1.size)).tdiv (16:Int)))))) (cond (a1.kind==3) ((aT k r1.1).bind λr7=>some (i64.wrap ((1:Int)+(i64.wrap ((i64.wrap ((i64.wrap (r7*a1.size))*a1.size)).tdiv (16:Int)))))) (some (i64.wrap ((1:Int)+(i64.wrap (r2.tdiv (16:Int))))))))))
def fN {ρ:Type} (k:Nat) (p:Int× Int× Int× List al× List Shape) (v:Int× List Int) (next:(Int× List Int)->Option ρ) (x0:(List Int)->Option ρ):Option ρ:=
 cond (decide (v.1<(p.2.2.2.1.length:Int))) (cond (decide (0<=v.1/\v.1<(p.2.2.2.2.length:Int))) ((p.2.2.2.2[v.1.toNat]?).bind λe2=>(idx p.2.2.2.1 v.1).bind λe3=>(qe k e2 e3).bind λr4=>cond (Nat.ble (v.2.length+[r4].length) bJ) (next (i64.wrap (v.1+1),v.2++[r4])) none) none) (x0 v.2)
def nT (k:Nat) (a0:Model):Option (List Int):=
 (gU k a0).bind λr1=>cond (!r1.2) (some ([]:List Int)) (iter (λu6 n6=>fN k (a0.inp.h,a0.inp.w,a0.inp.c,a0.ai,r1.1) u6 n6 (λy5=>some y5)) k ((0:Int),([]:List Int)))
def dH {ρ:Type} (k:Nat) (p:List Int) (v:Int× Int) (next:(Int× Int)->Option ρ) (x0:Int->Option ρ):Option ρ:=
 cond (decide (v.2<(p.length:Int))) (cond (decide (0<=v.2/\v.2<(p.length:Int))) ((p[v.2.toNat]?).bind λe2=>next (i64.wrap (v.1+e2),i64.wrap (v.2+1))) none) (x0 v.1)
def fm (k:Nat) (a0:Model):Option (Int):=
 (nT k a0).bind λr1=>iter (λu4 n4=>dH k r1 u4 n4 (λy3=>some y3)) k ((0:Int),(0:Int))
def bL (k:Nat) (a0:Model) (a1:Int):Option (Int):=
 (lu k a0).bind λr1=>cond (!r1) (some (-1:Int)) ((bn k a1 (0:Int) (8:Int)).bind λr2=>cond (!r2) (some (-1:Int)) (cond (a1==0) (some (0:Int)) ((fm k a0).bind λr3=>(fm k a0).bind λr4=>some (i64.wrap (r3+(i64.wrap ((i64.wrap (a1-1))*(i64.wrap (r4.tdiv (2:Int))))))))))
def cr (k:Nat) (a0:al):Option (Bool):=
 cond (a0.size==0) (some (a0.step==0)) (some false)
def dU (k:Nat) (a0:Int):Option (Bool):=
 (uS k a0 (-1000000:Int) (1000000:Int)).bind λr1=>some (!r1)
def aD {ρ:Type} (k:Nat) (p:List Int× Int) (v:Int) (next:Int->Option ρ) (x0:Unit->Option ρ) (mf:Int->Option ρ):Option ρ:=
 cond (decide (v<p.2)) ((idx p.1 v).bind λe1=>(dU k e1).bind λr2=>cond (r2) (mf v) (next (i64.wrap (v+1)))) (x0 ())
def aN (k:Nat) (a0:List Int):Option (Int):=
 iter (λu5 n5=>aD k (a0,(a0.length:Int)) u5 n5 (λy3=>some (-1:Int)) (λy4=>some y4)) k (0:Int)
def aE (k:Nat) (a0:List Int):Option (Bool):=
 (aN k a0).bind λr1=>some (decide (r1>=0))
def cE (k:Nat) (a0:al) (a1:Int):Option (Bool):=
 (uS k a0.out (1:Int) (8:Int)).bind λr1=>cond (r1) ((uS k a0.mult (0:Int) (2147483647:Int)).bind λr2=>cond (r2) ((uS k a0.shift (0:Int) (31:Int)).bind λr3=>cond (r3) ((uS k a0.zero (-128:Int) (127:Int)).bind λr4=>cond (r4) (cond ((a0.weights.length:Int)==(i64.wrap (a0.out*a1))) ((jr k a0.weights).bind λr5=>cond (r5) (cond ((a0.gI.length:Int)==a0.out) ((aE k a0.gI).bind λr6=>some (!r6)) (some false)) (some false)) (some false)) (some false)) (some false)) (some false)) (some false)
def bX (k:Nat) (a0:al) (a1:Shape):Option (Bool):=
 (uS k a0.size (1:Int) (if a1.w<(if a1.h<3 then a1.h else(3:Int))then a1.w else(if a1.h<3 then a1.h else(3:Int)))).bind λr1=>cond (r1) ((uS k a0.step (1:Int) (2:Int)).bind λr2=>some r2) (some false)
def ct (k:Nat) (a0:al) (a1:Shape) (a2:Int):Option (Shape):=
 cond (decide (a0.step=0)) none (cond (decide (a0.step=0)) none (some (⟨(i64.wrap ((i64.wrap ((i64.wrap (a1.h-a0.size)).tdiv a0.step))+1)),(i64.wrap ((i64.wrap ((i64.wrap (a1.w-a0.size)).tdiv a0.step))+1)),a2⟩:Shape)))
def cc (k:Nat) (a0:al):Option (Bool):=
 cond (a0.out==0) (cond (a0.mult==0) (cond (a0.shift==0) (cond ((a0.weights.length:Int)==(0:Int)) (some ((a0.gI.length:Int)==(0:Int))) (some false)) (some false)) (some false)) (some false)
def gF (k:Nat) (a0:Shape) (a1:al):Option (Shape× Bool):=
 (jq k a0).bind λr1=>cond (!r1) (some ((⟨(0:Int),(0:Int),(0:Int)⟩:Shape),false)) ((fu k a0).bind λr2=>cond (a1.kind==0) (cond (decide (r2<=64)) ((cr k a1).bind λr3=>cond (r3) ((cE k a1 r2).bind λr4=>cond (r4) (some ((⟨(1:Int),(1:Int),a1.out⟩:Shape),true)) (some ((⟨(0:Int),(0:Int),(0:Int)⟩:Shape),false))) (some ((⟨(0:Int),(0:Int),(0:Int)⟩:Shape),false))) (some ((⟨(0:Int),(0:Int),(0:Int)⟩:Shape),false))) (cond (a1.kind==1) ((bX k a1 a0).bind λr5=>cond (r5) (cond (decide ((a1.weights.length:Int)<=(600:Int))) ((cE k a1 (i64.wrap ((i64.wrap (a1.size*a1.size))*a0.c))).bind λr6=>cond (r6) ((ct k a1 a0 a1.out).bind λr7=>some (r7,true)) (some ((⟨(0:Int),(0:Int),(0:Int)⟩:Shape),false))) (some ((⟨(0:Int),(0:Int),(0:Int)⟩:Shape),false))) (some ((⟨(0:Int),(0:Int),(0:Int)⟩:Shape),false))) (cond (a1.kind==2) ((bX k a1 a0).bind λr8=>cond (r8) ((cc k a1).bind λr9=>cond (r9) (cond (a1.zero==0) ((ct k a1 a0 a0.c).bind λr10=>some (r10,true)) (some ((⟨(0:Int),(0:Int),(0:Int)⟩:Shape),false))) (some ((⟨(0:Int),(0:Int),(0:Int)⟩:Shape),false))) (some ((⟨(0:Int),(0:Int),(0:Int)⟩:Shape),false))) (cond (a1.kind==3) ((bX k a1 a0).bind λr11=>cond (r11) ((cc k a1).bind λr12=>cond (r12) (cond (a1.zero==0) ((ct k a1 a0 a0.c).bind λr13=>some (r13,true)) (some ((⟨(0:Int),(0:Int),(0:Int)⟩:Shape),false))) (some ((⟨(0:Int),(0:Int),(0:Int)⟩:Shape),false))) (some ((⟨(0:Int),(0:Int),(0:Int)⟩:Shape),false))) (cond (a1.kind==4) ((cr k a1).bind λr14=>cond (r14) ((cc k a1).bind λr15=>cond (r15) ((uS k a1.zero (-128:Int) (127:Int)).bind λr16=>cond (r16) (some (a0,true)) (some ((⟨(0:Int),(0:Int),(0:Int)⟩:Shape),false))) (some ((⟨(0:Int),(0:Int),(0:Int)⟩:Shape),false))) (some ((⟨(0:Int),(0:Int),(0:Int)⟩:Shape),false))) (cond (a1.kind==5) ((cr k a1).bind λr17=>cond (r17) ((cc k a1).bind λr18=>cond (r18) (cond (a1.zero==0) (cond (decide (r2<=8)) (some ((⟨(1:Int),(1:Int),r2⟩:Shape),true)) (some ((⟨(0:Int),(0:Int),(0:Int)⟩:Shape),false))) (some ((⟨(0:Int),(0:Int),(0:Int)⟩:Shape),false))) (some ((⟨(0:Int),(0:Int),(0:Int)⟩:Shape),false))) (some ((⟨(0:Int),(0:Int),(0:Int)⟩:Shape),false))) (some ((⟨(0:Int),(0:Int),(0:Int)⟩:Shape),false))))))))
def cu {ρ:Type} (k:Nat) (p:List al× Int) (v:Int× List Shape× Int× Int× Int) (next:(Int× List Shape× Int× Int× Int)->Option ρ) (x0:(List Shape)->Option ρ) (mf:Bool->Option ρ):Option ρ:=
 cond (decide (v.1<p.2)) ((idx p.1 v.1).bind λe1=>(gF k (⟨v.2.2.1,v.2.2.2.1,v.2.2.2.2⟩:Shape) e1).bind λr2=>cond (!r2.2) (mf false) (cond (Nat.ble (v.2.1.length+[r2.1].length) bJ) (next (i64.wrap (v.1+1),v.2.1++[r2.1],r2.1.h,r2.1.w,r2.1.c)) none)) (x0 v.2.1)
def dI (k:Nat) (a0:Model):Option (List Shape× Bool):=
 iter (λu5 n5=>cu k (a0.ai,(a0.ai.length:Int)) u5 n5 (λy3=>some (y3,true)) (λy4=>some (([]:List Shape),y4))) k ((0:Int),[a0.inp],a0.inp.h,a0.inp.w,a0.inp.c)
def jt (k:Nat) (a0:Model):Option (Bool):=
 (uS k (a0.ai.length:Int) (1:Int) (6:Int)).bind λr1=>cond (!r1) (some false) ((dI k a0).bind λr2=>some r2.2)
def lW (k:Nat) (a0:Model):Option (List Shape):=
 (jt k a0).bind λr1=>cond (!r1) (some ([]:List Shape)) ((dI k a0).bind λr2=>some r2.1)
def qf (k:Nat) (a0:Shape) (a1:al):Option (Int):=
 (gF k a0 a1).bind λr1=>cond (!r1.2) (some (0:Int)) ((fu k a0).bind λr2=>cond (a1.kind==0) ((fu k r1.1).bind λr3=>some (i64.wrap ((1:Int)+(i64.wrap ((i64.wrap (r2*r3)).tdiv (16:Int)))))) (cond (a1.kind==1) ((fu k r1.1).bind λr4=>some (i64.wrap ((1:Int)+(i64.wrap ((i64.wrap ((i64.wrap ((i64.wrap (r4*a1.size))*a1.size))*a0.c)).tdiv (16:Int)))))) (cond (a1.kind==2) ((fu k r1.1).bind λr5=>some (i64.wrap ((1:Int)+(i64.wrap ((i64.wrap ((i64.wrap (r5*a1.size))*a1.size)).tdiv (16:Int)))))) (cond (a1.kind==3) ((fu k r1.1).bind λr6=>some (i64.wrap ((1:Int)+(i64.wrap ((i64.wrap ((i64.wrap (r6*a1.size))*a1.size)).tdiv (16:Int)))))) (some (i64.wrap ((1:Int)+(i64.wrap (r2.tdiv (16:Int))))))))))
def fO {ρ:Type} (k:Nat) (p:Int× Int× Int× Int× List al× List Shape) (v:Int× List Int) (next:(Int× List Int)->Option ρ) (x0:(List Int)->Option ρ):Option ρ:=
 cond (decide (v.1<p.1)) (cond (decide (0<=v.1/\v.1<(p.2.2.2.2.2.length:Int))) ((p.2.2.2.2.2[v.1.toNat]?).bind λe2=>cond (decide (v.1<(p.2.2.2.2.1.length:Int))) ((idx p.2.2.2.2.1 v.1).bind λe3=>(qf k e2 e3).bind λr4=>cond (Nat.ble (v.2.length+[r4].length) bJ) (next (i64.wrap (v.1+1),v.2++[r4])) none) (next (i64.wrap (v.1+1),v.2))) none) (x0 v.2)
def nU (k:Nat) (a0:Model):Option (List Int):=
 (lW k a0).bind λr1=>iter (λu6 n6=>fO k ((r1.length:Int),a0.inp.h,a0.inp.w,a0.inp.c,a0.ai,r1) u6 n6 (λy5=>some y5)) k ((0:Int),([]:List Int))
def nV {ρ:Type} (k:Nat) (p:List Int× Int) (v:Int× Int) (next:(Int× Int)->Option ρ) (x0:Int->Option ρ):Option ρ:=
 cond (decide (v.2<p.2)) ((idx p.1 v.2).bind λe1=>next (i64.wrap (v.1+e1),i64.wrap (v.2+1))) (x0 v.1)
def G7 (k:Nat) (a0:List Int):Option (Int):=
 iter (λu3 n3=>nV k (a0,(a0.length:Int)) u3 n3 (λy2=>some y2)) k ((0:Int),(0:Int))
def au (k:Nat) (a0:Model):Option (Int):=
 (nU k a0).bind λr1=>(G7 k r1).bind λr2=>some r2
def bM (k:Nat) (a0:Model) (a1:Int):Option (Int):=
 (jt k a0).bind λr1=>cond (!r1) (some (-1:Int)) ((uS k a1 (0:Int) (8:Int)).bind λr2=>cond (!r2) (some (-1:Int)) (cond (a1==0) (some (0:Int)) ((au k a0).bind λr3=>some (i64.wrap (r3+(i64.wrap ((i64.wrap (a1-1))*(i64.wrap (r3.tdiv (2:Int))))))))))
end
end
set_option maxRecDepth 100000
section
noncomputable section
def fP {ρ:Type} (k:Nat) (p:List Int× Int× Int× Int× List al) (v:Int× Int) (next:(Int× Int)->Option ρ) (x0:Int->Option ρ) (mf:Int->Option ρ):Option ρ:=
 cond (decide (v.2<(p.1.length:Int))) ((idx p.1 v.2).bind λe1=>(bL k (⟨(⟨p.2.1,p.2.2.1,p.2.2.2.1⟩:Shape),p.2.2.2.2⟩:Model) e1).bind λr2=>cond (decide (r2<0)) (mf (-1:Int)) ((fm k (⟨(⟨p.2.1,p.2.2.1,p.2.2.2.1⟩:Shape),p.2.2.2.2⟩:Model)).bind λr3=>(idx p.1 v.2).bind λe4=>next (i64.wrap ((i64.wrap (v.1+(i64.wrap (r3*e4))))-r2),i64.wrap (v.2+1)))) (x0 v.1)
def dd (k:Nat) (a0:Model) (a1:List Int):Option (Int):=
 cond (decide ((a1.length:Int)>(300:Int))) (some (-1:Int)) (iter (λu7 n7=>fP k (a1,a0.inp.h,a0.inp.w,a0.inp.c,a0.ai) u7 n7 (λy5=>some y5) (λy6=>some y6)) k ((0:Int),(0:Int)))
def fQ {ρ:Type} (k:Nat) (p:List Int× Int× Int× Int× Int× List al) (v:Int× Int) (next:(Int× Int)->Option ρ) (x0:Int->Option ρ) (mf:Int->Option ρ):Option ρ:=
 cond (decide (v.2<p.2.1)) ((idx p.1 v.2).bind λe1=>(bM k (⟨(⟨p.2.2.1,p.2.2.2.1,p.2.2.2.2.1⟩:Shape),p.2.2.2.2.2⟩:Model) e1).bind λr2=>cond (decide (r2<0)) (mf (-1:Int)) ((au k (⟨(⟨p.2.2.1,p.2.2.2.1,p.2.2.2.2.1⟩:Shape),p.2.2.2.2.2⟩:Model)).bind λr3=>next (i64.wrap (v.1+(i64.wrap ((i64.wrap (r3*e1))-r2))),i64.wrap (v.2+1)))) (x0 v.1)
def de (k:Nat) (a0:Model) (a1:List Int):Option (Int):=
 cond (decide ((a1.length:Int)>(300:Int))) (some (-1:Int)) (iter (λu6 n6=>fQ k (a1,(a1.length:Int),a0.inp.h,a0.inp.w,a0.inp.c,a0.ai) u6 n6 (λy4=>some y4) (λy5=>some y5)) k ((0:Int),(0:Int)))
end
end
set_option maxRecDepth 100000
section
noncomputable section
def ju (k:Nat) (a0:Int) (a1:Int) (a2:Int):Option (Int):=
 cond (decide (a0<a1)) (some a1) (cond (decide (a1>a2)) (some a1) (cond (decide (a0>a2)) (some a2) (some a0)))
def rq (k:Nat) (a0:Int):Option (Int):=
 (ju k a0 (-128:Int) (127:Int)).bind λr1=>some r1
def iT (k:Nat) (a0:Int):Option (Int):=
 (ju k a0 (-2147483648:Int) (2147483647:Int)).bind λr1=>some r1
def ix (k:Nat) (a0:Int) (a1:Int):Option (Int):=
 (iT k a0).bind λr1=>(iT k a1).bind λr2=>(iT k (i64.wrap (r1+r2))).bind λr3=>some r3
def lX {ρ:Type} (k:Nat) (p:List Int× List Int) (v:Int× Int) (next:(Int× Int)->Option ρ) (x0:Int->Option ρ):Option ρ:=
 cond (decide (v.2<(p.1.length:Int))) (cond (decide (v.2<(p.2.length:Int))) ((idx p.1 v.2).bind λe1=>(rq k e1).bind λr2=>(idx p.2 v.2).bind λe3=>(rq k e3).bind λr4=>(ix k v.1 (i64.wrap (r2*r4))).bind λr5=>next (r5,i64.wrap (v.2+1))) (x0 v.1)) (x0 v.1)
def uT (k:Nat) (a0:List Int) (a1:List Int):Option (Int):=
 iter (λu7 n7=>lX k (a0,a1) u7 n7 (λy6=>some y6)) k ((0:Int),(0:Int))
def nW (k:Nat) (a0:Int) (a1:Int):Option (Int):=
 cond (decide (a1=0)) none (cond (decide (a1=0)) none (cond (decide ((a0.tmod a1)<0)) (some (i64.wrap ((i64.wrap (a0.tdiv a1))-1))) (some (i64.wrap (a0.tdiv a1)))))
def nX (k:Nat) (a0:Int) (a1:Int):Option (Int):=
 (iT k a0).bind λr1=>(iT k a1).bind λr2=>(nW k (i64.wrap ((i64.wrap (r1*r2))+1073741824)) (2147483648:Int)).bind λr3=>(iT k r3).bind λr4=>some r4
def iy (k:Nat) (a0:Int) (a1:Int):Option (Int):=
 (iT k a0).bind λr1=>(ju k a1 (0:Int) (31:Int)).bind λr2=>cond (decide ((u64.wrap (r2))<0)) none (cond (decide (r1<0)) (cond (decide ((i64.wrap ((1:Int)*2^(min (u64.wrap (r2)).toNat i64.bits)))=0)) none (some (i64.wrap (0-(i64.wrap ((i64.wrap ((i64.wrap (0-r1))+(i64.wrap ((i64.wrap ((1:Int)*2^(min (u64.wrap (r2)).toNat i64.bits))).tdiv (2:Int))))).tdiv (i64.wrap ((1:Int)*2^(min (u64.wrap (r2)).toNat i64.bits))))))))) (cond (decide ((i64.wrap ((1:Int)*2^(min (u64.wrap (r2)).toNat i64.bits)))=0)) none (some (i64.wrap ((i64.wrap (r1+(i64.wrap ((i64.wrap ((1:Int)*2^(min (u64.wrap (r2)).toNat i64.bits))).tdiv (2:Int))))).tdiv (i64.wrap ((1:Int)*2^(min (u64.wrap (r2)).toNat i64.bits))))))))
def jv (k:Nat) (a0:Int) (a1:Int) (a2:Int) (a3:Int):Option (Int):=
 (nX k a0 a1).bind λr1=>(iy k r1 a2).bind λr2=>(rq k a3).bind λr3=>(rq k (i64.wrap (r2+r3))).bind λr4=>some r4
def rr (k:Nat) (a0:Shape) (a1:Int) (a2:Int) (a3:Int):Option (Int):=
 (fM k a0).bind λr1=>cond (!r1) (some (-1:Int)) ((bn k a1 (0:Int) (i64.wrap (a0.h-1))).bind λr2=>cond (!r2) (some (-1:Int)) ((bn k a2 (0:Int) (i64.wrap (a0.w-1))).bind λr3=>cond (!r3) (some (-1:Int)) ((bn k a3 (0:Int) (i64.wrap (a0.c-1))).bind λr4=>cond (!r4) (some (-1:Int)) (some (i64.wrap ((i64.wrap ((i64.wrap ((i64.wrap (a1*a0.w))+a2))*a0.c))+a3))))))
def kg (k:Nat) (a0:ab) (a1:Int) (a2:Int) (a3:Int):Option (Int× Bool):=
 (rr k a0.sh a1 a2 a3).bind λr1=>(fk k a0).bind λr2=>cond (!r2) (some ((0:Int),false)) (cond (decide (r1<0)) (some ((0:Int),false)) ((idx a0.data r1).bind λe3=>some (e3,true)))
def iz {ρ:Type} (k:Nat) (p:Int× Int× Int× Int× Int× Int× Int× List Int× Int× Int× Int× Int× Int× Int× Int× List Int× List Int) (v:Int× List Int) (next:(Int× List Int)->Option ρ) (x2:(List Int)->Option ρ):Option ρ:=
 cond (decide (v.1<p.2.2.2.2.2.2.2.2.2.2.1)) ((kg k (⟨(⟨p.2.2.2.2.1,p.2.2.2.2.2.1,p.2.2.2.2.2.2.1⟩:Shape),p.2.2.2.2.2.2.2.1⟩:ab) (i64.wrap ((i64.wrap (p.1*p.2.2.2.2.2.2.2.2.2.2.2.1))+p.2.2.2.1)) (i64.wrap ((i64.wrap (p.2.1*p.2.2.2.2.2.2.2.2.2.2.2.1))+v.1)) p.2.2.1).bind λr1=>cond (Nat.ble (v.2.length+[r1.1].length) bJ) (next (i64.wrap (v.1+1),v.2++[r1.1])) none) (x2 v.2)
def iA {ρ:Type} (k:Nat) (p:Int× Int× Int× Int× Int× Int× List Int× Int× Int× Int× Int× Int× Int× Int× List Int× List Int) (v:Int× List Int) (next:(Int× List Int)->Option ρ) (x0:(List Int)->Option ρ):Option ρ:=
 cond (decide (v.1<p.2.2.2.2.2.2.2.2.2.1)) (iter (λu3 n3=>iz k (p.1,p.2.1,p.2.2.1,v.1,p.2.2.2.1,p.2.2.2.2.1,p.2.2.2.2.2.1,p.2.2.2.2.2.2.1,p.2.2.2.2.2.2.2.1,p.2.2.2.2.2.2.2.2.1,p.2.2.2.2.2.2.2.2.2.1,p.2.2.2.2.2.2.2.2.2.2.1,p.2.2.2.2.2.2.2.2.2.2.2.1,p.2.2.2.2.2.2.2.2.2.2.2.2.1,p.2.2.2.2.2.2.2.2.2.2.2.2.2.1,p.2.2.2.2.2.2.2.2.2.2.2.2.2.2.1,p.2.2.2.2.2.2.2.2.2.2.2.2.2.2.2) u3 n3 (λy2=>next (i64.wrap (v.1+1),y2))) k ((0:Int),v.2)) (x0 v.2)
def gV (k:Nat) (a0:ab) (a1:al) (a2:Int) (a3:Int) (a4:Int):Option (List Int):=
 iter (λu5 n5=>iA k (a2,a3,a4,a0.sh.h,a0.sh.w,a0.sh.c,a0.data,a1.kind,a1.out,a1.size,a1.step,a1.mult,a1.shift,a1.zero,a1.weights,a1.gI) u5 n5 (λy4=>some y4)) k ((0:Int),([]:List Int))
def iB {ρ:Type} (k:Nat) (p:Int× Int× Int× Int× Int× Int× Int× Int× List Int× Int× Int× Int× Int× Int× Int× Int× List Int× List Int× Int× Int× Int) (v:Int× Int) (next:(Int× Int)->Option ρ) (x5:Int->Option ρ):Option ρ:=
 cond (decide (v.2<p.2.2.2.2.2.2.2.2.2.2.2.2.2.2.2.2.2.2.2.2)) ((kg k (⟨(⟨p.2.2.2.2.2.1,p.2.2.2.2.2.2.1,p.2.2.2.2.2.2.2.1⟩:Shape),p.2.2.2.2.2.2.2.2.1⟩:ab) (i64.wrap ((i64.wrap (p.1*p.2.2.2.2.2.2.2.2.2.2.2.2.1))+p.2.2.2.1)) (i64.wrap ((i64.wrap (p.2.1*p.2.2.2.2.2.2.2.2.2.2.2.2.1))+p.2.2.2.2.1)) v.2).bind λr6=>(idx p.2.2.2.2.2.2.2.2.2.2.2.2.2.2.2.2.1 (i64.wrap ((i64.wrap ((i64.wrap ((i64.wrap ((i64.wrap ((i64.wrap (p.2.2.1*p.2.2.2.2.2.2.2.2.2.2.2.1))+p.2.2.2.1))*p.2.2.2.2.2.2.2.2.2.2.2.1))+p.2.2.2.2.1))*p.2.2.2.2.2.2.2.2.2.2.2.2.2.2.2.2.2.2.2.2))+v.2))).bind λe7=>(ix k v.1 (i64.wrap (r6.1*e7))).bind λr8=>next (r8,i64.wrap (v.2+1))) (x5 v.1)
def iC {ρ:Type} (k:Nat) (p:Int× Int× Int× Int× Int× Int× Int× List Int× Int× Int× Int× Int× Int× Int× Int× List Int× List Int× Int× Int× Int) (v:Int× Int) (next:(Int× Int)->Option ρ) (x3:Int->Option ρ):Option ρ:=
 cond (decide (v.2<p.2.2.2.2.2.2.2.2.2.2.1)) (iter (λu10 n10=>iB k (p.1,p.2.1,p.2.2.1,p.2.2.2.1,v.2,p.2.2.2.2.1,p.2.2.2.2.2.1,p.2.2.2.2.2.2.1,p.2.2.2.2.2.2.2.1,p.2.2.2.2.2.2.2.2.1,p.2.2.2.2.2.2.2.2.2.1,p.2.2.2.2.2.2.2.2.2.2.1,p.2.2.2.2.2.2.2.2.2.2.2.1,p.2.2.2.2.2.2.2.2.2.2.2.2.1,p.2.2.2.2.2.2.2.2.2.2.2.2.2.1,p.2.2.2.2.2.2.2.2.2.2.2.2.2.2.1,p.2.2.2.2.2.2.2.2.2.2.2.2.2.2.2.1,p.2.2.2.2.2.2.2.2.2.2.2.2.2.2.2.2.1,p.2.2.2.2.2.2.2.2.2.2.2.2.2.2.2.2.2.1,p.2.2.2.2.2.2.2.2.2.2.2.2.2.2.2.2.2.2.1,p.2.2.2.2.2.2.2.2.2.2.2.2.2.2.2.2.2.2.2) u10 n10 (λy9=>next (y9,i64.wrap (v.2+1)))) k (v.1,(0:Int))) (x3 v.1)
def iD {ρ:Type} (k:Nat) (p:Int× Int× Int× Int× Int× Int× List Int× Int× Int× Int× Int× Int× Int× Int× List Int× List Int× Int× Int× Int) (v:Int× Int) (next:(Int× Int)->Option ρ) (x1:Int->Option ρ):Option ρ:=
 cond (decide (v.2<p.2.2.2.2.2.2.2.2.2.1)) (iter (λu12 n12=>iC k (p.1,p.2.1,p.2.2.1,v.2,p.2.2.2.1,p.2.2.2.2.1,p.2.2.2.2.2.1,p.2.2.2.2.2.2.1,p.2.2.2.2.2.2.2.1,p.2.2.2.2.2.2.2.2.1,p.2.2.2.2.2.2.2.2.2.1,p.2.2.2.2.2.2.2.2.2.2.1,p.2.2.2.2.2.2.2.2.2.2.2.1,p.2.2.2.2.2.2.2.2.2.2.2.2.1,p.2.2.2.2.2.2.2.2.2.2.2.2.2.1,p.2.2.2.2.2.2.2.2.2.2.2.2.2.2.1,p.2.2.2.2.2.2.2.2.2.2.2.2.2.2.2.1,p.2.2.2.2.2.2.2.2.2.2.2.2.2.2.2.2.1,p.2.2.2.2.2.2.2.2.2.2.2.2.2.2.2.2.2.1,p.2.2.2.2.2.2.2.2.2.2.2.2.2.2.2.2.2.2) u12 n12 (λy11=>next (y11,i64.wrap (v.2+1)))) k (v.1,(0:Int))) (x1 v.1)
def iE {ρ:Type} (k:Nat) (p:List Int) (v:Int× Int) (next:(Int× Int)->Option ρ) (x7:Int->Option ρ):Option ρ:=
 cond (decide (v.2<(p.length:Int))) (cond (decide (0<=v.2/\v.2<(p.length:Int))) ((p[v.2.toNat]?).bind λe20=>cond (decide (e20>v.1)) (cond (decide (0<=v.2/\v.2<(p.length:Int))) ((p[v.2.toNat]?).bind λe21=>next (e21,i64.wrap (v.2+1))) none) (next (v.1,i64.wrap (v.2+1)))) none) (x7 v.1)
def iF {ρ:Type} (k:Nat) (p:List Int) (v:Int× Int) (next:(Int× Int)->Option ρ) (x9:Int->Option ρ):Option ρ:=
 cond (decide (v.2<(p.length:Int))) (cond (decide (0<=v.2/\v.2<(p.length:Int))) ((p[v.2.toNat]?).bind λe25=>next (i64.wrap (v.1+e25),i64.wrap (v.2+1))) none) (x9 v.1)
def nY (k:Nat) (a0:ab) (a1:al) (a2:Int) (a3:Int) (a4:Int):Option (Int):=
 cond (a1.kind==0) ((aT k a0.sh).bind λr1=>cond (decide (0<=(i64.wrap ((i64.wrap (a4*r1))+r1))/\(i64.wrap ((i64.wrap (a4*r1))+r1))<=(a1.weights.length:Int))) (cond (decide (0<=(i64.wrap (a4*r1))/\(i64.wrap (a4*r1))<=((i64.wrap ((i64.wrap (a4*r1))+r1)).toNat:Int))) ((uT k a0.data ((a1.weights.take ((i64.wrap ((i64.wrap (a4*r1))+r1)).toNat)).drop ((i64.wrap (a4*r1)).toNat))).bind λr2=>(idx a1.gI a4).bind λe3=>(ix k r2 e3).bind λr4=>(jv k r4 a1.mult a1.shift a1.zero).bind λr5=>some r5) none) none) (cond (a1.kind==1) (iter (λu17 n17=>iD k (a2,a3,a4,a0.sh.h,a0.sh.w,a0.sh.c,a0.data,a1.kind,a1.out,a1.size,a1.step,a1.mult,a1.shift,a1.zero,a1.weights,a1.gI,a0.sh.h,a0.sh.w,a0.sh.c) u17 n17 (λy13=>(idx a1.gI a4).bind λe14=>(ix k y13 e14).bind λr15=>(jv k r15 a1.mult a1.shift a1.zero).bind λr16=>some r16)) k ((0:Int),(0:Int))) (cond (a1.kind==2) ((gV k a0 a1 a2 a3 a4).bind λr18=>cond (decide (0<=(0:Int)/\(0:Int)<(r18.length:Int))) ((r18[(0:Int).toNat]?).bind λe19=>iter (λu23 n23=>iE k r18 u23 n23 (λy22=>some y22)) k (e19,(1:Int))) none) (cond (a1.kind==3) ((gV k a0 a1 a2 a3 a4).bind λr24=>iter (λu27 n27=>iF k r24 u27 n27 (λy26=>cond (decide (y26<0)) (cond (decide ((i64.wrap ((2:Int)*(r24.length:Int)))=0)) none (some (i64.wrap (0-(i64.wrap ((i64.wrap ((i64.wrap ((-2:Int)*y26))+(r24.length:Int))).tdiv (i64.wrap ((2:Int)*(r24.length:Int))))))))) (cond (decide ((i64.wrap ((2:Int)*(r24.length:Int)))=0)) none (some (i64.wrap ((i64.wrap ((i64.wrap ((2:Int)*y26))+(r24.length:Int))).tdiv (i64.wrap ((2:Int)*(r24.length:Int))))))))) k ((0:Int),(0:Int))) (cond (a1.kind==4) ((kg k a0 a2 a3 a4).bind λr28=>cond (decide (r28.1<a1.zero)) (some a1.zero) (some r28.1)) ((idx a0.data a4).bind λe29=>some e29)))))
def gi {ρ:Type} (k:Nat) (p:Int× Int× Int× Int× Int× List Int× Int× Int× Int× Int× Int× Int× Int× List Int× List Int× Int× Int× Int× Int× Int× Int× Int× Int× Int) (v:Int× List Int) (next:(Int× List Int)->Option ρ) (x4:(List Int)->Option ρ):Option ρ:=
 cond (decide (v.1<p.2.2.2.2.2.2.2.2.2.2.2.2.2.2.2.2.2.2.2.2.1)) ((nY k (⟨(⟨p.2.2.1,p.2.2.2.1,p.2.2.2.2.1⟩:Shape),p.2.2.2.2.2.1⟩:ab) (⟨p.2.2.2.2.2.2.1,p.2.2.2.2.2.2.2.1,p.2.2.2.2.2.2.2.2.1,p.2.2.2.2.2.2.2.2.2.1,p.2.2.2.2.2.2.2.2.2.2.1,p.2.2.2.2.2.2.2.2.2.2.2.1,p.2.2.2.2.2.2.2.2.2.2.2.2.1,p.2.2.2.2.2.2.2.2.2.2.2.2.2.1,p.2.2.2.2.2.2.2.2.2.2.2.2.2.2.1⟩:al) p.1 p.2.1 v.1).bind λr3=>cond (Nat.ble (v.2.length+[r3].length) bJ) (next (i64.wrap (v.1+1),v.2++[r3])) none) (x4 v.2)
def gj {ρ:Type} (k:Nat) (p:Int× Int× Int× Int× List Int× Int× Int× Int× Int× Int× Int× Int× List Int× List Int× Int× Int× Int× Int× Int× Int× Int× Int× Int) (v:Int× List Int) (next:(Int× List Int)->Option ρ) (x2:(List Int)->Option ρ):Option ρ:=
 cond (decide (v.1<p.2.2.2.2.2.2.2.2.2.2.2.2.2.2.2.2.2.2.1)) (iter (λu5 n5=>gi k (p.1,v.1,p.2.1,p.2.2.1,p.2.2.2.1,p.2.2.2.2.1,p.2.2.2.2.2.1,p.2.2.2.2.2.2.1,p.2.2.2.2.2.2.2.1,p.2.2.2.2.2.2.2.2.1,p.2.2.2.2.2.2.2.2.2.1,p.2.2.2.2.2.2.2.2.2.2.1,p.2.2.2.2.2.2.2.2.2.2.2.1,p.2.2.2.2.2.2.2.2.2.2.2.2.1,p.2.2.2.2.2.2.2.2.2.2.2.2.2.1,p.2.2.2.2.2.2.2.2.2.2.2.2.2.2.1,p.2.2.2.2.2.2.2.2.2.2.2.2.2.2.2.1,p.2.2.2.2.2.2.2.2.2.2.2.2.2.2.2.2.1,p.2.2.2.2.2.2.2.2.2.2.2.2.2.2.2.2.2.1,p.2.2.2.2.2.2.2.2.2.2.2.2.2.2.2.2.2.2.1,p.2.2.2.2.2.2.2.2.2.2.2.2.2.2.2.2.2.2.2.1,p.2.2.2.2.2.2.2.2.2.2.2.2.2.2.2.2.2.2.2.2.1,p.2.2.2.2.2.2.2.2.2.2.2.2.2.2.2.2.2.2.2.2.2.1,p.2.2.2.2.2.2.2.2.2.2.2.2.2.2.2.2.2.2.2.2.2.2) u5 n5 (λy4=>next (i64.wrap (v.1+1),y4))) k ((0:Int),v.2)) (x2 v.2)
def gl {ρ:Type} (k:Nat) (p:Int× Int× Int× List Int× Int× Int× Int× Int× Int× Int× Int× List Int× List Int× Int× Int× Int× Int× Int× Int× Int× Int× Int) (v:Int× List Int) (next:(Int× List Int)->Option ρ) (x0:(List Int)->Option ρ):Option ρ:=
 cond (decide (v.1<p.2.2.2.2.2.2.2.2.2.2.2.2.2.2.2.2.1)) (iter (λu7 n7=>gj k (v.1,p.1,p.2.1,p.2.2.1,p.2.2.2.1,p.2.2.2.2.1,p.2.2.2.2.2.1,p.2.2.2.2.2.2.1,p.2.2.2.2.2.2.2.1,p.2.2.2.2.2.2.2.2.1,p.2.2.2.2.2.2.2.2.2.1,p.2.2.2.2.2.2.2.2.2.2.1,p.2.2.2.2.2.2.2.2.2.2.2.1,p.2.2.2.2.2.2.2.2.2.2.2.2.1,p.2.2.2.2.2.2.2.2.2.2.2.2.2.1,p.2.2.2.2.2.2.2.2.2.2.2.2.2.2.1,p.2.2.2.2.2.2.2.2.2.2.2.2.2.2.2.1,p.2.2.2.2.2.2.2.2.2.2.2.2.2.2.2.2.1,p.2.2.2.2.2.2.2.2.2.2.2.2.2.2.2.2.2.1,p.2.2.2.2.2.2.2.2.2.2.2.2.2.2.2.2.2.2.1,p.2.2.2.2.2.2.2.2.2.2.2.2.2.2.2.2.2.2.2.1,p.2.2.2.2.2.2.2.2.2.2.2.2.2.2.2.2.2.2.2.2.1,p.2.2.2.2.2.2.2.2.2.2.2.2.2.2.2.2.2.2.2.2.2) u7 n7 (λy6=>next (i64.wrap (v.1+1),y6))) k ((0:Int),v.2)) (x0 v.2)
def lY (k:Nat) (a0:ab) (a1:al):Option (ab× Bool):=
 (fk k a0).bind λr1=>cond (!r1) (some ((⟨(⟨(0:Int),(0:Int),(0:Int)⟩:Shape),([]:List Int)⟩:ab),false)) ((fl k a0.sh a1).bind λr2=>cond (!r2.2) (some ((⟨(⟨(0:Int),(0:Int),(0:Int)⟩:Shape),([]:List Int)⟩:ab),false)) (iter (λu9 n9=>gl k (a0.sh.h,a0.sh.w,a0.sh.c,a0.data,a1.kind,a1.out,a1.size,a1.step,a1.mult,a1.shift,a1.zero,a1.weights,a1.gI,(0:Int),(0:Int),(0:Int),r2.1.h,r2.1.w,r2.1.c,r2.1.h,r2.1.w,r2.1.c) u9 n9 (λy8=>some ((⟨r2.1,y8⟩:ab),true))) k ((0:Int),([]:List Int))))
def BI (k:Nat) (a0:Int) (a1:Int) (a2:Int):Option (Int):=
 some (if(if a2<a0 then a2 else a0)>a1 then(if a2<a0 then a2 else a0)else a1)
def ru (k:Nat) (a0:Int):Option (Int):=
 (BI k a0 (-128:Int) (127:Int)).bind λr1=>some r1
def iU (k:Nat) (a0:Int):Option (Int):=
 (BI k a0 (-2147483648:Int) (2147483647:Int)).bind λr1=>some r1
def nZ (k:Nat) (a0:Int) (a1:Int):Option (Int):=
 (iU k a0).bind λr1=>(iU k a1).bind λr2=>(iU k (i64.wrap (r1+r2))).bind λr3=>some r3
def lZ {ρ:Type} (k:Nat) (p:List Int× List Int× Int) (v:Int× Int) (next:(Int× Int)->Option ρ) (x0:Int->Option ρ):Option ρ:=
 cond (decide (v.2<p.2.2)) ((idx p.1 v.2).bind λe1=>(ru k e1).bind λr2=>(idx p.2.1 v.2).bind λe3=>(ru k e3).bind λr4=>(nZ k v.1 (i64.wrap (r2*r4))).bind λr5=>next (r5,i64.wrap (v.2+1))) (x0 v.1)
def uU (k:Nat) (a0:List Int) (a1:List Int):Option (Int):=
 iter (λu7 n7=>lZ k (a0,a1,if(a1.length:Int)<(a0.length:Int)then(a1.length:Int)else(a0.length:Int)) u7 n7 (λy6=>some y6)) k ((0:Int),(0:Int))
def oa (k:Nat) (a0:Int) (a1:Int):Option (Int):=
 (iU k a0).bind λr1=>(iU k a1).bind λr2=>(iU k ((i64.wrap ((i64.wrap (r1*r2))+1073741824)).fdiv (2^(min (31:Int).toNat i64.bits)))).bind λr3=>some r3
def kh (k:Nat) (a0:Int) (a1:Int):Option (Int):=
 cond (decide (a0<0)) (none) (cond (decide ((i64.wrap ((2:Int)*a1))=0)) none (some (i64.wrap ((i64.wrap ((i64.wrap ((2:Int)*a0))+a1)).tdiv (i64.wrap ((2:Int)*a1))))))
def jx (k:Nat) (a0:Int) (a1:Int):Option (Int):=
 cond (decide (a0<0)) ((kh k (i64.wrap (0-a0)) a1).bind λr1=>some (i64.wrap (0-r1))) (cond (decide ((i64.wrap ((2:Int)*a1))=0)) none (some (i64.wrap ((i64.wrap ((i64.wrap ((2:Int)*a0))+a1)).tdiv (i64.wrap ((2:Int)*a1))))))
def iG (k:Nat) (a0:Int) (a1:Int):Option (Int):=
 (iU k a0).bind λr1=>(BI k a1 (0:Int) (31:Int)).bind λr2=>cond (decide (r2<0)) none ((jx k r1 (i64.wrap ((1:Int)*2^(min r2.toNat i64.bits)))).bind λr3=>some r3)
def oc (k:Nat) (a0:Int) (a1:Int) (a2:Int) (a3:Int):Option (Int):=
 (oa k a0 a1).bind λr1=>(iG k r1 a2).bind λr2=>(ru k a3).bind λr3=>(ru k (i64.wrap (r2+r3))).bind λr4=>some r4
def cK (k:Nat) (a0:al) (a1:List Int) (a2:Int):Option (Int):=
 cond (decide (0<=(i64.wrap ((i64.wrap (a2+1))*(a1.length:Int)))/\(i64.wrap ((i64.wrap (a2+1))*(a1.length:Int)))<=(a0.weights.length:Int))) (cond (decide (0<=(i64.wrap (a2*(a1.length:Int)))/\(i64.wrap (a2*(a1.length:Int)))<=((i64.wrap ((i64.wrap (a2+1))*(a1.length:Int))).toNat:Int))) ((uU k a1 ((a0.weights.take ((i64.wrap ((i64.wrap (a2+1))*(a1.length:Int))).toNat)).drop ((i64.wrap (a2*(a1.length:Int))).toNat))).bind λr1=>(idx a0.gI a2).bind λe2=>(nZ k r1 e2).bind λr3=>(oc k r3 a0.mult a0.shift a0.zero).bind λr4=>some r4) none) none
def eK (k:Nat) (a0:Shape) (a1:Int) (a2:Int) (a3:Int):Option (Int):=
 some (i64.wrap ((i64.wrap ((i64.wrap ((i64.wrap (a1*a0.w))+a2))*a0.c))+a3))
def bR {ρ:Type} (k:Nat) (p:Int× Int× Int× Int× Int× Int× Int× Int× Int× Int× Int× Int× Int× Int× List Int× List Int× Int× Int× Int× List Int) (v:Int× List Int) (next:(Int× List Int)->Option ρ) (x2:(List Int)->Option ρ):Option ρ:=
 cond (decide (v.1<p.2.2.2.2.2.2.1)) ((eK k (⟨p.2.2.2.2.2.2.2.2.2.2.2.2.2.2.2.2.1,p.2.2.2.2.2.2.2.2.2.2.2.2.2.2.2.2.2.1,p.2.2.2.2.2.2.2.2.2.2.2.2.2.2.2.2.2.2.1⟩:Shape) (i64.wrap ((i64.wrap (p.1*p.2.2.2.2.2.2.2.2.2.2.1))+p.2.2.2.1)) (i64.wrap ((i64.wrap (p.2.1*p.2.2.2.2.2.2.2.2.2.2.1))+v.1)) (0:Int)).bind λr1=>cond (decide (p.2.2.1<0)) (cond (decide (0<=(i64.wrap (r1+p.2.2.2.2.2.2.2.2.2.2.2.2.2.2.2.2.2.2.1))/\(i64.wrap (r1+p.2.2.2.2.2.2.2.2.2.2.2.2.2.2.2.2.2.2.1))<=(p.2.2.2.2.2.2.2.2.2.2.2.2.2.2.2.2.2.2.2.length:Int))) (cond (decide (0<=r1/\r1<=((i64.wrap (r1+p.2.2.2.2.2.2.2.2.2.2.2.2.2.2.2.2.2.2.1)).toNat:Int))) (cond (Nat.ble (v.2.length+((p.2.2.2.2.2.2.2.2.2.2.2.2.2.2.2.2.2.2.2.take ((i64.wrap (r1+p.2.2.2.2.2.2.2.2.2.2.2.2.2.2.2.2.2.2.1)).toNat)).drop r1.toNat).length) bJ) (next (i64.wrap (v.1+1),v.2++((p.2.2.2.2.2.2.2.2.2.2.2.2.2.2.2.2.2.2.2.take ((i64.wrap (r1+p.2.2.2.2.2.2.2.2.2.2.2.2.2.2.2.2.2.2.1)).toNat)).drop r1.toNat))) none) none) none) ((idx p.2.2.2.2.2.2.2.2.2.2.2.2.2.2.2.2.2.2.2 (i64.wrap (r1+p.2.2.1))).bind λe2=>cond (Nat.ble (v.2.length+[e2].length) bJ) (next (i64.wrap (v.1+1),v.2++[e2])) none)) (x2 v.2)
def bS {ρ:Type} (k:Nat) (p:Int× Int× Int× Int× Int× Int× Int× Int× Int× Int× Int× List Int× List Int× Int× Int× Int× List Int) (v:Int× List Int) (next:(Int× List Int)->Option ρ) (x0:(List Int)->Option ρ):Option ρ:=
 cond (decide (v.1<p.2.2.2.1)) (iter (λu4 n4=>bR k (p.1,p.2.1,p.2.2.1,v.1,p.2.2.2.1,v.1,p.2.2.2.2.2.2.1,p.2.2.2.2.1,p.2.2.2.2.2.1,p.2.2.2.2.2.2.1,p.2.2.2.2.2.2.2.1,p.2.2.2.2.2.2.2.2.1,p.2.2.2.2.2.2.2.2.2.1,p.2.2.2.2.2.2.2.2.2.2.1,p.2.2.2.2.2.2.2.2.2.2.2.1,p.2.2.2.2.2.2.2.2.2.2.2.2.1,p.2.2.2.2.2.2.2.2.2.2.2.2.2.1,p.2.2.2.2.2.2.2.2.2.2.2.2.2.2.1,p.2.2.2.2.2.2.2.2.2.2.2.2.2.2.2.1,p.2.2.2.2.2.2.2.2.2.2.2.2.2.2.2.2) u4 n4 (λy3=>next (i64.wrap (v.1+1),y3))) k ((0:Int),v.2)) (x0 v.2)
def bh (k:Nat) (a0:al) (a1:ab) (a2:Int) (a3:Int) (a4:Int):Option (List Int):=
 iter (λu6 n6=>bS k (a2,a3,a4,a0.size,a0.kind,a0.out,a0.size,a0.step,a0.mult,a0.shift,a0.zero,a0.weights,a0.gI,a1.sh.h,a1.sh.w,a1.sh.c,a1.data) u6 n6 (λy5=>some y5)) k ((0:Int),([]:List Int))
def bW {ρ:Type} (k:Nat) (p:List Int) (v:Int× Int) (next:(Int× Int)->Option ρ) (x0:Int->Option ρ):Option ρ:=
 cond (decide (v.2<(p.length:Int))) ((idx p v.2).bind λe2=>next (if e2>v.1 then e2 else v.1,i64.wrap (v.2+1))) (x0 v.1)
def cy (k:Nat) (a0:List Int):Option (Int):=
 cond (decide ((a0.length:Int)<(1:Int))) (none) ((idx a0 (0:Int)).bind λe1=>iter (λu4 n4=>bW k a0 u4 n4 (λy3=>some y3)) k (e1,(1:Int)))
def eL {ρ:Type} (k:Nat) (p:Int× Int× Int× Int× Int× Int× Int× Int× List Int× List Int× List Int) (v:Int× Int) (next:(Int× Int)->Option ρ) (x1:Int->Option ρ):Option ρ:=
 cond (decide (v.2<p.1)) (cond (decide (0<=v.2/\v.2<(p.2.2.2.2.2.2.2.2.2.2.length:Int))) ((p.2.2.2.2.2.2.2.2.2.2[v.2.toNat]?).bind λe7=>next (i64.wrap (v.1+e7),i64.wrap (v.2+1))) none) (x1 v.1)
def iH (k:Nat) (a0:al) (a1:ab) (a2:Int) (a3:Int) (a4:Int):Option (Int):=
 cond (a0.kind==0) ((cK k a0 a1.data a4).bind λr1=>some r1) (cond (a0.kind==1) ((bh k a0 a1 a2 a3 (-1:Int)).bind λr2=>(cK k a0 r2 a4).bind λr3=>some r3) (cond (a0.kind==2) ((bh k a0 a1 a2 a3 a4).bind λr4=>(cy k r4).bind λr5=>some r5) (cond (a0.kind==3) ((bh k a0 a1 a2 a3 a4).bind λr6=>iter (λu10 n10=>eL k ((r6.length:Int),a0.kind,a0.out,a0.size,a0.step,a0.mult,a0.shift,a0.zero,a0.weights,a0.gI,r6) u10 n10 (λy8=>(jx k y8 (i64.wrap (a0.size*a0.size))).bind λr9=>some r9)) k ((0:Int),(0:Int))) (cond (a0.kind==4) ((eK k a1.sh a2 a3 a4).bind λr11=>(idx a1.data r11).bind λe12=>some (if a0.zero>e12 then a0.zero else e12)) ((idx a1.data a4).bind λe13=>some e13)))))
def gm {ρ:Type} (k:Nat) (p:Int× Int× Int× Int× Int× Int× Int× Int× Int× Int× List Int× Int× Int× Int× Int× Int× Int× Int× List Int× List Int× Int× Int× Int× Int× Int× Int× Int× Int× Int) (v:Int× List Int) (next:(Int× List Int)->Option ρ) (x4:(List Int)->Option ρ):Option ρ:=
 cond (decide (v.1<p.2.2.2.2.2.2.1)) ((iH k (⟨p.2.2.2.2.2.2.2.2.2.2.2.1,p.2.2.2.2.2.2.2.2.2.2.2.2.1,p.2.2.2.2.2.2.2.2.2.2.2.2.2.1,p.2.2.2.2.2.2.2.2.2.2.2.2.2.2.1,p.2.2.2.2.2.2.2.2.2.2.2.2.2.2.2.1,p.2.2.2.2.2.2.2.2.2.2.2.2.2.2.2.2.1,p.2.2.2.2.2.2.2.2.2.2.2.2.2.2.2.2.2.1,p.2.2.2.2.2.2.2.2.2.2.2.2.2.2.2.2.2.2.1,p.2.2.2.2.2.2.2.2.2.2.2.2.2.2.2.2.2.2.2.1⟩:al) (⟨(⟨p.2.2.2.2.2.2.2.1,p.2.2.2.2.2.2.2.2.1,p.2.2.2.2.2.2.2.2.2.1⟩:Shape),p.2.2.2.2.2.2.2.2.2.2.1⟩:ab) p.1 p.2.1 v.1).bind λr3=>cond (Nat.ble (v.2.length+[r3].length) bJ) (next (i64.wrap (v.1+1),v.2++[r3])) none) (x4 v.2)
def gn {ρ:Type} (k:Nat) (p:Int× Int× Int× Int× Int× Int× Int× List Int× Int× Int× Int× Int× Int× Int× Int× List Int× List Int× Int× Int× Int× Int× Int× Int× Int× Int× Int) (v:Int× List Int) (next:(Int× List Int)->Option ρ) (x2:(List Int)->Option ρ):Option ρ:=
 cond (decide (v.1<p.2.2.2.1)) (iter (λu5 n5=>gm k (p.1,v.1,p.2.1,p.2.2.1,p.2.2.2.1,v.1,p.2.2.2.2.2.2.2.2.2.2.2.2.2.2.2.2.2.2.2.2.2.2.1,p.2.2.2.2.1,p.2.2.2.2.2.1,p.2.2.2.2.2.2.1,p.2.2.2.2.2.2.2.1,p.2.2.2.2.2.2.2.2.1,p.2.2.2.2.2.2.2.2.2.1,p.2.2.2.2.2.2.2.2.2.2.1,p.2.2.2.2.2.2.2.2.2.2.2.1,p.2.2.2.2.2.2.2.2.2.2.2.2.1,p.2.2.2.2.2.2.2.2.2.2.2.2.2.1,p.2.2.2.2.2.2.2.2.2.2.2.2.2.2.1,p.2.2.2.2.2.2.2.2.2.2.2.2.2.2.2.1,p.2.2.2.2.2.2.2.2.2.2.2.2.2.2.2.2.1,p.2.2.2.2.2.2.2.2.2.2.2.2.2.2.2.2.2.1,p.2.2.2.2.2.2.2.2.2.2.2.2.2.2.2.2.2.2.1,p.2.2.2.2.2.2.2.2.2.2.2.2.2.2.2.2.2.2.2.1,p.2.2.2.2.2.2.2.2.2.2.2.2.2.2.2.2.2.2.2.2.1,p.2.2.2.2.2.2.2.2.2.2.2.2.2.2.2.2.2.2.2.2.2.1,p.2.2.2.2.2.2.2.2.2.2.2.2.2.2.2.2.2.2.2.2.2.2.1,p.2.2.2.2.2.2.2.2.2.2.2.2.2.2.2.2.2.2.2.2.2.2.2.1,p.2.2.2.2.2.2.2.2.2.2.2.2.2.2.2.2.2.2.2.2.2.2.2.2.1,p.2.2.2.2.2.2.2.2.2.2.2.2.2.2.2.2.2.2.2.2.2.2.2.2.2) u5 n5 (λy4=>next (i64.wrap (v.1+1),y4))) k ((0:Int),v.2)) (x2 v.2)
def gp {ρ:Type} (k:Nat) (p:Int× Int× Int× Int× List Int× Int× Int× Int× Int× Int× Int× Int× List Int× List Int× Int× Int× Int× Int× Int× Int× Int× Int× Int) (v:Int× List Int) (next:(Int× List Int)->Option ρ) (x0:(List Int)->Option ρ):Option ρ:=
 cond (decide (v.1<p.1)) (iter (λu7 n7=>gn k (v.1,p.1,v.1,p.2.2.2.2.2.2.2.2.2.2.2.2.2.2.2.2.2.2.1,p.2.1,p.2.2.1,p.2.2.2.1,p.2.2.2.2.1,p.2.2.2.2.2.1,p.2.2.2.2.2.2.1,p.2.2.2.2.2.2.2.1,p.2.2.2.2.2.2.2.2.1,p.2.2.2.2.2.2.2.2.2.1,p.2.2.2.2.2.2.2.2.2.2.1,p.2.2.2.2.2.2.2.2.2.2.2.1,p.2.2.2.2.2.2.2.2.2.2.2.2.1,p.2.2.2.2.2.2.2.2.2.2.2.2.2.1,p.2.2.2.2.2.2.2.2.2.2.2.2.2.2.1,p.2.2.2.2.2.2.2.2.2.2.2.2.2.2.2.1,p.2.2.2.2.2.2.2.2.2.2.2.2.2.2.2.2.1,p.2.2.2.2.2.2.2.2.2.2.2.2.2.2.2.2.2.1,p.2.2.2.2.2.2.2.2.2.2.2.2.2.2.2.2.2.2.1,p.2.2.2.2.2.2.2.2.2.2.2.2.2.2.2.2.2.2.2.1,p.2.2.2.2.2.2.2.2.2.2.2.2.2.2.2.2.2.2.2.2.1,p.2.2.2.2.2.2.2.2.2.2.2.2.2.2.2.2.2.2.2.2.2.1,p.2.2.2.2.2.2.2.2.2.2.2.2.2.2.2.2.2.2.2.2.2.2) u7 n7 (λy6=>next (i64.wrap (v.1+1),y6))) k ((0:Int),v.2)) (x0 v.2)
def jy (k:Nat) (a0:ab) (a1:al):Option (ab× Bool):=
 (gF k a0.sh a1).bind λr1=>cond (!r1.2) (some ((⟨(⟨(0:Int),(0:Int),(0:Int)⟩:Shape),([]:List Int)⟩:ab),false)) ((du k a0).bind λr2=>cond (!r2) (some ((⟨(⟨(0:Int),(0:Int),(0:Int)⟩:Shape),([]:List Int)⟩:ab),false)) (iter (λu9 n9=>gp k (r1.1.h,a0.sh.h,a0.sh.w,a0.sh.c,a0.data,a1.kind,a1.out,a1.size,a1.step,a1.mult,a1.shift,a1.zero,a1.weights,a1.gI,(0:Int),(0:Int),(0:Int),r1.1.h,r1.1.w,r1.1.c,r1.1.h,r1.1.w,r1.1.c) u9 n9 (λy8=>some ((⟨r1.1,y8⟩:ab),true))) k ((0:Int),([]:List Int))))
end
end
set_option maxRecDepth 100000
set_option maxHeartbeats 4000000
section
noncomputable section
def dJ {ρ:Type} (k:Nat) (p:Int× Int× Int× List al× Int× Int× Int) (v:Int× Int× Int× Int× List Int) (next:(Int× Int× Int× Int× List Int)->Option ρ) (x0:(Int× Int× Int× List Int)->Option ρ):Option ρ:=
 cond (decide (v.1<(p.2.2.2.1.length:Int))) ((idx p.2.2.2.1 v.1).bind λe4=>(lY k (⟨(⟨v.2.1,v.2.2.1,v.2.2.2.1⟩:Shape),v.2.2.2.2⟩:ab) e4).bind λr5=>next (i64.wrap (v.1+1),r5.1.sh.h,r5.1.sh.w,r5.1.sh.c,r5.1.data)) (x0 (v.2.1,v.2.2.1,v.2.2.2.1,v.2.2.2.2))
def ki (k:Nat) (a0:Model) (a1:ab):Option (ab× Bool):=
 (lu k a0).bind λr1=>cond (!r1) (some ((⟨(⟨(0:Int),(0:Int),(0:Int)⟩:Shape),([]:List Int)⟩:ab),false)) ((fk k a1).bind λr2=>cond (!r2) (some ((⟨(⟨(0:Int),(0:Int),(0:Int)⟩:Shape),([]:List Int)⟩:ab),false)) (cond (!(cond (a1.sh.h==a0.inp.h) (cond (a1.sh.w==a0.inp.w) (cond (a1.sh.c==a0.inp.c) (true) false) false) false)) (some ((⟨(⟨(0:Int),(0:Int),(0:Int)⟩:Shape),([]:List Int)⟩:ab),false)) ((nS k a1).bind λr3=>iter (λu7 n7=>dJ k (a0.inp.h,a0.inp.w,a0.inp.c,a0.ai,(0:Int),(0:Int),(0:Int)) u7 n7 (λy6=>some ((⟨(⟨y6.1,y6.2.1,y6.2.2.1⟩:Shape),y6.2.2.2⟩:ab),true))) k ((0:Int),r3.sh.h,r3.sh.w,r3.sh.c,r3.data))))
def fw {ρ:Type} (k:Nat) (p:List ab× Int× Int× Int× List al) (v:Int× List ab) (next:(Int× List ab)->Option ρ) (x0:(List ab)->Option ρ) (mf:Bool->Option ρ):Option ρ:=
 cond (decide (v.1<(p.1.length:Int))) ((idx p.1 v.1).bind λe2=>(ki k (⟨(⟨p.2.1,p.2.2.1,p.2.2.2.1⟩:Shape),p.2.2.2.2⟩:Model) e2).bind λr3=>cond (!r3.2) (mf false) (cond (Nat.ble (v.2.length+1) bJ) (next (i64.wrap (v.1+1),v.2++[r3.1])) none)) (x0 v.2)
def dV (k:Nat) (a0:Model) (a1:List ab):Option (List ab× Bool):=
 (bn k (a1.length:Int) (1:Int) (8:Int)).bind λr1=>cond (!r1) (some (([]:List ab),false)) (iter (λu6 n6=>fw k (a1,a0.inp.h,a0.inp.w,a0.inp.c,a0.ai) u6 n6 (λy4=>some (y4,true)) (λy5=>some (([]:List ab),y5))) k ((0:Int),([]:List ab)))
def dK {ρ:Type} (k:Nat) (p:List al× Int× Int× Int× Int) (v:Int× Int× Int× Int× List Int) (next:(Int× Int× Int× Int× List Int)->Option ρ) (x0:(Int× Int× Int× List Int)->Option ρ):Option ρ:=
 cond (decide (v.1<p.2.1)) ((idx p.1 v.1).bind λe5=>(jy k (⟨(⟨v.2.1,v.2.2.1,v.2.2.2.1⟩:Shape),v.2.2.2.2⟩:ab) e5).bind λr6=>next (i64.wrap (v.1+1),r6.1.sh.h,r6.1.sh.w,r6.1.sh.c,r6.1.data)) (x0 (v.2.1,v.2.2.1,v.2.2.2.1,v.2.2.2.2))
def kj (k:Nat) (a0:Model) (a1:ab):Option (ab× Bool):=
 (jt k a0).bind λr1=>cond (!r1) (some ((⟨(⟨(0:Int),(0:Int),(0:Int)⟩:Shape),([]:List Int)⟩:ab),false)) ((du k a1).bind λr2=>cond (!r2) (some ((⟨(⟨(0:Int),(0:Int),(0:Int)⟩:Shape),([]:List Int)⟩:ab),false)) (cond (!(cond (a1.sh.h==a0.inp.h) (cond (a1.sh.w==a0.inp.w) (cond (a1.sh.c==a0.inp.c) (true) false) false) false)) (some ((⟨(⟨(0:Int),(0:Int),(0:Int)⟩:Shape),([]:List Int)⟩:ab),false)) (cond (decide ((0:Int)<(a0.ai.length:Int))) ((idx a0.ai (0:Int)).bind λe3=>(jy k a1 e3).bind λr4=>iter (λu8 n8=>dK k (a0.ai,(a0.ai.length:Int),(0:Int),(0:Int),(0:Int)) u8 n8 (λy7=>some ((⟨(⟨y7.1,y7.2.1,y7.2.2.1⟩:Shape),y7.2.2.2⟩:ab),true))) k ((1:Int),r4.1.sh.h,r4.1.sh.w,r4.1.sh.c,r4.1.data)) (none))))
def fx {ρ:Type} (k:Nat) (p:List ab× Int× Int× Int× Int× List al) (v:Int× List ab) (next:(Int× List ab)->Option ρ) (x0:(List ab)->Option ρ) (mf:Bool->Option ρ):Option ρ:=
 cond (decide (v.1<p.2.1)) ((idx p.1 v.1).bind λe2=>(kj k (⟨(⟨p.2.2.1,p.2.2.2.1,p.2.2.2.2.1⟩:Shape),p.2.2.2.2.2⟩:Model) e2).bind λr3=>cond (!r3.2) (mf false) (cond (Nat.ble (v.2.length+1) bJ) (next (i64.wrap (v.1+1),v.2++[r3.1])) none)) (x0 v.2)
def dW (k:Nat) (a0:Model) (a1:List ab):Option (List ab× Bool):=
 (uS k (a1.length:Int) (1:Int) (8:Int)).bind λr1=>cond (!r1) (some (([]:List ab),false)) (iter (λu6 n6=>fx k (a1,(a1.length:Int),a0.inp.h,a0.inp.w,a0.inp.c,a0.ai) u6 n6 (λy4=>some (y4,true)) (λy5=>some (([]:List ab),y5))) k ((0:Int),([]:List ab)))
end
end
set_option maxRecDepth 100000
section
noncomputable section
end
end
set_option maxRecDepth 100000
section
noncomputable section
end
end
set_option maxRecDepth 100000
section
noncomputable section
def od (k:Nat) (a0:Int):Option (Bool):=
 some (a0 !=a0)
def lx (k:Nat) (a0:Int) (a1:Int):Option (Int):=
 (od k a0).bind λr1=>(od k a1).bind λr2=>cond (r1) (cond (r2) (some (0:Int)) (some (-1:Int))) (cond (r2) (some (1:Int)) (cond (decide (a0<a1)) (some (-1:Int)) (cond (decide (a0>a1)) (some (1:Int)) (some (0:Int)))))
end
end
set_option maxRecDepth 100000
set_option maxHeartbeats 4000000
section
noncomputable section
def G8 (k:Nat) (a0:List Int):Option (Bool):=
 some (decide ((a0.length:Int)>(1048576:Int)))
def kn {ρ:Type} (k:Nat) (p:List Int) (v:Int× Int) (next:(Int× Int)->Option ρ) (x0:Int->Option ρ):Option ρ:=
 cond (decide (v.2<(p.length:Int))) (cond (decide (v.2<4000)) ((idx p v.2).bind λe1=>next (i64.wrap (((BitVec.ofInt i64.bits (i64.wrap ((i64.wrap ((i64.wrap (v.1*149))+(i64.wrap (e1))))+11))&&& BitVec.ofInt i64.bits (1073741823:Int)).toNat:Int)),i64.wrap (v.2+1))) (x0 v.1)) (x0 v.1)
def jz (k:Nat) (a0:List Int):Option (Int× Int):=
 iter (λu3 n3=>kn k a0 u3 n3 (λy2=>cond (decide (a0=a0)) (some ((0:Int),y2)) none)) k (i64.wrap ((778778:Int)+(a0.length:Int)),(0:Int))
def dX (k:Nat) (aG:List Int) (mr:Int) (l4:Int):Option (Int× Int× Int):=
 cond (decide (mr<(aG.length:Int))) ((idx aG mr).bind λe1=>cond (decide (aG=aG)) (some (i64.wrap (((BitVec.ofInt i64.bits (i64.wrap ((i64.wrap (((BitVec.ofInt i64.bits (i64.wrap (((BitVec.ofInt i64.bits ((i64.wrap ((i64.wrap (l4*6364136223846793005))+1442695040888963407)).fdiv (2^(min (33:Int).toNat i64.bits)))^^^ BitVec.ofInt i64.bits ((i64.wrap ((i64.wrap (l4*6364136223846793005))+1442695040888963407)).fdiv (2^(min (45:Int).toNat i64.bits)))).toNat:Int)))&&& BitVec.ofInt i64.bits (255:Int)).toNat:Int)))+(i64.wrap (e1))))&&& BitVec.ofInt i64.bits (255:Int)).toNat:Int)),i64.wrap (mr+1),i64.wrap ((i64.wrap (l4*6364136223846793005))+1442695040888963407))) none) (cond (decide (aG=aG)) (some (i64.wrap (((BitVec.ofInt i64.bits (i64.wrap (((BitVec.ofInt i64.bits ((i64.wrap ((i64.wrap (l4*6364136223846793005))+1442695040888963407)).fdiv (2^(min (33:Int).toNat i64.bits)))^^^ BitVec.ofInt i64.bits ((i64.wrap ((i64.wrap (l4*6364136223846793005))+1442695040888963407)).fdiv (2^(min (45:Int).toNat i64.bits)))).toNat:Int)))&&& BitVec.ofInt i64.bits (255:Int)).toNat:Int)),mr,i64.wrap ((i64.wrap (l4*6364136223846793005))+1442695040888963407))) none)
def ae (k:Nat) (aG:List Int) (mr:Int) (l4:Int) (a1:Int):Option (Int× Int× Int):=
 cond (decide (a1<=0)) (cond (decide (aG=aG)) (some ((0:Int),mr,l4)) none) (cond (decide (a1<=256)) ((dX k aG mr l4).bind λr1=>cond (decide (a1=0)) none (cond (decide (aG=aG)) (some (r1.1.tmod a1,r1.2.1,r1.2.2)) none)) ((dX k aG mr l4).bind λr2=>(dX k aG r2.2.1 r2.2.2).bind λr3=>(dX k aG r3.2.1 r3.2.2).bind λr4=>cond (decide (a1=0)) none (cond (decide (aG=aG)) (some ((i64.wrap ((i64.wrap ((i64.wrap (r2.1*65536))+(i64.wrap (r3.1*256))))+r4.1)).tmod a1,r4.2.1,r4.2.2)) none)))
def aJ (k:Nat) (aG:List Int) (mr:Int) (l4:Int) (a1:List Int):Option (Int× Int× Int):=
 (ae k aG mr l4 (a1.length:Int)).bind λr1=>(idx a1 r1.1).bind λe2=>cond (decide (aG=aG)) (some (e2,r1.2.1,r1.2.2)) none
def cz (k:Nat) (aG:List Int) (mr:Int) (l4:Int) (a1:Int):Option (Bool× Int× Int):=
 (ae k aG mr l4 a1).bind λr1=>cond (decide (aG=aG)) (some (r1.1==0,r1.2.1,r1.2.2)) none
end
end
set_option maxRecDepth 100000
set_option maxHeartbeats 4000000
section
noncomputable section
end
end
set_option maxRecDepth 100000
set_option maxHeartbeats 4000000
section
noncomputable section
end
end
set_option maxRecDepth 100000
set_option maxHeartbeats 4000000
section
noncomputable section
def cF (k:Nat) (aG:List Int) (mr:Int) (l4:Int) (a1:Int):Option (Shape× Int× Int):=
 (ae k aG mr l4 a1).bind λr1=>(ae k aG r1.2.1 r1.2.2 a1).bind λr2=>(ae k aG r2.2.1 r2.2.2 (3:Int)).bind λr3=>cond (decide (aG=aG)) (some ((⟨(i64.wrap ((1:Int)+r1.1)),(i64.wrap ((1:Int)+r2.1)),(i64.wrap ((1:Int)+r3.1))⟩:Shape),r3.2.1,r3.2.2)) none
def dg (k:Nat) (aG:List Int) (mr:Int) (l4:Int):Option (Int× Int× Int):=
 (ae k aG mr l4 (256:Int)).bind λr1=>(ae k aG r1.2.1 r1.2.2 (256:Int)).bind λr2=>(aJ k aG r2.2.1 r2.2.2 [(i64.wrap (r1.1-128)),(i64.wrap (r2.1-128)),(127:Int),(-128:Int),(0:Int)]).bind λr3=>cond (decide (aG=aG)) (some (r3.1,r3.2.1,r3.2.2)) none
def aZ {ρ:Type} (k:Nat) (p:Int× List Int× Int× Int× Int× Int× Int× Int× Int× Int× Int× Int× Int× Int× Int× Int) (v:Int× Int× Int× List Int) (next:(Int× Int× Int× List Int)->Option ρ) (x0:(Int× Int× List Int)->Option ρ):Option ρ:=
 cond (decide (v.1<p.1)) ((dg k p.2.1 v.2.1 v.2.2.1).bind λr32=>cond (Nat.ble (v.2.2.2.length+[r32.1].length) bJ) (next (i64.wrap (v.1+1),r32.2.1,r32.2.2,v.2.2.2++[r32.1])) none) (x0 (v.2.1,v.2.2.1,v.2.2.2))
def ba {ρ:Type} (k:Nat) (p:List Int× Int× Int× Int× Int× Int× Int× Int× Int× Int× Int× Int× Int× Int× Int× List Int) (v:Int× Int× Int× List Int) (next:(Int× Int× Int× List Int)->Option ρ) (x2:(Int× Int× List Int)->Option ρ):Option ρ:=
 cond (decide (v.1<p.2.2.2.2.2.2.2.2.2.1)) ((ae k p.1 v.2.1 v.2.2.1 (400:Int)).bind λr34=>cond (Nat.ble (v.2.2.2.length+[(i64.wrap (r34.1-200))].length) bJ) (next (i64.wrap (v.1+1),r34.2.1,r34.2.2,v.2.2.2++[(i64.wrap (r34.1-200))])) none) (x2 (v.2.1,v.2.2.1,v.2.2.2))
def dM (k:Nat) (aG:List Int) (mr:Int) (l4:Int) (a1:Shape):Option (al× Int× Int):=
 (aJ k aG mr l4 [(0:Int),(1:Int),(1:Int),(2:Int),(3:Int),(4:Int),(5:Int)]).bind λr1=>cond (r1.1==5) ((aT k a1).bind λr2=>cond (decide (r2>8)) ((bn k (4:Int) (1:Int) (3:Int)).bind λr3=>bej (λ(j12:Int->Int->Int->Int->Option _)=>cond (r3) (bej (λ(j4:Int->Option _)=>cond (decide (a1.h<3)) ((j4 a1.h)) ((j4 (3:Int)))) (λ(j4_0:Int)=>cond (decide (a1.w<j4_0)) ((ae k aG r1.2.1 r1.2.2 a1.w).bind λr8=>(ae k aG r8.2.1 r8.2.2 (2:Int)).bind λr9=>(j12 r9.2.1 r9.2.2 (i64.wrap ((1:Int)+r8.1)) (i64.wrap ((1:Int)+r9.1)))) ((ae k aG r1.2.1 r1.2.2 j4_0).bind λr10=>(ae k aG r10.2.1 r10.2.2 (2:Int)).bind λr11=>(j12 r11.2.1 r11.2.2 (i64.wrap ((1:Int)+r10.1)) (i64.wrap ((1:Int)+r11.1)))))) ((j12 r1.2.1 r1.2.2 (0:Int) (0:Int)))) (λ(j12_1:Int) (j12_2:Int) (j12_15:Int) (j12_16:Int)=>(ae k aG j12_1 j12_2 (20:Int)).bind λr13=>cond (decide (aG=aG)) (some ((⟨(4:Int),(0:Int),j12_15,j12_16,(0:Int),(0:Int),(i64.wrap (r13.1-10)),([]:List Int),([]:List Int)⟩:al),r13.2.1,r13.2.2)) none)) (cond (r1.1==0) ((aT k a1).bind λr14=>bej (λ(j15:Int->Option _)=>cond (decide (r14>64)) ((j15 (4:Int))) ((j15 r1.1))) (λ(j15_13:Int)=>(bn k j15_13 (1:Int) (3:Int)).bind λr16=>bej (λ(j25:Int->Int->Int->Int->Option _)=>cond (r16) (bej (λ(j17:Int->Option _)=>cond (decide (a1.h<3)) ((j17 a1.h)) ((j17 (3:Int)))) (λ(j17_0:Int)=>cond (decide (a1.w<j17_0)) ((ae k aG r1.2.1 r1.2.2 a1.w).bind λr21=>(ae k aG r21.2.1 r21.2.2 (2:Int)).bind λr22=>(j25 r22.2.1 r22.2.2 (i64.wrap ((1:Int)+r21.1)) (i64.wrap ((1:Int)+r22.1)))) ((ae k aG r1.2.1 r1.2.2 j17_0).bind λr23=>(ae k aG r23.2.1 r23.2.2 (2:Int)).bind λr24=>(j25 r24.2.1 r24.2.2 (i64.wrap ((1:Int)+r23.1)) (i64.wrap ((1:Int)+r24.1)))))) ((j25 r1.2.1 r1.2.2 (0:Int) (0:Int)))) (λ(j25_1:Int) (j25_2:Int) (j25_15:Int) (j25_16:Int)=>cond (decide (j15_13<=1)) ((ae k aG j25_1 j25_2 (3:Int)).bind λr26=>(ae k aG r26.2.1 r26.2.2 (16777216:Int)).bind λr27=>(ae k aG r27.2.1 r27.2.2 (10:Int)).bind λr28=>(ae k aG r28.2.1 r28.2.2 (9:Int)).bind λr29=>(aT k a1).bind λr30=>bej (λ(j31:Int->Option _)=>cond (j15_13==1) ((j31 (i64.wrap ((i64.wrap ((i64.wrap ((i64.wrap ((1:Int)+r26.1))*j25_15))*j25_15))*a1.c)))) ((j31 (i64.wrap ((i64.wrap ((1:Int)+r26.1))*r30))))) (λ(j31_0:Int)=>iter (λu37 n37=>aZ k (j31_0,aG,(0:Int),(0:Int),(0:Int),(0:Int),(0:Int),(0:Int),(0:Int),j15_13,i64.wrap ((1:Int)+r26.1),j25_15,j25_16,i64.wrap ((1073741824:Int)+(i64.wrap (r27.1*60))),r28.1,i64.wrap (r29.1-4)) u37 n37 (λy33=>iter (λu36 n36=>ba k (aG,(0:Int),(0:Int),(0:Int),(0:Int),(0:Int),(0:Int),(0:Int),j15_13,i64.wrap ((1:Int)+r26.1),j25_15,j25_16,i64.wrap ((1073741824:Int)+(i64.wrap (r27.1*60))),r28.1,i64.wrap (r29.1-4),y33.2.2) u36 n36 (λy35=>bej (λ(j39:Int->Int->Int->Option _)=>cond (j15_13==4) ((ae k aG y35.1 y35.2.1 (20:Int)).bind λr38=>(j39 (i64.wrap (r38.1-10)) r38.2.1 r38.2.2)) ((j39 (i64.wrap (r29.1-4)) y35.1 y35.2.1))) (λ(j39_13:Int) (j39_15:Int) (j39_16:Int)=>cond (decide (aG=aG)) (some ((⟨j15_13,(i64.wrap ((1:Int)+r26.1)),j25_15,j25_16,(i64.wrap ((1073741824:Int)+(i64.wrap (r27.1*60)))),r28.1,j39_13,y33.2.2,y35.2.2⟩:al),j39_15,j39_16)) none))) k ((0:Int),y33.1,y33.2.1,([]:List Int)))) k ((0:Int),r29.2.1,r29.2.2,([]:List Int)))) (cond (j15_13==4) ((ae k aG j25_1 j25_2 (20:Int)).bind λr40=>cond (decide (aG=aG)) (some ((⟨j15_13,(0:Int),j25_15,j25_16,(0:Int),(0:Int),(i64.wrap (r40.1-10)),([]:List Int),([]:List Int)⟩:al),r40.2.1,r40.2.2)) none) (cond (decide (aG=aG)) (some ((⟨j15_13,(0:Int),j25_15,j25_16,(0:Int),(0:Int),(0:Int),([]:List Int),([]:List Int)⟩:al),j25_1,j25_2)) none))))) ((bn k r1.1 (1:Int) (3:Int)).bind λr42=>bej (λ(j51:Int->Int->Int->Int->Option _)=>cond (r42) (bej (λ(j43:Int->Option _)=>cond (decide (a1.h<3)) ((j43 a1.h)) ((j43 (3:Int)))) (λ(j43_0:Int)=>cond (decide (a1.w<j43_0)) ((ae k aG r1.2.1 r1.2.2 a1.w).bind λr47=>(ae k aG r47.2.1 r47.2.2 (2:Int)).bind λr48=>(j51 r48.2.1 r48.2.2 (i64.wrap ((1:Int)+r47.1)) (i64.wrap ((1:Int)+r48.1)))) ((ae k aG r1.2.1 r1.2.2 j43_0).bind λr49=>(ae k aG r49.2.1 r49.2.2 (2:Int)).bind λr50=>(j51 r50.2.1 r50.2.2 (i64.wrap ((1:Int)+r49.1)) (i64.wrap ((1:Int)+r50.1)))))) ((j51 r1.2.1 r1.2.2 (0:Int) (0:Int)))) (λ(j51_1:Int) (j51_2:Int) (j51_15:Int) (j51_16:Int)=>cond (decide (r1.1<=1)) ((ae k aG j51_1 j51_2 (3:Int)).bind λr52=>(ae k aG r52.2.1 r52.2.2 (16777216:Int)).bind λr53=>(ae k aG r53.2.1 r53.2.2 (10:Int)).bind λr54=>(ae k aG r54.2.1 r54.2.2 (9:Int)).bind λr55=>(aT k a1).bind λr56=>bej (λ(j57:Int->Option _)=>cond (r1.1==1) ((j57 (i64.wrap ((i64.wrap ((i64.wrap ((i64.wrap ((1:Int)+r52.1))*j51_15))*j51_15))*a1.c)))) ((j57 (i64.wrap ((i64.wrap ((1:Int)+r52.1))*r56))))) (λ(j57_0:Int)=>iter (λu63 n63=>aZ k (j57_0,aG,(0:Int),(0:Int),(0:Int),(0:Int),(0:Int),(0:Int),(0:Int),r1.1,i64.wrap ((1:Int)+r52.1),j51_15,j51_16,i64.wrap ((1073741824:Int)+(i64.wrap (r53.1*60))),r54.1,i64.wrap (r55.1-4)) u63 n63 (λy59=>iter (λu62 n62=>ba k (aG,(0:Int),(0:Int),(0:Int),(0:Int),(0:Int),(0:Int),(0:Int),r1.1,i64.wrap ((1:Int)+r52.1),j51_15,j51_16,i64.wrap ((1073741824:Int)+(i64.wrap (r53.1*60))),r54.1,i64.wrap (r55.1-4),y59.2.2) u62 n62 (λy61=>bej (λ(j65:Int->Int->Int->Option _)=>cond (r1.1==4) ((ae k aG y61.1 y61.2.1 (20:Int)).bind λr64=>(j65 (i64.wrap (r64.1-10)) r64.2.1 r64.2.2)) ((j65 (i64.wrap (r55.1-4)) y61.1 y61.2.1))) (λ(j65_13:Int) (j65_15:Int) (j65_16:Int)=>cond (decide (aG=aG)) (some ((⟨r1.1,(i64.wrap ((1:Int)+r52.1)),j51_15,j51_16,(i64.wrap ((1073741824:Int)+(i64.wrap (r53.1*60)))),r54.1,j65_13,y59.2.2,y61.2.2⟩:al),j65_15,j65_16)) none))) k ((0:Int),y59.1,y59.2.1,([]:List Int)))) k ((0:Int),r55.2.1,r55.2.2,([]:List Int)))) (cond (r1.1==4) ((ae k aG j51_1 j51_2 (20:Int)).bind λr66=>cond (decide (aG=aG)) (some ((⟨r1.1,(0:Int),j51_15,j51_16,(0:Int),(0:Int),(i64.wrap (r66.1-10)),([]:List Int),([]:List Int)⟩:al),r66.2.1,r66.2.2)) none) (cond (decide (aG=aG)) (some ((⟨r1.1,(0:Int),j51_15,j51_16,(0:Int),(0:Int),(0:Int),([]:List Int),([]:List Int)⟩:al),j51_1,j51_2)) none)))))) (cond (r1.1==0) ((aT k a1).bind λr68=>bej (λ(j69:Int->Option _)=>cond (decide (r68>64)) ((j69 (4:Int))) ((j69 r1.1))) (λ(j69_13:Int)=>(bn k j69_13 (1:Int) (3:Int)).bind λr70=>bej (λ(j79:Int->Int->Int->Int->Option _)=>cond (r70) (bej (λ(j71:Int->Option _)=>cond (decide (a1.h<3)) ((j71 a1.h)) ((j71 (3:Int)))) (λ(j71_0:Int)=>cond (decide (a1.w<j71_0)) ((ae k aG r1.2.1 r1.2.2 a1.w).bind λr75=>(ae k aG r75.2.1 r75.2.2 (2:Int)).bind λr76=>(j79 r76.2.1 r76.2.2 (i64.wrap ((1:Int)+r75.1)) (i64.wrap ((1:Int)+r76.1)))) ((ae k aG r1.2.1 r1.2.2 j71_0).bind λr77=>(ae k aG r77.2.1 r77.2.2 (2:Int)).bind λr78=>(j79 r78.2.1 r78.2.2 (i64.wrap ((1:Int)+r77.1)) (i64.wrap ((1:Int)+r78.1)))))) ((j79 r1.2.1 r1.2.2 (0:Int) (0:Int)))) (λ(j79_1:Int) (j79_2:Int) (j79_15:Int) (j79_16:Int)=>cond (decide (j69_13<=1)) ((ae k aG j79_1 j79_2 (3:Int)).bind λr80=>(ae k aG r80.2.1 r80.2.2 (16777216:Int)).bind λr81=>(ae k aG r81.2.1 r81.2.2 (10:Int)).bind λr82=>(ae k aG r82.2.1 r82.2.2 (9:Int)).bind λr83=>(aT k a1).bind λr84=>bej (λ(j85:Int->Option _)=>cond (j69_13==1) ((j85 (i64.wrap ((i64.wrap ((i64.wrap ((i64.wrap ((1:Int)+r80.1))*j79_15))*j79_15))*a1.c)))) ((j85 (i64.wrap ((i64.wrap ((1:Int)+r80.1))*r84))))) (λ(j85_0:Int)=>iter (λu91 n91=>aZ k (j85_0,aG,(0:Int),(0:Int),(0:Int),(0:Int),(0:Int),(0:Int),(0:Int),j69_13,i64.wrap ((1:Int)+r80.1),j79_15,j79_16,i64.wrap ((1073741824:Int)+(i64.wrap (r81.1*60))),r82.1,i64.wrap (r83.1-4)) u91 n91 (λy87=>iter (λu90 n90=>ba k (aG,(0:Int),(0:Int),(0:Int),(0:Int),(0:Int),(0:Int),(0:Int),j69_13,i64.wrap ((1:Int)+r80.1),j79_15,j79_16,i64.wrap ((1073741824:Int)+(i64.wrap (r81.1*60))),r82.1,i64.wrap (r83.1-4),y87.2.2) u90 n90 (λy89=>bej (λ(j93:Int->Int->Int->Option _)=>cond (j69_13==4) ((ae k aG y89.1 y89.2.1 (20:Int)).bind λr92=>(j93 (i64.wrap (r92.1-10)) r92.2.1 r92.2.2)) ((j93 (i64.wrap (r83.1-4)) y89.1 y89.2.1))) (λ(j93_13:Int) (j93_15:Int) (j93_16:Int)=>cond (decide (aG=aG)) (some ((⟨j69_13,(i64.wrap ((1:Int)+r80.1)),j79_15,j79_16,(i64.wrap ((1073741824:Int)+(i64.wrap (r81.1*60)))),r82.1,j93_13,y87.2.2,y89.2.2⟩:al),j93_15,j93_16)) none))) k ((0:Int),y87.1,y87.2.1,([]:List Int)))) k ((0:Int),r83.2.1,r83.2.2,([]:List Int)))) (cond (j69_13==4) ((ae k aG j79_1 j79_2 (20:Int)).bind λr94=>cond (decide (aG=aG)) (some ((⟨j69_13,(0:Int),j79_15,j79_16,(0:Int),(0:Int),(i64.wrap (r94.1-10)),([]:List Int),([]:List Int)⟩:al),r94.2.1,r94.2.2)) none) (cond (decide (aG=aG)) (some ((⟨j69_13,(0:Int),j79_15,j79_16,(0:Int),(0:Int),(0:Int),([]:List Int),([]:List Int)⟩:al),j79_1,j79_2)) none))))) ((bn k r1.1 (1:Int) (3:Int)).bind λr96=>bej (λ(j105:Int->Int->Int->Int->Option _)=>cond (r96) (bej (λ(j97:Int->Option _)=>cond (decide (a1.h<3)) ((j97 a1.h)) ((j97 (3:Int)))) (λ(j97_0:Int)=>cond (decide (a1.w<j97_0)) ((ae k aG r1.2.1 r1.2.2 a1.w).bind λr101=>(ae k aG r101.2.1 r101.2.2 (2:Int)).bind λr102=>(j105 r102.2.1 r102.2.2 (i64.wrap ((1:Int)+r101.1)) (i64.wrap ((1:Int)+r102.1)))) ((ae k aG r1.2.1 r1.2.2 j97_0).bind λr103=>(ae k aG r103.2.1 r103.2.2 (2:Int)).bind λr104=>(j105 r104.2.1 r104.2.2 (i64.wrap ((1:Int)+r103.1)) (i64.wrap ((1:Int)+r104.1)))))) ((j105 r1.2.1 r1.2.2 (0:Int) (0:Int)))) (λ(j105_1:Int) (j105_2:Int) (j105_15:Int) (j105_16:Int)=>cond (decide (r1.1<=1)) ((ae k aG j105_1 j105_2 (3:Int)).bind λr106=>(ae k aG r106.2.1 r106.2.2 (16777216:Int)).bind λr107=>(ae k aG r107.2.1 r107.2.2 (10:Int)).bind λr108=>(ae k aG r108.2.1 r108.2.2 (9:Int)).bind λr109=>(aT k a1).bind λr110=>bej (λ(j111:Int->Option _)=>cond (r1.1==1) ((j111 (i64.wrap ((i64.wrap ((i64.wrap ((i64.wrap ((1:Int)+r106.1))*j105_15))*j105_15))*a1.c)))) ((j111 (i64.wrap ((i64.wrap ((1:Int)+r106.1))*r110))))) (λ(j111_0:Int)=>iter (λu117 n117=>aZ k (j111_0,aG,(0:Int),(0:Int),(0:Int),(0:Int),(0:Int),(0:Int),(0:Int),r1.1,i64.wrap ((1:Int)+r106.1),j105_15,j105_16,i64.wrap ((1073741824:Int)+(i64.wrap (r107.1*60))),r108.1,i64.wrap (r109.1-4)) u117 n117 (λy113=>iter (λu116 n116=>ba k (aG,(0:Int),(0:Int),(0:Int),(0:Int),(0:Int),(0:Int),(0:Int),r1.1,i64.wrap ((1:Int)+r106.1),j105_15,j105_16,i64.wrap ((1073741824:Int)+(i64.wrap (r107.1*60))),r108.1,i64.wrap (r109.1-4),y113.2.2) u116 n116 (λy115=>bej (λ(j119:Int->Int->Int->Option _)=>cond (r1.1==4) ((ae k aG y115.1 y115.2.1 (20:Int)).bind λr118=>(j119 (i64.wrap (r118.1-10)) r118.2.1 r118.2.2)) ((j119 (i64.wrap (r109.1-4)) y115.1 y115.2.1))) (λ(j119_13:Int) (j119_15:Int) (j119_16:Int)=>cond (decide (aG=aG)) (some ((⟨r1.1,(i64.wrap ((1:Int)+r106.1)),j105_15,j105_16,(i64.wrap ((1073741824:Int)+(i64.wrap (r107.1*60)))),r108.1,j119_13,y113.2.2,y115.2.2⟩:al),j119_15,j119_16)) none))) k ((0:Int),y113.1,y113.2.1,([]:List Int)))) k ((0:Int),r109.2.1,r109.2.2,([]:List Int)))) (cond (r1.1==4) ((ae k aG j105_1 j105_2 (20:Int)).bind λr120=>cond (decide (aG=aG)) (some ((⟨r1.1,(0:Int),j105_15,j105_16,(0:Int),(0:Int),(i64.wrap (r120.1-10)),([]:List Int),([]:List Int)⟩:al),r120.2.1,r120.2.2)) none) (cond (decide (aG=aG)) (some ((⟨r1.1,(0:Int),j105_15,j105_16,(0:Int),(0:Int),(0:Int),([]:List Int),([]:List Int)⟩:al),j105_1,j105_2)) none)))))
def eM {ρ:Type} (k:Nat) (p:Int× List Int× Int× Int× Int× Int× Int× Int) (v:Int× Int× Int× Int× Int× Int× List al) (next:(Int× Int× Int× Int× Int× Int× List al)->Option ρ) (x0:(Int× Int× List al)->Option ρ):Option ρ:=
 cond (decide (v.1<p.1)) ((dM k p.2.1 v.2.1 v.2.2.1 (⟨v.2.2.2.1,v.2.2.2.2.1,v.2.2.2.2.2.1⟩:Shape)).bind λr1=>(fl k (⟨v.2.2.2.1,v.2.2.2.2.1,v.2.2.2.2.2.1⟩:Shape) r1.1).bind λr2=>cond (!r2.2) (x0 (r1.2.1,r1.2.2,v.2.2.2.2.2.2)) (cond (Nat.ble (v.2.2.2.2.2.2.length+1) bJ) (next (i64.wrap (v.1+1),r1.2.1,r1.2.2,r2.1.h,r2.1.w,r2.1.c,v.2.2.2.2.2.2++[r1.1])) none)) (x0 (v.2.1,v.2.2.1,v.2.2.2.2.2.2))
def eN (k:Nat) (aG:List Int) (mr:Int) (l4:Int) (a1:Shape) (a2:Int):Option (Model× Int× Int):=
 iter (λu4 n4=>eM k (a2,aG,(0:Int),(0:Int),(0:Int),a1.h,a1.w,a1.c) u4 n4 (λy3=>cond (decide (aG=aG)) (some ((⟨a1,y3.2.2⟩:Model),y3.1,y3.2.1)) none)) k ((0:Int),mr,l4,a1.h,a1.w,a1.c,([]:List al))
def dN (k:Nat) (aG:List Int) (mr:Int) (l4:Int):Option (Model× Int× Int):=
 (cF k aG mr l4 (4:Int)).bind λr1=>(ae k aG r1.2.1 r1.2.2 (4:Int)).bind λr2=>(eN k aG r2.2.1 r2.2.2 r1.1 (i64.wrap ((1:Int)+r2.1))).bind λr3=>cond (decide (aG=aG)) (some (r3.1,r3.2.1,r3.2.2)) none
def iI (k:Nat) (aG:List Int) (mr:Int) (l4:Int) (a1:al):Option (al× Int× Int):=
 (ae k aG mr l4 (9:Int)).bind λr1=>cond (r1.1==0) ((aJ k aG r1.2.1 r1.2.2 [(-1:Int),(0:Int),(2:Int),(5:Int),(6:Int)]).bind λr2=>cond (decide (aG=aG)) (some ((⟨r2.1,a1.out,a1.size,a1.step,a1.mult,a1.shift,a1.zero,a1.weights,a1.gI⟩:al),r2.2.1,r2.2.2)) none) (cond (r1.1==1) ((aJ k aG r1.2.1 r1.2.2 [(0:Int),(8:Int),(9:Int)]).bind λr3=>cond (decide (aG=aG)) (some ((⟨a1.kind,r3.1,a1.size,a1.step,a1.mult,a1.shift,a1.zero,a1.weights,a1.gI⟩:al),r3.2.1,r3.2.2)) none) (cond (r1.1==2) ((aJ k aG r1.2.1 r1.2.2 [(0:Int),(3:Int),(4:Int)]).bind λr4=>cond (decide (aG=aG)) (some ((⟨a1.kind,a1.out,r4.1,a1.step,a1.mult,a1.shift,a1.zero,a1.weights,a1.gI⟩:al),r4.2.1,r4.2.2)) none) (cond (r1.1==3) ((aJ k aG r1.2.1 r1.2.2 [(0:Int),(2:Int),(3:Int)]).bind λr5=>cond (decide (aG=aG)) (some ((⟨a1.kind,a1.out,a1.size,r5.1,a1.mult,a1.shift,a1.zero,a1.weights,a1.gI⟩:al),r5.2.1,r5.2.2)) none) (cond (r1.1==4) ((aJ k aG r1.2.1 r1.2.2 [(-1:Int),(2147483647:Int),(2147483648:Int)]).bind λr6=>cond (decide (aG=aG)) (some ((⟨a1.kind,a1.out,a1.size,a1.step,r6.1,a1.shift,a1.zero,a1.weights,a1.gI⟩:al),r6.2.1,r6.2.2)) none) (cond (r1.1==5) ((aJ k aG r1.2.1 r1.2.2 [(-1:Int),(31:Int),(32:Int)]).bind λr7=>cond (decide (aG=aG)) (some ((⟨a1.kind,a1.out,a1.size,a1.step,a1.mult,r7.1,a1.zero,a1.weights,a1.gI⟩:al),r7.2.1,r7.2.2)) none) (cond (r1.1==6) ((aJ k aG r1.2.1 r1.2.2 [(-128:Int),(-129:Int),(127:Int),(128:Int)]).bind λr8=>cond (decide (aG=aG)) (some ((⟨a1.kind,a1.out,a1.size,a1.step,a1.mult,a1.shift,r8.1,a1.weights,a1.gI⟩:al),r8.2.1,r8.2.2)) none) (cond (r1.1==7) ((aJ k aG r1.2.1 r1.2.2 [(0:Int),(128:Int)]).bind λr9=>cond (Nat.ble (a1.weights.length+[r9.1].length) bJ) (cond (decide (aG=aG)) (some ((⟨a1.kind,a1.out,a1.size,a1.step,a1.mult,a1.shift,a1.zero,(a1.weights++[r9.1]),a1.gI⟩:al),r9.2.1,r9.2.2)) none) none) (cond (r1.1==8) ((aJ k aG r1.2.1 r1.2.2 [(0:Int),(1000001:Int)]).bind λr10=>cond (Nat.ble (a1.gI.length+[r10.1].length) bJ) (cond (decide (aG=aG)) (some ((⟨a1.kind,a1.out,a1.size,a1.step,a1.mult,a1.shift,a1.zero,a1.weights,(a1.gI++[r10.1])⟩:al),r10.2.1,r10.2.2)) none) none) (cond (decide (aG=aG)) (some (a1,r1.2.1,r1.2.2)) none)))))))))
def dY {ρ:Type} (k:Nat) (p:List Int× Int× Int× Int× Int× Int× Int) (v:Int× Int× List al) (next:(Int× Int× List al)->Option ρ) (x1:(Int× Int× List al)->Option ρ):Option ρ:=
 (ae k p.1 v.1 v.2.1 (2:Int)).bind λr9=>cond (decide ((v.2.2.length:Int)<(i64.wrap ((6:Int)+r9.1)))) (cond (Nat.ble (v.2.2.length+1) bJ) (next (r9.2.1,r9.2.2,v.2.2++[(⟨(4:Int),(0:Int),(0:Int),(0:Int),(0:Int),(0:Int),(0:Int),([]:List Int),([]:List Int)⟩:al)])) none) (x1 (r9.2.1,r9.2.2,v.2.2))
def dO (k:Nat) (aG:List Int) (mr:Int) (l4:Int):Option (Model× Int× Int):=
 (dN k aG mr l4).bind λr1=>(cz k aG r1.2.1 r1.2.2 (10:Int)).bind λr2=>cond (r2.1) (cond (decide ((r1.1.ai.length:Int)>(0:Int))) ((ae k aG r2.2.1 r2.2.2 (4:Int)).bind λr3=>cond (r3.1==0) ((aJ k aG r3.2.1 r3.2.2 [(0:Int),(9:Int),(i64.wrap (r1.1.inp.c+1))]).bind λr4=>cond (decide (aG=aG)) (some ((⟨(⟨r1.1.inp.h,r1.1.inp.w,r4.1⟩:Shape),r1.1.ai⟩:Model),r4.2.1,r4.2.2)) none) (cond (r3.1==1) ((ae k aG r3.2.1 r3.2.2 (r1.1.ai.length:Int)).bind λr5=>cond (decide (0<=r5.1/\r5.1<(r1.1.ai.length:Int))) ((r1.1.ai[r5.1.toNat]?).bind λe6=>(iI k aG r5.2.1 r5.2.2 e6).bind λr7=>cond (decide (0<=r5.1/\r5.1<((vw r1.1.ai r5.1.toNat).length:Int))) ((nq ((vw r1.1.ai r5.1.toNat).set r5.1.toNat (some r7.1))).bind λz8=>cond (decide (aG=aG)) (some ((⟨r1.1.inp,z8⟩:Model),r7.2.1,r7.2.2)) none) none) none) (cond (r3.1==2) (cond (decide (aG=aG)) (some ((⟨r1.1.inp,([]:List al)⟩:Model),r3.2.1,r3.2.2)) none) (cond (r3.1==3) (iter (λu11 n11=>dY k (aG,(0:Int),(0:Int),(0:Int),r1.1.inp.h,r1.1.inp.w,r1.1.inp.c) u11 n11 (λy10=>cond (decide (aG=aG)) (some ((⟨r1.1.inp,y10.2.2⟩:Model),y10.1,y10.2.1)) none)) k (r3.2.1,r3.2.2,r1.1.ai)) (cond (decide (aG=aG)) (some (r1.1,r3.2.1,r3.2.2)) none))))) (cond (decide (aG=aG)) (some (r1.1,r2.2.1,r2.2.2)) none)) (cond (decide (aG=aG)) (some (r1.1,r2.2.1,r2.2.2)) none)
def dz {ρ:Type} (k:Nat) (p:List Int× Int× Int× Int× Int× Int× Int× Int× Int× Int) (v:Int× Int× Int× List Int) (next:(Int× Int× Int× List Int)->Option ρ) (x0:(Int× Int× List Int)->Option ρ):Option ρ:=
 (aT k (⟨p.2.1,p.2.2.1,p.2.2.2.1⟩:Shape)).bind λr1=>cond (decide (v.1<r1)) ((dg k p.1 v.2.1 v.2.2.1).bind λr2=>cond (Nat.ble (v.2.2.2.length+[r2.1].length) bJ) (next (i64.wrap (v.1+1),r2.2.1,r2.2.2,v.2.2.2++[r2.1])) none) (x0 (v.2.1,v.2.2.1,v.2.2.2))
def bd (k:Nat) (aG:List Int) (mr:Int) (l4:Int) (a1:Shape):Option (ab× Int× Int):=
 iter (λu4 n4=>dz k (aG,a1.h,a1.w,a1.c,(0:Int),(0:Int),(0:Int),a1.h,a1.w,a1.c) u4 n4 (λy3=>cond (decide (aG=aG)) (some ((⟨a1,y3.2.2⟩:ab),y3.1,y3.2.1)) none)) k ((0:Int),mr,l4,([]:List Int))
def cG (k:Nat) (aG:List Int) (mr:Int) (l4:Int):Option (ab× Int× Int):=
 (cF k aG mr l4 (4:Int)).bind λr1=>(bd k aG r1.2.1 r1.2.2 r1.1).bind λr2=>(cz k aG r2.2.1 r2.2.2 (8:Int)).bind λr3=>cond (r3.1) ((ae k aG r3.2.1 r3.2.2 (4:Int)).bind λr4=>cond (r4.1==0) ((aJ k aG r4.2.1 r4.2.2 [(0:Int),(8:Int),(9:Int)]).bind λr5=>cond (decide (aG=aG)) (some ((⟨(⟨r5.1,r2.1.sh.w,r2.1.sh.c⟩:Shape),r2.1.data⟩:ab),r5.2.1,r5.2.2)) none) (cond (r4.1==1) (cond (Nat.ble (r2.1.data.length+[(0:Int)].length) bJ) (cond (decide (aG=aG)) (some ((⟨r2.1.sh,(r2.1.data++[(0:Int)])⟩:ab),r4.2.1,r4.2.2)) none) none) (cond (r4.1==2) ((ae k aG r4.2.1 r4.2.2 (r2.1.data.length:Int)).bind λr6=>(aJ k aG r6.2.1 r6.2.2 [(128:Int),(-129:Int)]).bind λr7=>cond (decide (0<=r6.1/\r6.1<(r2.1.data.length:Int))) (cond (decide (aG=aG)) (some ((⟨r2.1.sh,(r2.1.data.set r6.1.toNat r7.1)⟩:ab),r7.2.1,r7.2.2)) none) none) (cond (r4.1==3) ((bd k aG r4.2.1 r4.2.2 (⟨(8:Int),(8:Int),(8:Int)⟩:Shape)).bind λr8=>cond (decide (aG=aG)) (some (r8.1,r8.2.1,r8.2.2)) none) (cond (decide (aG=aG)) (some (r2.1,r4.2.1,r4.2.2)) none))))) (cond (decide (aG=aG)) (some (r2.1,r3.2.1,r3.2.2)) none)
def fR (k:Nat) (a0:ab) (a1:ab):Option (Bool):=
 (du k a0).bind λr1=>cond (r1) ((gg k a0 a1).bind λr2=>some r2) (some false)
end
end
set_option maxRecDepth 100000
set_option maxHeartbeats 4000000
section
noncomputable section
def ly (k:Nat) (a0:Int):Option (Int):=
 some a0
def rv (k:Nat) (a0:Int) (a1:Int) (IB:List Int):Option (Int):=
 (idx IB a0).bind λe1=>(ly k e1).bind λr2=>(idx IB a1).bind λe3=>(ly k e3).bind λr4=>(lx k r2 r4).bind λr5=>cond (decide (IB=IB)) (some r5) none
end
end
set_option maxRecDepth 100000
set_option maxHeartbeats 4000000
section
noncomputable section
def pV (k:Nat) (a0:B8) (a1:B8):Option (Int):=
 (lx k a0.due a1.due).bind λr1=>some r1
end
end
set_option maxRecDepth 100000
set_option maxHeartbeats 4000000
section
noncomputable section
def uV {ρ:Type} (k:Nat) (p:List Int) (v:Int× List Int) (next:(Int× List Int)->Option ρ) (x0:(List Int)->Option ρ):Option ρ:=
 cond (decide (v.1<(p.length:Int))) (cond (decide (v.1<3000)) ((idx p v.1).bind λe1=>cond (Nat.ble (v.2.length+[e1].length) bJ) (next (i64.wrap (v.1+1),v.2++[e1])) none) (x0 v.2)) (x0 v.2)
def zo (k:Nat) (a0:List Int) (a1:Int):Option (List Int):=
 iter (λu3 n3=>uV k a0 u3 n3 (λy2=>some y2)) k ((0:Int),[(u8.wrap (a1))])
end
end
set_option maxRecDepth 100000
set_option maxHeartbeats 4000000
section
noncomputable section
def rowAt (x:ab) (i:Nat):List Int:=(x.data.drop i).take x.sh.c.toNat
def partAt (x:ab) (i:Nat):ab:=⟨⟨1,1,x.sh.c⟩,rowAt x i⟩
def ko (k:Nat) (x:ab):Bool:=decide (1<=x.sh.c)&&(decide (x.data.length=x.sh.h.toNat*x.sh.c.toNat)&&(decide (1<=x.data.length)&&(decide (x.data.length<=2000000)&&(List.range (x.data.length+1)).all λi=>bw k (rowAt x i)==some (rowAt x i))))
def dh (k:Nat) (x:ab):Option (List ab× Bool):=
 (du k x).bind λr=>cond (!r) (some ([],false)) (cond (x.sh.w !=1) (some ([],false)) (cond (ko k x) (some ((List.range x.sh.h.toNat).map (λj=>partAt x (j*x.sh.c.toNat)),true)) none))
end
end
set_option maxRecDepth 100000
set_option maxHeartbeats 4000000
section
noncomputable section
def cQ {ρ:Type} (k:Nat) (p:List Int× Int× Int× Int) (v:Int× Int× Int× List ab) (next:(Int× Int× Int× List ab)->Option ρ) (x0:(Int× Int× List ab)->Option ρ):Option ρ:=
 cond (decide (v.1>0)) ((bd k p.1 v.2.1 v.2.2.1 (⟨p.2.1,p.2.2.1,p.2.2.2⟩:Shape)).bind λr3=>cond (Nat.ble (v.2.2.2.length+1) bJ) (next (i64.wrap (v.1-1),r3.2.1,r3.2.2,v.2.2.2++[r3.1])) none) (x0 (v.2.1,v.2.2.1,v.2.2.2))
def b9 {ρ:Type} (k:Nat) (p:List Int× Int× Int× Int) (v:Int× Int× List ab) (next:(Int× Int× List ab)->Option ρ) (x2:(List ab× Int× Int)->Option ρ):Option ρ:=
 (ae k p.1 v.1 v.2.1 (2:Int)).bind λr8=>cond (decide ((v.2.2.length:Int)<(i64.wrap ((8:Int)+r8.1)))) ((bd k p.1 r8.2.1 r8.2.2 (⟨p.2.1,p.2.2.1,p.2.2.2⟩:Shape)).bind λr9=>cond (Nat.ble (v.2.2.length+1) bJ) (next (r9.2.1,r9.2.2,v.2.2++[r9.1])) none) (x2 (v.2.2,r8.2.1,r8.2.2))
def gW (k:Nat) (aG:List Int) (mr:Int) (l4:Int):Option (List ab× Int× Int):=
 (ae k aG mr l4 (5:Int)).bind λr1=>(ae k aG r1.2.1 r1.2.2 (6:Int)).bind λr2=>iter (λu17 n17=>cQ k (aG,(1:Int),(1:Int),i64.wrap ((1:Int)+r1.1)) u17 n17 (λy4=>(cz k aG y4.1 y4.2.1 (10:Int)).bind λr5=>cond (r5.1) ((cG k aG r5.2.1 r5.2.2).bind λr6=>cond (Nat.ble (y4.2.2.length+1) bJ) ((cz k aG r6.2.1 r6.2.2 (15:Int)).bind λr7=>cond (r7.1) (iter (λu11 n11=>b9 k (aG,(1:Int),(1:Int),i64.wrap ((1:Int)+r1.1)) u11 n11 (λy10=>cond (decide (aG=aG)) (some (y10.1,y10.2.1,y10.2.2)) none)) k (r7.2.1,r7.2.2,y4.2.2++[r6.1])) (cond (decide (aG=aG)) (some (y4.2.2++[r6.1],r7.2.1,r7.2.2)) none)) none) ((cz k aG r5.2.1 r5.2.2 (15:Int)).bind λr12=>cond (r12.1) (iter (λu16 n16=>b9 k (aG,(1:Int),(1:Int),i64.wrap ((1:Int)+r1.1)) u16 n16 (λy15=>cond (decide (aG=aG)) (some (y15.1,y15.2.1,y15.2.2)) none)) k (r12.2.1,r12.2.2,y4.2.2)) (cond (decide (aG=aG)) (some (y4.2.2,r12.2.1,r12.2.2)) none)))) k (r2.1,r2.2.1,r2.2.2,([]:List ab))
def eO (k:Nat) (a0:List Int):Option (List ab):=
 (jz k a0).bind λr1=>(gW k a0 r1.1 r1.2).bind λr2=>some r2.1
def ao {ρ:Type} (k:Nat) (p:List ab× List ab× Int) (v:Int) (next:Int->Option ρ) (x0:Unit->Option ρ) (mf:Bool->Option ρ):Option ρ:=
 cond (decide (v<p.2.2)) ((idx p.2.1 v).bind λe1=>(idx p.1 v).bind λe2=>(fR k e1 e2).bind λr3=>cond (!r3) (mf false) (next (i64.wrap (v+1)))) (x0 ())
def ax (k:Nat) (a0:List ab) (a1:List ab):Option (Bool):=
 cond ((a0.length:Int) !=(a1.length:Int)) (some false) (iter (λu6 n6=>ao k (a1,a0,(a0.length:Int)) u6 n6 (λy4=>some true) (λy5=>some y5)) k (0:Int))
def bI (k:Nat) (a0:List ab) (a1:List ab):Option (Bool):=
 (ax k a0 a1).bind λr1=>some r1
def eP {ρ:Type} (k:Nat) (p:Int× Int× Int× List Int× Int× Int× Int× List al) (v:Int× Int× Int× List ab) (next:(Int× Int× Int× List ab)->Option ρ) (x0:(Int× Int× List ab)->Option ρ):Option ρ:=
 cond (decide (v.1>0)) ((bd k p.2.2.2.1 v.2.1 v.2.2.1 (⟨p.2.2.2.2.1,p.2.2.2.2.2.1,p.2.2.2.2.2.2.1⟩:Shape)).bind λr4=>cond (Nat.ble (v.2.2.2.length+1) bJ) (next (i64.wrap (v.1-1),r4.2.1,r4.2.2,v.2.2.2++[r4.1])) none) (x0 (v.2.1,v.2.2.1,v.2.2.2))
def bU (k:Nat) (a0:List Int):Option (Model× List ab):=
 (jz k a0).bind λr1=>(dO k a0 r1.1 r1.2).bind λr2=>(ae k a0 r2.2.1 r2.2.2 (4:Int)).bind λr3=>iter (λu8 n8=>eP k ((0:Int),(0:Int),(0:Int),a0,r2.1.inp.h,r2.1.inp.w,r2.1.inp.c,r2.1.ai) u8 n8 (λy5=>(cz k a0 y5.1 y5.2.1 (10:Int)).bind λr6=>cond (r6.1) ((cG k a0 r6.2.1 r6.2.2).bind λr7=>cond (Nat.ble (y5.2.2.length+1) bJ) (some (r2.1,y5.2.2++[r7.1])) none) (some (r2.1,y5.2.2)))) k (r3.1,r3.2.1,r3.2.2,([]:List ab))
def gX (k:Nat) (a0:List Int):Option (Bool):=
 (G8 k a0).bind λr1=>cond (r1) (some true) ((eO k a0).bind λr2=>(ke k r2).bind λr3=>(kf k r2).bind λr4=>cond (!(r4.2==r3.2)) (some false) (cond (r4.2) ((fR k r4.1 r3.1).bind λr5=>cond (!r5) (some false) (cond (r3.2) ((dh k r4.1).bind λr6=>cond (!r6.2) (some false) ((bI k r6.1 r2).bind λr7=>cond (!r7) (some false) ((zo k a0 (1:Int)).bind λr8=>(bU k r8).bind λr9=>(dW k r9.1 r9.2).bind λr10=>(dV k r9.1 r9.2).bind λr11=>cond (!(r10.2==r11.2)) (some false) (cond (r10.2) ((bI k r10.1 r11.1).bind λr12=>cond (!r12) (some false) ((bM k r9.1 (r9.2.length:Int)).bind λr13=>(de k r9.1 [(r9.2.length:Int)]).bind λr14=>(bL k r9.1 (r9.2.length:Int)).bind λr15=>cond (r13 !=r15) (some false) ((dd k r9.1 [(r9.2.length:Int)]).bind λr16=>cond (r14 !=r16) (some false) (cond (decide (r13<0)) (cond (r14==(-1:Int)) (some true) (cond (decide (r13>=0)) ((au k r9.1).bind λr17=>cond (decide (r13<=(i64.wrap ((r9.2.length:Int)*r17)))) ((au k r9.1).bind λr18=>some (r14==(i64.wrap ((i64.wrap ((r9.2.length:Int)*r18))-r13)))) (some false)) (some false))) (cond (decide (r13>=0)) ((au k r9.1).bind λr19=>cond (decide (r13<=(i64.wrap ((r9.2.length:Int)*r19)))) ((au k r9.1).bind λr20=>some (r14==(i64.wrap ((i64.wrap ((r9.2.length:Int)*r20))-r13)))) (some false)) (some false)))))) ((bM k r9.1 (r9.2.length:Int)).bind λr21=>(de k r9.1 [(r9.2.length:Int)]).bind λr22=>(bL k r9.1 (r9.2.length:Int)).bind λr23=>cond (r21 !=r23) (some false) ((dd k r9.1 [(r9.2.length:Int)]).bind λr24=>cond (r22 !=r24) (some false) (cond (decide (r21<0)) (cond (r22==(-1:Int)) (some true) (cond (decide (r21>=0)) ((au k r9.1).bind λr25=>cond (decide (r21<=(i64.wrap ((r9.2.length:Int)*r25)))) ((au k r9.1).bind λr26=>some (r22==(i64.wrap ((i64.wrap ((r9.2.length:Int)*r26))-r21)))) (some false)) (some false))) (cond (decide (r21>=0)) ((au k r9.1).bind λr27=>cond (decide (r21<=(i64.wrap ((r9.2.length:Int)*r27)))) ((au k r9.1).bind λr28=>some (r22==(i64.wrap ((i64.wrap ((r9.2.length:Int)*r28))-r21)))) (some false)) (some false))))))))) ((zo k a0 (1:Int)).bind λr29=>(bU k r29).bind λr30=>(dW k r30.1 r30.2).bind λr31=>(dV k r30.1 r30.2).bind λr32=>cond (!(r31.2==r32.2)) (some false) (cond (r31.2) ((bI k r31.1 r32.1).bind λr33=>cond (!r33) (some false) ((bM k r30.1 (r30.2.length:Int)).bind λr34=>(de k r30.1 [(r30.2.length:Int)]).bind λr35=>(bL k r30.1 (r30.2.length:Int)).bind λr36=>cond (r34 !=r36) (some false) ((dd k r30.1 [(r30.2.length:Int)]).bind λr37=>cond (r35 !=r37) (some false) (cond (decide (r34<0)) (cond (r35==(-1:Int)) (some true) (cond (decide (r34>=0)) ((au k r30.1).bind λr38=>cond (decide (r34<=(i64.wrap ((r30.2.length:Int)*r38)))) ((au k r30.1).bind λr39=>some (r35==(i64.wrap ((i64.wrap ((r30.2.length:Int)*r39))-r34)))) (some false)) (some false))) (cond (decide (r34>=0)) ((au k r30.1).bind λr40=>cond (decide (r34<=(i64.wrap ((r30.2.length:Int)*r40)))) ((au k r30.1).bind λr41=>some (r35==(i64.wrap ((i64.wrap ((r30.2.length:Int)*r41))-r34)))) (some false)) (some false)))))) ((bM k r30.1 (r30.2.length:Int)).bind λr42=>(de k r30.1 [(r30.2.length:Int)]).bind λr43=>(bL k r30.1 (r30.2.length:Int)).bind λr44=>cond (r42 !=r44) (some false) ((dd k r30.1 [(r30.2.length:Int)]).bind λr45=>cond (r43 !=r45) (some false) (cond (decide (r42<0)) (cond (r43==(-1:Int)) (some true) (cond (decide (r42>=0)) ((au k r30.1).bind λr46=>cond (decide (r42<=(i64.wrap ((r30.2.length:Int)*r46)))) ((au k r30.1).bind λr47=>some (r43==(i64.wrap ((i64.wrap ((r30.2.length:Int)*r47))-r42)))) (some false)) (some false))) (cond (decide (r42>=0)) ((au k r30.1).bind λr48=>cond (decide (r42<=(i64.wrap ((r30.2.length:Int)*r48)))) ((au k r30.1).bind λr49=>some (r43==(i64.wrap ((i64.wrap ((r30.2.length:Int)*r49))-r42)))) (some false)) (some false))))))))) (cond (r3.2) ((dh k r4.1).bind λr50=>cond (!r50.2) (some false) ((bI k r50.1 r2).bind λr51=>cond (!r51) (some false) ((zo k a0 (1:Int)).bind λr52=>(bU k r52).bind λr53=>(dW k r53.1 r53.2).bind λr54=>(dV k r53.1 r53.2).bind λr55=>cond (!(r54.2==r55.2)) (some false) (cond (r54.2) ((bI k r54.1 r55.1).bind λr56=>cond (!r56) (some false) ((bM k r53.1 (r53.2.length:Int)).bind λr57=>(de k r53.1 [(r53.2.length:Int)]).bind λr58=>(bL k r53.1 (r53.2.length:Int)).bind λr59=>cond (r57 !=r59) (some false) ((dd k r53.1 [(r53.2.length:Int)]).bind λr60=>cond (r58 !=r60) (some false) (cond (decide (r57<0)) (cond (r58==(-1:Int)) (some true) (cond (decide (r57>=0)) ((au k r53.1).bind λr61=>cond (decide (r57<=(i64.wrap ((r53.2.length:Int)*r61)))) ((au k r53.1).bind λr62=>some (r58==(i64.wrap ((i64.wrap ((r53.2.length:Int)*r62))-r57)))) (some false)) (some false))) (cond (decide (r57>=0)) ((au k r53.1).bind λr63=>cond (decide (r57<=(i64.wrap ((r53.2.length:Int)*r63)))) ((au k r53.1).bind λr64=>some (r58==(i64.wrap ((i64.wrap ((r53.2.length:Int)*r64))-r57)))) (some false)) (some false)))))) ((bM k r53.1 (r53.2.length:Int)).bind λr65=>(de k r53.1 [(r53.2.length:Int)]).bind λr66=>(bL k r53.1 (r53.2.length:Int)).bind λr67=>cond (r65 !=r67) (some false) ((dd k r53.1 [(r53.2.length:Int)]).bind λr68=>cond (r66 !=r68) (some false) (cond (decide (r65<0)) (cond (r66==(-1:Int)) (some true) (cond (decide (r65>=0)) ((au k r53.1).bind λr69=>cond (decide (r65<=(i64.wrap ((r53.2.length:Int)*r69)))) ((au k r53.1).bind λr70=>some (r66==(i64.wrap ((i64.wrap ((r53.2.length:Int)*r70))-r65)))) (some false)) (some false))) (cond (decide (r65>=0)) ((au k r53.1).bind λr71=>cond (decide (r65<=(i64.wrap ((r53.2.length:Int)*r71)))) ((au k r53.1).bind λr72=>some (r66==(i64.wrap ((i64.wrap ((r53.2.length:Int)*r72))-r65)))) (some false)) (some false))))))))) ((zo k a0 (1:Int)).bind λr73=>(bU k r73).bind λr74=>(dW k r74.1 r74.2).bind λr75=>(dV k r74.1 r74.2).bind λr76=>cond (!(r75.2==r76.2)) (some false) (cond (r75.2) ((bI k r75.1 r76.1).bind λr77=>cond (!r77) (some false) ((bM k r74.1 (r74.2.length:Int)).bind λr78=>(de k r74.1 [(r74.2.length:Int)]).bind λr79=>(bL k r74.1 (r74.2.length:Int)).bind λr80=>cond (r78 !=r80) (some false) ((dd k r74.1 [(r74.2.length:Int)]).bind λr81=>cond (r79 !=r81) (some false) (cond (decide (r78<0)) (cond (r79==(-1:Int)) (some true) (cond (decide (r78>=0)) ((au k r74.1).bind λr82=>cond (decide (r78<=(i64.wrap ((r74.2.length:Int)*r82)))) ((au k r74.1).bind λr83=>some (r79==(i64.wrap ((i64.wrap ((r74.2.length:Int)*r83))-r78)))) (some false)) (some false))) (cond (decide (r78>=0)) ((au k r74.1).bind λr84=>cond (decide (r78<=(i64.wrap ((r74.2.length:Int)*r84)))) ((au k r74.1).bind λr85=>some (r79==(i64.wrap ((i64.wrap ((r74.2.length:Int)*r85))-r78)))) (some false)) (some false)))))) ((bM k r74.1 (r74.2.length:Int)).bind λr86=>(de k r74.1 [(r74.2.length:Int)]).bind λr87=>(bL k r74.1 (r74.2.length:Int)).bind λr88=>cond (r86 !=r88) (some false) ((dd k r74.1 [(r74.2.length:Int)]).bind λr89=>cond (r87 !=r89) (some false) (cond (decide (r86<0)) (cond (r87==(-1:Int)) (some true) (cond (decide (r86>=0)) ((au k r74.1).bind λr90=>cond (decide (r86<=(i64.wrap ((r74.2.length:Int)*r90)))) ((au k r74.1).bind λr91=>some (r87==(i64.wrap ((i64.wrap ((r74.2.length:Int)*r91))-r86)))) (some false)) (some false))) (cond (decide (r86>=0)) ((au k r74.1).bind λr92=>cond (decide (r86<=(i64.wrap ((r74.2.length:Int)*r92)))) ((au k r74.1).bind λr93=>some (r87==(i64.wrap ((i64.wrap ((r74.2.length:Int)*r93))-r86)))) (some false)) (some false))))))))))
end
end
set_option maxRecDepth 100000
section
noncomputable section
end
end
set_option maxRecDepth 100000
set_option maxHeartbeats 4000000
section
noncomputable section
end
end
set_option maxRecDepth 100000
set_option maxHeartbeats 4000000
section
noncomputable section
end
end
set_option maxRecDepth 100000
set_option maxHeartbeats 4000000
section
open Go Go.RowKit Go.Shelf
noncomputable section
variable [Tok]
attribute [local go_sem] Oper.semAt_some
theorem chunk_calls (a:Option Addr) (n cap:Nat) (c:Int) (hc:1<=c) (w:World):Calls Tryz.prog 27 #[.slice a n cap,.int .i64 c] w λe w'=>
  e=.returned (.func (.func 49) #[] #[.pointer (some ⟨w.heap.size,0,none⟩),.pointer (some ⟨w.heap.size+1,0,none⟩)])/\w'=(w.alloc (.cells #[.slice a n cap] 28)).alloc (.cells #[.int .i64 c] 3):=by
 go_enter Tryz.func27,Tryz.ntmps27
 go_wp2
 go_ret
 exact⟨rfl,rfl⟩
def EqC (j k c:Nat):Prop:=j=k*c
def KpC (Bs os Bn on:Nat) (W W':World):Prop:=∀B o v,((B=Bs/\o=os)\/(B=Bn/\o=on))->W.cell? ⟨B,o,none⟩=some v->W'.cell? ⟨B,o,none⟩=some v
theorem chunk1_in (n l Bs os Bn on b off m c cap:Nat) (h1:1<=c) (hL:m*c<=2000000) (hcap:m*c<=cap) (J Jx:List (Fin m)->World->Prop) (hJd:∀pre W,J pre W->J pre W.drew)
    (hY:∀pre x W,J pre W->pre.length<m->YieldAt Fence.wide (n-1) Tryz.prog l #[.slice (some ⟨b,off+x.val*c,none⟩) c c] W λe W'=>
      (e=.returned (.bool true)/\J (pre++[x]) W'/\KpC Bs os Bn on W W')\/(e=.returned (.bool false)/\Jx (pre++[x]) W'))
    (W:World) (hBs:W.cell? ⟨Bs,os,none⟩=some (.slice (some ⟨b,off,none⟩) (m*c) cap)) (hBn:W.cell? ⟨Bn,on,none⟩=some (.int .i64 c)) (h0:J [] W):
    CallsIn Fence.wide n Tryz.prog 49 #[.func (.yield l) #[] #[],.pointer (some ⟨Bs,os,none⟩),.pointer (some ⟨Bn,on,none⟩)] W λe W'=>(∃v,e=.returned v)/\
      ((∃ys,ys=List.finRange m/\J ys W')\/(∃pre,(∃k,k<=m/\pre=(List.finRange m).take k)/\Jx pre W')):=by
  obtain⟨L,hLm⟩:∃L,EqC L m c:=⟨_,rfl⟩;rw[<-show L=m*c from hLm]at hL hcap hBs;refine callsIn_of_wp Tryz.func49 rfl trivial ?_ rfl;simp only[Tryz.ntmps49,LF,Kl,KF,Nat.reduceAdd,Nat.reduceSub,Array.replicate_succ,Array.replicate_zero,List.push_toArray,List.append_toArray,Lf,K8]
  gi_wp2
  gi_loopw [4] (λi wr=>∃k j:Nat,k<=m/\EqC j k c/\i=.int .i64 j/\J ((List.finRange m).take k) wr/\KpC Bs os Bn on W wr)
    (λi _=>L-(intOf i).toNat)
  case atStart=>exact⟨0,0,Kw _,by simp[EqC],rfl,h0,λB o v _ h=>h⟩
  case round=>
    obtain⟨k,j,hk,hj,rfl,hJs,hnx⟩:=hrel;have hS:=hnx Bs os _ (.inl ⟨rfl,rfl⟩) hBs;have hN:=hnx Bn on _ (.inr ⟨rfl,rfl⟩) hBn;by_cases hlt:k<m
    · have hjc:j+c<=L:=by
        rw[show j=k*c from hj,show L=m*c from hLm,<-KU];exact Kh c hlt
      obtain⟨fn,tmps,assign,body,hy,hR⟩:=hY _ ⟨k,hlt⟩ wr.drew (hJd _ _ hJs) (by simp;omega);simp only at hy;rw[<-show j=k*c from hj]at hy
      have htk:(List.finRange m).take (k+1)=(List.finRange m).take k++[⟨k,hlt⟩]:=by rw[List.take_succ_eq_append_getElem (by simpa using hlt)];simp
      gi_wp2
      gi_region
      gi_wp2
      refine⟨(λq=>nomatch q),hR.mono ?_⟩
      rintro e W3 (⟨rfl,hJ3,hk3⟩|⟨rfl,hJx3⟩)
      · have hS3:=hk3 Bs os _ (.inl ⟨rfl,rfl⟩) hS;have hN3:=hk3 Bn on _ (.inr ⟨rfl,rfl⟩) hN
        gi_wp2
        go_roundw
        case rel=>exact⟨k+1,j+c,by omega,by rw[EqC,KU,<-show j=k*c from hj],by simp,by rw[htk];exact hJ3,λB o v hB h=>hk3 B o v hB (hnx B o v hB h)⟩
        case measure=>simp[intOf];omega
      · gi_wp2
        refine bodyPost_ret (results_none rfl _ _ _) rfl ?_;exact⟨⟨_,rfl⟩,.inr ⟨_,⟨k+1,by omega,htk.symm⟩,hJx3⟩⟩
    · obtain rfl:k=m:=by omega
      have:j=L:=by rw[show j=k*c from hj,show L=k*c from hLm]
      subst this
      gi_wp2
      go_end0
      rw[List.take_of_length_le (by simp)]at hJs;exact⟨⟨_,rfl⟩,.inl ⟨_,rfl,hJs⟩⟩
theorem chunk_stops (n Bs os Bn on b off m c cap:Nat) (h1:1<=c) (hL:m*c<=2000000) (hcap:m*c<=cap) (w:World) (hBs:w.cell? ⟨Bs,os,none⟩=some (.slice (some ⟨b,off,none⟩) (m*c) cap)) (hBn:w.cell? ⟨Bn,on,none⟩=some (.int .i64 c)):
  SeqStopsK Fence.wide n Tryz.prog 49 #[.pointer (some ⟨Bs,os,none⟩),.pointer (some ⟨Bn,on,none⟩)] (λx:Fin m=>#[.slice (some ⟨b,off+x.val*c,none⟩) c c]) (KpC Bs os Bn on) (λys=>ys=List.finRange m) (λpre=>∃k,k<=m/\pre=(List.finRange m).take k) m w:=
 λl J Jx W hW hJ _ hY h0=>by
  have hlt:∀{B o v},w.cell? ⟨B,o,none⟩=some v->B<w.heap.size:=λ{B o v} h=>by
   obtain⟨ob,ho,_⟩:=cells_of_cell h;exact(Kf.1 ho).1
  refine chunk1_in n l Bs os Bn on b off m c cap h1 hL hcap J Jx (λpre W hp=>hJ pre W W.drew none hp ⟨rfl,rfl,rfl,Kr _,λ_ _ _=>rfl⟩ λr e=>nomatch e) hY W ((hW.cell (hlt hBs)).trans hBs) ((hW.cell (hlt hBn)).trans hBn) h0
def chunkOrc:Orc:=λ_ nid vs _ K=>match vs with
 |[.r d (.sl (.int .i64) xs),.r _ (.int .i64 c)]=>cond (decide (1<=c)) (K {v:=.fn (.func 49) [] [.ptr nid 0 0,.ptr (nid+1) 0 0],news:=[.box [.r d (.sl (.int .i64) xs)],.box [.r [] (.int .i64 c)]]}) none
 |_=>none
theorem sp_one_crep {w:World} {H:Heap} {pl:Pl} {x:SV} {u:Value} (h:SVRep w H pl x u) (h1:one u=true):CRep w H pl [x] #[u]:=
 ⟨rfl,λj v hv=>by cases j with|zero=>simp at hv;subst hv;exact h1|succ j=>simp at hv,λj y v hy hv=>by cases j with|zero=>simp at hy hv;subst hy hv;exact h|succ j=>simp at hy⟩
theorem sp_two_us {us:Array Value} {n:Nat} (h:n=us.size) (hn:n=2):∃u v,us=#[u,v]:=by
 subst hn;exact⟨us[0],us[1],by ext i h1 h2<;>grind⟩
theorem chunkOrc_ok:OrcOk Tryz.prog 27 chunkOrc:=by
 intro ρ nid vs H K out h;unfold chunkOrc at h;split at h
 ·rename_i d xs d' c;cases hc:decide (1<=c)<;>simp only[hc,cond_true,cond_false]at h
  ·cases h
  have hc:=of_decide_eq_true hc;refine⟨_,h,enters_of Tryz.func27 (by kernel_rfl) (by kernel_rfl),λi B hB=>by simp[look]at hB,?_⟩;intro H1 pl w us he hr hfree hlen hrep H' ha;obtain⟨u,v,rfl⟩:=sp_two_us hlen rfl;have r0:=hrep 0 _ u rfl rfl;have r1:=hrep 1 _ v rfl rfl;have f0:look H1 nid=none:=hfree 0 (by show 0<2;omega);have f1:look H1 (nid+1)=none:=hfree 1 (by show 1<2;omega)
  have o0:one u=true/\∃a n cap,u=.slice a n cap:=by
   cases r0 with
   |r _ _ _ hx=>exact⟨hx.isOne,by cases hx;exact⟨_,_,_,rfl⟩⟩
  obtain⟨o0,a,n,cap,rfl⟩:=o0
  obtain rfl:v=.int .i64 c:=by
   cases r1 with
   |r _ _ _ hx=>cases hx;rfl
  cases ha;obtain⟨pl1,s1,h1⟩:=box_step hr f0 (sp_one_crep r0 o0) 28
  obtain⟨pl2,s2,h2⟩:=box_step s1.hr (n:=nid+1) (by rw[look_append,f1,look_cons];simp[look]) (sp_one_crep (SVRep.r (w:=push w #[.slice a n cap] 28) (H:=H1++[(nid,.box [.r d (.sl (.int .i64) xs)])]) (pl:=pl1) [] (.int .i64 c) (.int .i64 c) (.int _ _)) rfl) 3
  refine(chunk_calls a n cap c hc w).mono ?_
  rintro e w' ⟨rfl,rfl⟩
  have s3:=s1.trans0 s2
  have e1:pl2.hdr nid=.pointer (some ⟨w.heap.size,0,none⟩):=by
   obtain⟨B',_,_,q⟩:=s2.kp.k1 nid (.box [.r d (.sl (.int .i64) xs)]) (by rw[look_append,f0,look_cons];simp) rfl;rw[q,h1]
  have e2:pl2.hdr (nid+1)=.pointer (some ⟨w.heap.size+1,0,none⟩):=by
   rw[h2];simp[push]
  have l0:look (H1++[(nid,Blk.box [.r d (.sl (.int .i64) xs)])]++[(nid+1,.box [.r [] (.int .i64 c)])]) nid=some (.box [.r d (.sl (.int .i64) xs)]):=by
   rw[Ko,look_append,f0];simp[look]
  have l1:look (H1++[(nid,Blk.box [.r d (.sl (.int .i64) xs)])]++[(nid+1,.box [.r [] (.int .i64 c)])]) (nid+1)=some (.box [.r [] (.int .i64 c)]):=by
   rw[Ko,look_append,f1];show look [(nid,_),(nid+1,_)] (nid+1)=_;rw[look_cons,if_neg (by omega),look_cons,if_pos rfl]
  have eH:upds [] H1++newsH nid [.box [.r d (.sl (.int .i64) xs)],.box [.r [] (.int .i64 c)]]=H1++[(nid,Blk.box [.r d (.sl (.int .i64) xs)])]++[(nid+1,.box [.r [] (.int .i64 c)])]:=by simp[upds,newsH]
  rw[eH];refine⟨_,pl2,rfl,s3,?_⟩
  refine .fn _ [] [.ptr nid 0 0,.ptr (nid+1) 0 0] #[] #[_,_] rfl (λj x v hx _=>by simp at hx) rfl λj x v hx hv=>?_
  match j with
  |0=>simp at hx hv;subst hx hv;exact .ptrB nid 0 _ _ 0 l0 e1
  |1=>simp at hx hv;subst hx hv;exact .ptrB (nid+1) 0 _ _ 0 l1 e2
  |j+2=>simp at hx
 ·exact nomatch h
def o_Chunk:O Tryz.prog 27:=⟨chunkOrc,chunkOrc_ok⟩
end
end
section
theorem G9 (a b:Nat):((a:Int) !=(b:Int))=decide (a≠b):=by
 rw[DQ];congr 1;rw[eq_iff_iff];omega
theorem Ha {R:Type} {xs:List Int} (a:Option R) (yes:Option R):(cond (decide ((xs.length:Int)<(xs.length:Int))) a yes)=yes:=by
 rw[ag,if_neg (by omega)]
theorem Hb {xs ys:List Int} {r:Option Bool} (h:xs.length=ys.length->r=if xs=ys then some true else some false):(cond ((xs.length:Int) !=(ys.length:Int)) (some false) r)=some (decide (xs=ys)):=by
 rw[G9,ag];by_cases c:xs.length=ys.length
 ·rw[if_neg (by simp[c]),h c];split<;>simp[*]
 ·rw[if_pos c,decide_eq_false (λe=>c (by rw[e]))]
theorem BJ {R:Type} {xs ys:List Int} {i n:Nat} (hi:i<xs.length) (hi':i<ys.length) (hn:i<n) (hx:xs.length<=oA) (next:Int->Option R) (no yes:Option R):
  (cond (decide ((i:Int)<(n:Int))) ((idx xs i).bind λe1=>(idx ys i).bind λe2=>cond (e1 !=e2) no (next (i64.wrap ((i:Int)+(1:Int))))) yes)=if xs[i]=ys[i]then next ((i+1:Nat):Int)else no:=by
 unfold oA at hx;rw[ag,if_pos (by omega),aR,aR,aA hi,aA hi',Ki,Ki,aC hi (by omega)];rw[lT]
theorem jA {k:Nat} {xs ys:List Int} (hk:xs.length<k) (hx:xs.length<=oA):dc k xs ys=some (decide (xs=ys)):=
 Hb λc=>DS xs ys c (λi hi hi' next=>BJ hi hi' hi hx next _ _) (λnext=>Ha _ _) hk
theorem pW {k:Nat} {a b:ab} (hk:a.data.length<k) (ha:a.data.length<=oA):gg k a b=some (decide (a=b)):=by
 obtain⟨⟨s1,s2,s3⟩,d⟩:=a;obtain⟨⟨t1,t2,t3⟩,d'⟩:=b;simp only at hk ha;unfold gg;simp only[Ki,jA hk ha];by_cases h1:s1=t1<;>by_cases h2:s2=t2<;>by_cases h3:s3=t3<;>by_cases h4:d=d'<;>simp[h1,h2,h3,h4,lT,uR]
end
section
def marked (m:Int) (n:Nat):List Int:=(List.range n).map λ(i:Nat)=>m+(i:Int)
@[simp] theorem Fy (m:Int) (n:Nat):(marked m n).length=n:=by simp[marked]
def inB (x a b:Int):Bool:=decide (a<=x/\x<=b)
theorem bY (k:Nat) (x a b:Int):bn k x a b=some (inB x a b):=by
 unfold bn inB;rw[ag];by_cases h:a<=x<;>simp[h]
theorem iV (k:Nat) (x a b:Int):uS k x a b=some (inB x a b):=by
 unfold uS inB;rw[ag];by_cases h:a<=x<;>simp[h]
def Shape.okB (s:Shape):Bool:=inB s.h 1 8&&(inB s.w 1 8&&inB s.c 1 8)
theorem fS (k:Nat) (s:Shape):fM k s=some s.okB:=by
 unfold fM Shape.okB;simp only[bY,aa];cases inB s.h 1 8<;>cases inB s.w 1 8<;>rfl
theorem lz (k:Nat) (s:Shape):jq k s=some s.okB:=by
 unfold jq Shape.okB;simp only[iV,aa];cases inB s.h 1 8<;>cases inB s.w 1 8<;>rfl
theorem Shape.l5 {s:Shape} (h:s.okB=true):1<=s.h/\s.h<=8/\1<=s.w/\s.w<=8/\1<=s.c/\s.c<=8:=by
 simp only[Shape.okB,inB,J8,decide_eq_true_eq]at h;omega
def Shape.size (s:Shape):Int:=cond s.okB (s.h*s.w*s.c) 0
theorem Shape.zp (s:Shape):0<=s.size/\s.size<=512:=by
 unfold Shape.size;cases h:s.okB
 ·simp
 ·obtain⟨h1,h2,h3,h4,h5,h6⟩:=Shape.l5 h;have:=lr (show 0<=s.h by omega) h2 (show 0<=s.w by omega) h4;have:=lr this.1 this.2 (show 0<=s.c by omega) h6;simpa using this
theorem wO {s:Shape} (h:s.okB=true):i64.wrap (i64.wrap (s.h*s.w)*s.c)=s.h*s.w*s.c:=by
 obtain⟨h1,h2,h3,h4,h5,h6⟩:=Shape.l5 h;have a:=lr (show 0<=s.h by omega) h2 (show 0<=s.w by omega) h4;have b:=lr a.1 a.2 (show 0<=s.c by omega) h6;rw[aH (n:=s.h*s.w) (by omega) (by omega),aH (by omega) (by omega)]
theorem dZ (k:Nat) (s:Shape):aT k s=some s.size:=by
 unfold aT Shape.size;simp only[fS,aa,cond_not];cases h:s.okB
 ·rfl
 ·simp only[cond_true,wO h]
theorem mV (k:Nat) (s:Shape):fu k s=some s.size:=by
 unfold fu Shape.size;simp only[lz,aa,cond_not];cases h:s.okB
 ·rfl
 ·simp only[cond_true,wO h]
def kD (xs:List Int):Bool:=xs.all λx=>inB x (-128) 127
def ab.okB (t:ab):Bool:=t.sh.okB&&(decide ((t.data.length:Int)=t.sh.size)&&kD t.data)
theorem gq {k:Nat} {t:ab} (hk:t.data.length<k) (hx:t.data.length<=oA):fk k t=some t.okB:=by
 unfold oA at hx;unfold fk ab.okB;simp only[fS,dZ,aa,cond_not,lT];cases t.sh.okB
 ·rfl
 simp only[cond_true,Km];by_cases h:(t.data.length:Int)=t.sh.size
 ·rw[if_pos h,decide_eq_true h,Km]
  rw[qc t.data (λx=>inB x (-128) 127) (λi hi next=>by
   simp only[gd,ag,dD,bY,aa,cond_not]
   rw[if_pos (by omega),aR,aA hi,aa,aC hi (by omega)]) (λnext=>by
   simp only[gd,ag];rw[if_neg (by omega)]) hk]
  show _=some (t.data.all _);cases t.data.all λx=>inB x (-128) 127<;>rfl
 ·rw[if_neg h,decide_eq_false h];rfl
theorem pJ {α:Type} {p:α->Bool} (xs:List α):((xs.findIdx? p).elim (some (-1:Int)) λi=>some (i:Int))=some ((xs.findIdx? p).elim (-1) λi=>(i:Int)):=by
 cases xs.findIdx? p<;>rfl
theorem tw {α:Type} {p:α->Bool} (xs:List α):decide (((xs.findIdx? p).elim (-1:Int) λi=>(i:Int))>=0)=xs.any p:=by
 cases h:xs.findIdx? p with
 |none=>
  rw[List.findIdx?_eq_none_iff]at h
  have:xs.any p=false:=by simpa using h
  rw[this];rfl
 |some i=>
  have:xs.any p=true:=by
   have:=List.findIdx?_eq_some_iff_getElem.1 h;obtain⟨hi,hp,_⟩:=this;exact List.any_eq_true.2 ⟨_,KI hi,hp⟩
  rw[this];simp
theorem oe {k:Nat} {xs:List Int} (hk:xs.length<k) (hx:xs.length<=oA):jr k xs=some (kD xs):=by
 unfold oA at hx;unfold jr aQ aU
 rw[wM xs (λx=>!inB x (-128) 127) (λi hi next=>by
  simp only[aI,ag,kd,iV,aa]
  rw[if_pos (by omega),aR,aA hi,aa,aC hi (by omega)]) (λnext=>by
  simp only[aI,ag];rw[if_neg (by omega)]) hk]
 rw[pJ];simp only[aa,tw];unfold kD;rw[List.any_eq_not_all_not];simp
theorem eQ {k:Nat} {t:ab} (hk:t.data.length<k) (hx:t.data.length<=oA):du k t=some t.okB:=by
 unfold du ab.okB;simp only[lz,mV,aa,uR,oe hk hx];cases t.sh.okB
 ·rfl
 simp only[cond_true,Km];by_cases h:(t.data.length:Int)=t.sh.size
 ·rw[if_pos h,decide_eq_true h,Km]
 ·rw[if_neg h,decide_eq_false h];rfl
theorem gY {a b:Nat} {α:Type} {x y:α} (h:a<=b):cond (Nat.ble a b) x y=x:=by rw[K2 h];rfl
theorem wP {k:Nat} {xs:List Int} (hk:xs.length<k) (hx:xs.length<=bJ):nR k xs=some xs:=by
 rw[aL]at hx;unfold nR
 have:=Fu xs (λx=>x) (g:=λu next=>fL k xs u next (λy=>some y)) (fin:=some) (λi ys hi next hl=>by
  simp only[fL,ag]
  rw[if_pos (by omega),aR,aA hi,aa,gY (by rw[aL,hl];simp;omega),aC hi (by omega)]) (λys next=>by
  simp only[fL,ag];rw[if_neg (by omega)]) hk
 simpa using this
theorem DV {ρ:Type} (x:Option ρ):both x x=x:=by unfold both;simp
theorem jB {k:Nat} {xs:List Int} (hx:xs.length<=bJ):bw k xs=some xs:=by
 unfold bw;rw[gY (by simpa using hx)]
 cases xs with
 |nil=>simp only[isNil,cond_true,KG];exact DV _
 |cons x l=>rfl
theorem wQ {k:Nat} {t:ab} (hk:t.data.length<k) (hx:t.data.length<=bJ):nS k t=some t:=by
 unfold nS;rw[wP hk hx];rfl
end
section
def ab.tot (x:ab):Nat:=x.data.length+(0)
def al.tot (x:al):Nat:=x.weights.length+(x.gI.length+(0))
def Model.tot (x:Model):Nat:=jo al.tot x.ai+(0)
def Job.tot (x:Job):Nat:=x.model.tot+(x.act.tot+(0))
def Task.tot (x:Task):Nat:=x.ni.length+(0)
def AM.tot (x:AM):Nat:=jo Task.tot x.tasks+(0)
def Request.tot (x:Request):Nat:=x.job.tot+(0)
def Runtime.tot (x:Runtime):Nat:=x.sched.tot+(jo Model.tot x.zz+(x.B7.length+(jo Request.tot x.lH+(0))))
def Step.tot (x:Step):Nat:=x.data.length+(x.input.tot+(0))
def Event.tot (x:Event):Nat:=x.out.tot+(0)
def Entry.tot (x:Entry):Nat:=x.model.tot+(x.input.tot+(0))
end
end Go.Proofs.Ev
