/- Typed functions and what holds of them: part 1. -/
import Derived.Test.YtkjdnpefjebmlaaGreatDoorEvK6
import Derived.Test.YtkjdnpefjebmlaaGreatDoorEvK7
set_option linter.unusedVariables false
set_option linter.unusedSimpArgs false
set_option linter.unusedSectionVars false
namespace Go.Proofs.Ev
open IntKind(i64 u8 u64)
set_option maxRecDepth 100000
section
noncomputable section
def kU {ρ:Type} (k:Nat) (p:List Int) (v:Int× List Int) (next:(Int× List Int)->Option ρ) (x0:(List Int)->Option ρ):Option ρ:=
 cond (decide (v.1<(p.length:Int))) ((idx p v.1).bind λe1=>cond (Nat.ble (v.2.length+[e1].length) aO) (next (i64.wrap (v.1+1),v.2++[e1])) none) (x0 v.2)
def kV (k:Nat) (a0:List Int):Option (List Int):=
 iter (λu3 n3=>kU k a0 u3 n3 (λy2=>some y2)) k ((0:Int),([]:List Int))
def rZ (k:Nat) (a0:aD):Option (aD):=
 (kV k a0.data).bind λr1=>some (⟨a0.sh,r1⟩:aD)
def bm (k:Nat) (a0:Int) (a1:Int) (a2:Int):Option (Bool):=
 cond (decide (a1<=a0)) (some (decide (a0<=a2))) (some false)
def kW (k:Nat) (a0:Shape):Option (Bool):=
 (bm k a0.h (1:Int) (8:Int)).bind λr1=>cond (r1) ((bm k a0.w (1:Int) (8:Int)).bind λr2=>cond (r2) ((bm k a0.c (1:Int) (8:Int)).bind λr3=>some r3) (some false)) (some false)
def bY (k:Nat) (a0:Shape):Option (Int):=
 (kW k a0).bind λr1=>cond (!r1) (some (0:Int)) (some (i64.wrap ((i64.wrap (a0.h*a0.w))*a0.c)))
def il (k:Nat) (a0:Int):Option (Bool):=
 (bm k a0 (-128:Int) (127:Int)).bind λr1=>some r1
def lQ {ρ:Type} (k:Nat) (p:Int× Int× Int× List Int) (v:Int) (next:Int->Option ρ) (x0:Unit->Option ρ) (eF:Bool->Option ρ):Option ρ:=
 cond (decide (v<(p.2.2.2.length:Int))) ((idx p.2.2.2 v).bind λe3=>(il k e3).bind λr4=>cond (!r4) (eF false) (next (i64.wrap (v+1)))) (x0 ())
def gP (k:Nat) (a0:aD):Option (Bool):=
 (kW k a0.sh).bind λr1=>cond (!r1) (some false) ((bY k a0.sh).bind λr2=>cond ((a0.data.length:Int) !=r2) (some false) (iter (λu7 n7=>lQ k (a0.sh.h,a0.sh.w,a0.sh.c,a0.data) u7 n7 (λy5=>some true) (λy6=>some y6)) k (0:Int)))
def cg (k:Nat) (a0:List Int):Option (List Int):=
 cond (isNil a0) (both (some ([]:List Int)) (cond (Nat.ble (([]:List Int).length+a0.length) aO) (some (([]:List Int)++a0)) none)) (cond (Nat.ble (([]:List Int).length+a0.length) aO) (some (([]:List Int)++a0)) none)
def mM (k:Nat) (a0:aD):Option (aD):=
 (cg k a0.data).bind λr1=>some (⟨a0.sh,r1⟩:aD)
def tY (k:Nat) (a0:Int) (a1:Int) (a2:Int):Option (Bool):=
 cond (decide (a1<=a0)) (some (decide (a0<=a2))) (some false)
def pq (k:Nat) (a0:Shape):Option (Bool):=
 (tY k a0.h (1:Int) (8:Int)).bind λr1=>cond (r1) ((tY k a0.w (1:Int) (8:Int)).bind λr2=>cond (r2) ((tY k a0.c (1:Int) (8:Int)).bind λr3=>some r3) (some false)) (some false)
def kA (k:Nat) (a0:Shape):Option (Int):=
 (pq k a0).bind λr1=>cond (!r1) (some (0:Int)) (some (i64.wrap ((i64.wrap (a0.h*a0.w))*a0.c)))
def qt (k:Nat) (a0:Int):Option (Bool):=
 (tY k a0 (-128:Int) (127:Int)).bind λr1=>some (!r1)
def bd {ρ:Type} (k:Nat) (p:List Int× Int) (v:Int) (next:Int->Option ρ) (x0:Unit->Option ρ) (eF:Int->Option ρ):Option ρ:=
 cond (decide (v<p.2)) ((idx p.1 v).bind λe1=>(qt k e1).bind λr2=>cond (r2) (eF v) (next (i64.wrap (v+1)))) (x0 ())
def b7 (k:Nat) (a0:List Int):Option (Int):=
 iter (λu5 n5=>bd k (a0,(a0.length:Int)) u5 n5 (λy3=>some (-1:Int)) (λy4=>some y4)) k (0:Int)
def bI (k:Nat) (a0:List Int):Option (Bool):=
 (b7 k a0).bind λr1=>some (decide (r1>=0))
def pt (k:Nat) (a0:List Int):Option (Bool):=
 (bI k a0).bind λr1=>some (!r1)
def iV (k:Nat) (a0:aD):Option (Bool):=
 (pq k a0.sh).bind λr1=>cond (r1) ((kA k a0.sh).bind λr2=>cond ((a0.data.length:Int)==r2) ((pt k a0.data).bind λr3=>some r3) (some false)) (some false)
def mN (k:Nat) (a0:List Int) (a1:List Int):Option (Bool):=
 some ((bytesOf a0)==(bytesOf a1))
def iW {ρ:Type} (k:Nat) (p:List Int× List Int× Int) (v:Int) (next:Int->Option ρ) (x0:Unit->Option ρ) (eF:Bool->Option ρ):Option ρ:=
 cond (decide (v<p.2.2)) ((idx p.1 v).bind λe1=>(idx p.2.1 v).bind λe2=>cond (e1 !=e2) (eF false) (next (i64.wrap (v+1)))) (x0 ())
def gq (k:Nat) (a0:List Int) (a1:List Int):Option (Bool):=
 cond ((a0.length:Int) !=(a1.length:Int)) (some false) (iter (λu5 n5=>iW k (a0,a1,(a0.length:Int)) u5 n5 (λy3=>some true) (λy4=>some y4)) k (0:Int))
def lR (k:Nat) (a0:aD) (a1:aD):Option (Bool):=
 cond (cond (a0.sh.h==a1.sh.h) (cond (a0.sh.w==a1.sh.w) (cond (a0.sh.c==a1.sh.c) (true) false) false) false) ((gq k a0.data a1.data).bind λr1=>some r1) (some false)
def ka (k:Nat) (a0:Step) (a1:Step):Option (Bool):=
 cond (a0.kind==a1.kind) (cond (a0.a==a1.a) (cond (a0.b==a1.b) ((mN k a0.data a1.data).bind λr1=>cond (r1) ((lR k a0.input a1.input).bind λr2=>some r2) (some false)) (some false)) (some false)) (some false)
def gu {ρ:Type} (k:Nat) (p:List Step× List Step× Int× Int) (v:Int) (next:Int->Option ρ) (x0:Unit->Option ρ) (eF:Int->Option ρ):Option ρ:=
 cond (decide (v<p.2.2.2)) ((idx p.1 v).bind λe1=>(idx p.2.1 v).bind λe2=>(ka k e1 e2).bind λr3=>cond (!r3) (eF v) (next (i64.wrap (v+1)))) (x0 ())
def kX (k:Nat) (a0:List Step) (a1:List Step):Option (Int):=
 iter (λu6 n6=>gu k (a0,a1,if(a1.length:Int)<(a0.length:Int)then(a1.length:Int)else(a0.length:Int),if(a1.length:Int)<(a0.length:Int)then(a1.length:Int)else(a0.length:Int)) u6 n6 (λy4=>cond ((a0.length:Int)==(a1.length:Int)) (some (-1:Int)) (some (if(a1.length:Int)<(a0.length:Int)then(a1.length:Int)else(a0.length:Int)))) (λy5=>some y5)) k (0:Int)
end
end
set_option maxRecDepth 100000
section
noncomputable section
def jz {ρ:Type} (k:Nat) (p:List Int) (v:Int× List Int) (next:(Int× List Int)->Option ρ) (x0:(List Int)->Option ρ):Option ρ:=
 cond (decide (v.1<(p.length:Int))) ((idx p v.1).bind λe1=>cond (Nat.ble (v.2.length+[e1].length) aO) (next (i64.wrap (v.1+1),v.2++[e1])) none) (x0 v.2)
def s9 (k:Nat) (a0:List Int):Option (List Int):=
 iter (λu3 n3=>jz k a0 u3 n3 (λy2=>some y2)) k ((0:Int),([]:List Int))
def dZ (k:Nat) (a0:List Int):Option (List Int):=
 cond (isNil a0) (both (some ([]:List Int)) (cond (Nat.ble (([]:List Int).length+a0.length) aO) (some (([]:List Int)++a0)) none)) (cond (Nat.ble (([]:List Int).length+a0.length) aO) (some (([]:List Int)++a0)) none)
def gQ {ρ:Type} (k:Nat) (p:Int× Int× Int× Int× Int× Int× Int× List Int× List Int) (v:Int) (next:Int->Option ρ) (x0:Unit->Option ρ) (eF:Bool->Option ρ):Option ρ:=
 cond (decide (v<(p.2.2.2.2.2.2.2.2.length:Int))) ((idx p.2.2.2.2.2.2.2.2 v).bind λe7=>(bm k e7 (-1000000:Int) (1000000:Int)).bind λr8=>cond (!r8) (eF false) (next (i64.wrap (v+1)))) (x0 ())
def gR {ρ:Type} (k:Nat) (p:Int× Int× Int× Int× Int× Int× Int× List Int× List Int) (v:Int) (next:Int->Option ρ) (x2:Unit->Option ρ) (eF:Bool->Option ρ):Option ρ:=
 cond (decide (v<(p.2.2.2.2.2.2.2.1.length:Int))) ((idx p.2.2.2.2.2.2.2.1 v).bind λe10=>(il k e10).bind λr11=>cond (!r11) (eF false) (next (i64.wrap (v+1)))) (x2 ())
def ta (k:Nat) (a0:aq) (a1:Bool) (a2:Bool):Option (Bool):=
 cond (a1) ((bm k a0.size (1:Int) (3:Int)).bind λr1=>cond (!r1) (some false) ((bm k a0.step (1:Int) (2:Int)).bind λr2=>cond (!r2) (some false) (cond (a2) ((bm k a0.out (1:Int) (8:Int)).bind λr3=>cond (!r3) (some false) ((bm k a0.mult (0:Int) (2147483647:Int)).bind λr4=>cond (!r4) (some false) ((bm k a0.shift (0:Int) (31:Int)).bind λr5=>cond (!r5) (some false) ((il k a0.zero).bind λr6=>cond (!r6) (some false) (cond ((a0.my.length:Int) !=a0.out) (some false) (iter (λu16 n16=>gQ k (a0.kind,a0.out,a0.size,a0.step,a0.mult,a0.shift,a0.zero,a0.weights,a0.my) u16 n16 (λy9=>iter (λu14 n14=>gR k (a0.kind,a0.out,a0.size,a0.step,a0.mult,a0.shift,a0.zero,a0.weights,a0.my) u14 n14 (λy12=>some true) (λy13=>some y13)) k (0:Int)) (λy15=>some y15)) k (0:Int))))))) (cond (a0.out !=0) (some false) (cond (a0.mult !=0) (some false) (cond (a0.shift !=0) (some false) (cond (decide ((a0.weights.length:Int)>(0:Int))) (some false) (cond (decide ((a0.my.length:Int)>(0:Int))) (some false) (cond (a0.kind==4) ((il k a0.zero).bind λr17=>some r17) (some (a0.zero==0))))))))))) (cond (a0.size !=0) (some false) (cond (a0.step !=0) (some false) (cond (a2) ((bm k a0.out (1:Int) (8:Int)).bind λr18=>cond (!r18) (some false) ((bm k a0.mult (0:Int) (2147483647:Int)).bind λr19=>cond (!r19) (some false) ((bm k a0.shift (0:Int) (31:Int)).bind λr20=>cond (!r20) (some false) ((il k a0.zero).bind λr21=>cond (!r21) (some false) (cond ((a0.my.length:Int) !=a0.out) (some false) (iter (λu31 n31=>gQ k (a0.kind,a0.out,a0.size,a0.step,a0.mult,a0.shift,a0.zero,a0.weights,a0.my) u31 n31 (λy24=>iter (λu29 n29=>gR k (a0.kind,a0.out,a0.size,a0.step,a0.mult,a0.shift,a0.zero,a0.weights,a0.my) u29 n29 (λy27=>some true) (λy28=>some y28)) k (0:Int)) (λy30=>some y30)) k (0:Int))))))) (cond (a0.out !=0) (some false) (cond (a0.mult !=0) (some false) (cond (a0.shift !=0) (some false) (cond (decide ((a0.weights.length:Int)>(0:Int))) (some false) (cond (decide ((a0.my.length:Int)>(0:Int))) (some false) (cond (a0.kind==4) ((il k a0.zero).bind λr32=>some r32) (some (a0.zero==0)))))))))))
def ke (k:Nat) (a0:Shape) (a1:aq):Option (Shape× Bool):=
 (kW k a0).bind λr1=>cond (!r1) (some ((⟨(0:Int),(0:Int),(0:Int)⟩:Shape),false)) ((bm k a1.kind (0:Int) (5:Int)).bind λr2=>cond (!r2) (some ((⟨(0:Int),(0:Int),(0:Int)⟩:Shape),false)) ((bm k a1.kind (1:Int) (3:Int)).bind λr3=>(ta k a1 r3 (decide (a1.kind<=1))).bind λr4=>cond (!r4) (some ((⟨(0:Int),(0:Int),(0:Int)⟩:Shape),false)) (cond (r3) (cond (decide (a1.size>a0.h)) (some ((⟨(0:Int),(0:Int),(0:Int)⟩:Shape),false)) (cond (decide (a1.size>a0.w)) (some ((⟨(0:Int),(0:Int),(0:Int)⟩:Shape),false)) (cond (decide (a1.step=0)) none (cond (decide (a1.step=0)) none (cond (a1.kind==0) ((bY k a0).bind λr5=>cond (decide (r5>64)) (some ((⟨(0:Int),(0:Int),(0:Int)⟩:Shape),false)) ((bY k a0).bind λr6=>cond ((a1.weights.length:Int) !=(i64.wrap (a1.out*r6))) (some ((⟨(0:Int),(0:Int),(0:Int)⟩:Shape),false)) (some ((⟨(1:Int),(1:Int),a1.out⟩:Shape),true)))) (cond (a1.kind==1) (cond ((a1.weights.length:Int) !=(i64.wrap ((i64.wrap ((i64.wrap (a1.out*a1.size))*a1.size))*a0.c))) (some ((⟨(0:Int),(0:Int),(0:Int)⟩:Shape),false)) (cond (decide ((a1.weights.length:Int)>(600:Int))) (some ((⟨(0:Int),(0:Int),(0:Int)⟩:Shape),false)) (some ((⟨(i64.wrap ((i64.wrap ((i64.wrap (a0.h-a1.size)).tdiv a1.step))+1)),(i64.wrap ((i64.wrap ((i64.wrap (a0.w-a1.size)).tdiv a1.step))+1)),a1.out⟩:Shape),true)))) (cond (a1.kind==5) ((bY k a0).bind λr7=>cond (decide (r7>8)) (some ((⟨(0:Int),(0:Int),(0:Int)⟩:Shape),false)) ((bY k a0).bind λr8=>some ((⟨(1:Int),(1:Int),r8⟩:Shape),true))) (some ((⟨(i64.wrap ((i64.wrap ((i64.wrap (a0.h-a1.size)).tdiv a1.step))+1)),(i64.wrap ((i64.wrap ((i64.wrap (a0.w-a1.size)).tdiv a1.step))+1)),a0.c⟩:Shape),true))))))))) (cond (a1.kind==0) ((bY k a0).bind λr9=>cond (decide (r9>64)) (some ((⟨(0:Int),(0:Int),(0:Int)⟩:Shape),false)) ((bY k a0).bind λr10=>cond ((a1.weights.length:Int) !=(i64.wrap (a1.out*r10))) (some ((⟨(0:Int),(0:Int),(0:Int)⟩:Shape),false)) (some ((⟨(1:Int),(1:Int),a1.out⟩:Shape),true)))) (cond (a1.kind==1) (cond ((a1.weights.length:Int) !=(i64.wrap ((i64.wrap ((i64.wrap (a1.out*a1.size))*a1.size))*a0.c))) (some ((⟨(0:Int),(0:Int),(0:Int)⟩:Shape),false)) (cond (decide ((a1.weights.length:Int)>(600:Int))) (some ((⟨(0:Int),(0:Int),(0:Int)⟩:Shape),false)) (some ((⟨a0.h,a0.w,a1.out⟩:Shape),true)))) (cond (a1.kind==5) ((bY k a0).bind λr11=>cond (decide (r11>8)) (some ((⟨(0:Int),(0:Int),(0:Int)⟩:Shape),false)) ((bY k a0).bind λr12=>some ((⟨(1:Int),(1:Int),r12⟩:Shape),true))) (some (a0,true))))))))
def im {ρ:Type} (k:Nat) (p:Int× Int× Int× List aq) (v:Int× List Shape) (next:(Int× List Shape)->Option ρ) (x0:(List Shape)->Option ρ) (eF:Bool->Option ρ):Option ρ:=
 cond (decide (v.1<(p.2.2.2.length:Int))) (cond (decide (0<=v.1/\v.1<(v.2.length:Int))) ((v.2[v.1.toNat]?).bind λe3=>(idx p.2.2.2 v.1).bind λe4=>(ke k e3 e4).bind λr5=>cond (!r5.2) (eF false) (cond (Nat.ble (v.2.length+[r5.1].length) aO) (next (i64.wrap (v.1+1),v.2++[r5.1])) none)) none) (x0 v.2)
def kg (k:Nat) (a0:Model):Option (List Shape× Bool):=
 (kW k a0.inp).bind λr1=>cond (!r1) (some (([]:List Shape),false)) ((bm k (a0.aE.length:Int) (1:Int) (6:Int)).bind λr2=>cond (!r2) (some (([]:List Shape),false)) (iter (λu8 n8=>im k (a0.inp.h,a0.inp.w,a0.inp.c,a0.aE) u8 n8 (λy6=>some (y6,true)) (λy7=>some (([]:List Shape),y7))) k ((0:Int),[a0.inp])))
def pw (k:Nat) (a0:Model):Option (Bool):=
 (kg k a0).bind λr1=>some r1.2
def zQ (k:Nat) (a0:Shape) (a1:aq):Option (Int):=
 (ke k a0 a1).bind λr1=>cond (!r1.2) (some (0:Int)) ((bY k a0).bind λr2=>cond (a1.kind==0) ((bY k r1.1).bind λr3=>(bY k a0).bind λr4=>some (i64.wrap ((1:Int)+(i64.wrap ((i64.wrap (r3*r4)).tdiv (16:Int)))))) (cond (a1.kind==1) ((bY k r1.1).bind λr5=>some (i64.wrap ((1:Int)+(i64.wrap ((i64.wrap ((i64.wrap ((i64.wrap (r5*a1.size))*a1.size))*a0.c)).tdiv (16:Int)))))) (cond (a1.kind==2) ((bY k r1.1).bind λr6=>some (i64.wrap ((1:Int)+(i64.wrap ((i64.wrap ((i64.wrap (r6*a1.size))*a1.size)).tdiv (16:Int)))))) (cond (a1.kind==3) ((bY k r1.1).bind λr7=>some (i64.wrap ((1:Int)+(i64.wrap ((i64.wrap ((i64.wrap (r7*a1.size))*a1.size)).tdiv (16:Int)))))) (some (i64.wrap ((1:Int)+(i64.wrap (r2.tdiv (16:Int))))))))))
def kY {ρ:Type} (k:Nat) (p:Int× Int× Int× List aq× List Shape) (v:Int× List Int) (next:(Int× List Int)->Option ρ) (x0:(List Int)->Option ρ):Option ρ:=
 cond (decide (v.1<(p.2.2.2.1.length:Int))) (cond (decide (0<=v.1/\v.1<(p.2.2.2.2.length:Int))) ((p.2.2.2.2[v.1.toNat]?).bind λe2=>(idx p.2.2.2.1 v.1).bind λe3=>(zQ k e2 e3).bind λr4=>cond (Nat.ble (v.2.length+[r4].length) aO) (next (i64.wrap (v.1+1),v.2++[r4])) none) none) (x0 v.2)
def kZ (k:Nat) (a0:Model):Option (List Int):=
 (kg k a0).bind λr1=>cond (!r1.2) (some ([]:List Int)) (iter (λu6 n6=>kY k (a0.inp.h,a0.inp.w,a0.inp.c,a0.aE,r1.1) u6 n6 (λy5=>some y5)) k ((0:Int),([]:List Int)))
def iq {ρ:Type} (k:Nat) (p:List Int) (v:Int× Int) (next:(Int× Int)->Option ρ) (x0:Int->Option ρ):Option ρ:=
 cond (decide (v.2<(p.length:Int))) (cond (decide (0<=v.2/\v.2<(p.length:Int))) ((p[v.2.toNat]?).bind λe2=>next (i64.wrap (v.1+e2),i64.wrap (v.2+1))) none) (x0 v.1)
def qu (k:Nat) (a0:Model):Option (Int):=
 (kZ k a0).bind λr1=>iter (λu4 n4=>iq k r1 u4 n4 (λy3=>some y3)) k ((0:Int),(0:Int))
def gv (k:Nat) (a0:aq):Option (Bool):=
 cond (a0.size==0) (some (a0.step==0)) (some false)
def mO (k:Nat) (a0:Int):Option (Bool):=
 (tY k a0 (-1000000:Int) (1000000:Int)).bind λr1=>some (!r1)
def bn {ρ:Type} (k:Nat) (p:List Int× Int) (v:Int) (next:Int->Option ρ) (x0:Unit->Option ρ) (eF:Int->Option ρ):Option ρ:=
 cond (decide (v<p.2)) ((idx p.1 v).bind λe1=>(mO k e1).bind λr2=>cond (r2) (eF v) (next (i64.wrap (v+1)))) (x0 ())
def cO (k:Nat) (a0:List Int):Option (Int):=
 iter (λu5 n5=>bn k (a0,(a0.length:Int)) u5 n5 (λy3=>some (-1:Int)) (λy4=>some y4)) k (0:Int)
def bo (k:Nat) (a0:List Int):Option (Bool):=
 (cO k a0).bind λr1=>some (decide (r1>=0))
def iz (k:Nat) (a0:aq) (a1:Int):Option (Bool):=
 (tY k a0.out (1:Int) (8:Int)).bind λr1=>cond (r1) ((tY k a0.mult (0:Int) (2147483647:Int)).bind λr2=>cond (r2) ((tY k a0.shift (0:Int) (31:Int)).bind λr3=>cond (r3) ((tY k a0.zero (-128:Int) (127:Int)).bind λr4=>cond (r4) (cond ((a0.weights.length:Int)==(i64.wrap (a0.out*a1))) ((pt k a0.weights).bind λr5=>cond (r5) (cond ((a0.my.length:Int)==a0.out) ((bo k a0.my).bind λr6=>some (!r6)) (some false)) (some false)) (some false)) (some false)) (some false)) (some false)) (some false)
def fN (k:Nat) (a0:aq) (a1:Shape):Option (Bool):=
 (tY k a0.size (1:Int) (if a1.w<(if a1.h<3 then a1.h else(3:Int))then a1.w else(if a1.h<3 then a1.h else(3:Int)))).bind λr1=>cond (r1) ((tY k a0.step (1:Int) (2:Int)).bind λr2=>some r2) (some false)
def gw (k:Nat) (a0:aq) (a1:Shape) (a2:Int):Option (Shape):=
 cond (decide (a0.step=0)) none (cond (decide (a0.step=0)) none (some (⟨(i64.wrap ((i64.wrap ((i64.wrap (a1.h-a0.size)).tdiv a0.step))+1)),(i64.wrap ((i64.wrap ((i64.wrap (a1.w-a0.size)).tdiv a0.step))+1)),a2⟩:Shape)))
def fT (k:Nat) (a0:aq):Option (Bool):=
 cond (a0.out==0) (cond (a0.mult==0) (cond (a0.shift==0) (cond ((a0.weights.length:Int)==(0:Int)) (some ((a0.my.length:Int)==(0:Int))) (some false)) (some false)) (some false)) (some false)
def px (k:Nat) (a0:Shape) (a1:aq):Option (Shape× Bool):=
 (pq k a0).bind λr1=>cond (!r1) (some ((⟨(0:Int),(0:Int),(0:Int)⟩:Shape),false)) ((kA k a0).bind λr2=>cond (a1.kind==0) (cond (decide (r2<=64)) ((gv k a1).bind λr3=>cond (r3) ((iz k a1 r2).bind λr4=>cond (r4) (some ((⟨(1:Int),(1:Int),a1.out⟩:Shape),true)) (some ((⟨(0:Int),(0:Int),(0:Int)⟩:Shape),false))) (some ((⟨(0:Int),(0:Int),(0:Int)⟩:Shape),false))) (some ((⟨(0:Int),(0:Int),(0:Int)⟩:Shape),false))) (cond (a1.kind==1) ((fN k a1 a0).bind λr5=>cond (r5) (cond (decide ((a1.weights.length:Int)<=(600:Int))) ((iz k a1 (i64.wrap ((i64.wrap (a1.size*a1.size))*a0.c))).bind λr6=>cond (r6) ((gw k a1 a0 a1.out).bind λr7=>some (r7,true)) (some ((⟨(0:Int),(0:Int),(0:Int)⟩:Shape),false))) (some ((⟨(0:Int),(0:Int),(0:Int)⟩:Shape),false))) (some ((⟨(0:Int),(0:Int),(0:Int)⟩:Shape),false))) (cond (a1.kind==2) ((fN k a1 a0).bind λr8=>cond (r8) ((fT k a1).bind λr9=>cond (r9) (cond (a1.zero==0) ((gw k a1 a0 a0.c).bind λr10=>some (r10,true)) (some ((⟨(0:Int),(0:Int),(0:Int)⟩:Shape),false))) (some ((⟨(0:Int),(0:Int),(0:Int)⟩:Shape),false))) (some ((⟨(0:Int),(0:Int),(0:Int)⟩:Shape),false))) (cond (a1.kind==3) ((fN k a1 a0).bind λr11=>cond (r11) ((fT k a1).bind λr12=>cond (r12) (cond (a1.zero==0) ((gw k a1 a0 a0.c).bind λr13=>some (r13,true)) (some ((⟨(0:Int),(0:Int),(0:Int)⟩:Shape),false))) (some ((⟨(0:Int),(0:Int),(0:Int)⟩:Shape),false))) (some ((⟨(0:Int),(0:Int),(0:Int)⟩:Shape),false))) (cond (a1.kind==4) ((gv k a1).bind λr14=>cond (r14) ((fT k a1).bind λr15=>cond (r15) ((tY k a1.zero (-128:Int) (127:Int)).bind λr16=>cond (r16) (some (a0,true)) (some ((⟨(0:Int),(0:Int),(0:Int)⟩:Shape),false))) (some ((⟨(0:Int),(0:Int),(0:Int)⟩:Shape),false))) (some ((⟨(0:Int),(0:Int),(0:Int)⟩:Shape),false))) (cond (a1.kind==5) ((gv k a1).bind λr17=>cond (r17) ((fT k a1).bind λr18=>cond (r18) (cond (a1.zero==0) (cond (decide (r2<=8)) (some ((⟨(1:Int),(1:Int),r2⟩:Shape),true)) (some ((⟨(0:Int),(0:Int),(0:Int)⟩:Shape),false))) (some ((⟨(0:Int),(0:Int),(0:Int)⟩:Shape),false))) (some ((⟨(0:Int),(0:Int),(0:Int)⟩:Shape),false))) (some ((⟨(0:Int),(0:Int),(0:Int)⟩:Shape),false))) (some ((⟨(0:Int),(0:Int),(0:Int)⟩:Shape),false))))))))
def gS {ρ:Type} (k:Nat) (p:List aq× Int) (v:Int× List Shape× Int× Int× Int) (next:(Int× List Shape× Int× Int× Int)->Option ρ) (x0:(List Shape)->Option ρ) (eF:Bool->Option ρ):Option ρ:=
 cond (decide (v.1<p.2)) ((idx p.1 v.1).bind λe1=>(px k (⟨v.2.2.1,v.2.2.2.1,v.2.2.2.2⟩:Shape) e1).bind λr2=>cond (!r2.2) (eF false) (cond (Nat.ble (v.2.1.length+[r2.1].length) aO) (next (i64.wrap (v.1+1),v.2.1++[r2.1],r2.1.h,r2.1.w,r2.1.c)) none)) (x0 v.2.1)
def kB (k:Nat) (a0:Model):Option (List Shape× Bool):=
 iter (λu5 n5=>gS k (a0.aE,(a0.aE.length:Int)) u5 n5 (λy3=>some (y3,true)) (λy4=>some (([]:List Shape),y4))) k ((0:Int),[a0.inp],a0.inp.h,a0.inp.w,a0.inp.c)
def py (k:Nat) (a0:Model):Option (Bool):=
 (tY k (a0.aE.length:Int) (1:Int) (6:Int)).bind λr1=>cond (!r1) (some false) ((kB k a0).bind λr2=>some r2.2)
def tb (k:Nat) (a0:Model):Option (List Shape):=
 (py k a0).bind λr1=>cond (!r1) (some ([]:List Shape)) ((kB k a0).bind λr2=>some r2.1)
def Ff (k:Nat) (a0:Shape) (a1:aq):Option (Int):=
 (px k a0 a1).bind λr1=>cond (!r1.2) (some (0:Int)) ((kA k a0).bind λr2=>cond (a1.kind==0) ((kA k r1.1).bind λr3=>some (i64.wrap ((1:Int)+(i64.wrap ((i64.wrap (r2*r3)).tdiv (16:Int)))))) (cond (a1.kind==1) ((kA k r1.1).bind λr4=>some (i64.wrap ((1:Int)+(i64.wrap ((i64.wrap ((i64.wrap ((i64.wrap (r4*a1.size))*a1.size))*a0.c)).tdiv (16:Int)))))) (cond (a1.kind==2) ((kA k r1.1).bind λr5=>some (i64.wrap ((1:Int)+(i64.wrap ((i64.wrap ((i64.wrap (r5*a1.size))*a1.size)).tdiv (16:Int)))))) (cond (a1.kind==3) ((kA k r1.1).bind λr6=>some (i64.wrap ((1:Int)+(i64.wrap ((i64.wrap ((i64.wrap (r6*a1.size))*a1.size)).tdiv (16:Int)))))) (some (i64.wrap ((1:Int)+(i64.wrap (r2.tdiv (16:Int))))))))))
def nP {ρ:Type} (k:Nat) (p:Int× Int× Int× Int× List aq× List Shape) (v:Int× List Int) (next:(Int× List Int)->Option ρ) (x0:(List Int)->Option ρ):Option ρ:=
 cond (decide (v.1<p.1)) (cond (decide (0<=v.1/\v.1<(p.2.2.2.2.2.length:Int))) ((p.2.2.2.2.2[v.1.toNat]?).bind λe2=>cond (decide (v.1<(p.2.2.2.2.1.length:Int))) ((idx p.2.2.2.2.1 v.1).bind λe3=>(Ff k e2 e3).bind λr4=>cond (Nat.ble (v.2.length+[r4].length) aO) (next (i64.wrap (v.1+1),v.2++[r4])) none) (next (i64.wrap (v.1+1),v.2))) none) (x0 v.2)
def mP (k:Nat) (a0:Model):Option (List Int):=
 (tb k a0).bind λr1=>iter (λu6 n6=>nP k ((r1.length:Int),a0.inp.h,a0.inp.w,a0.inp.c,a0.aE,r1) u6 n6 (λy5=>some y5)) k ((0:Int),([]:List Int))
def zR {ρ:Type} (k:Nat) (p:List Int× Int) (v:Int× Int) (next:(Int× Int)->Option ρ) (x0:Int->Option ρ):Option ρ:=
 cond (decide (v.2<p.2)) ((idx p.1 v.2).bind λe1=>next (i64.wrap (v.1+e1),i64.wrap (v.2+1))) (x0 v.1)
def Q8 (k:Nat) (a0:List Int):Option (Int):=
 iter (λu3 n3=>zR k (a0,(a0.length:Int)) u3 n3 (λy2=>some y2)) k ((0:Int),(0:Int))
def uN (k:Nat) (a0:Model):Option (Int):=
 (mP k a0).bind λr1=>(Q8 k r1).bind λr2=>some r2
end
end
set_option maxRecDepth 100000
section
noncomputable section
def k6 {ρ:Type} (k:Nat) (p:Int× Int× Int× List Task× Int× Int× Int× Int× Int× Int× Int× Int× Int× Int× Int× Int× Int× Int× Int× Int× Int× Int) (v:Int× List Task) (next:(Int× List Task)->Option ρ) (x0:(List Task)->Option ρ):Option ρ:=
 cond (decide (v.1<(p.2.2.2.1.length:Int))) ((idx p.2.2.2.1 v.1).bind λe1=>(kV k e1.ax).bind λr2=>cond (Nat.ble (v.2.length+1) aO) (next (i64.wrap (v.1+1),v.2++[(⟨e1.id,r2,e1.at_,e1.due,e1.born⟩:Task)])) none) (x0 v.2)
def mQ (k:Nat) (a0:al):Option (al):=
 iter (λu4 n4=>k6 k (a0.now,a0.aj,a0.age,a0.tasks,a0.run,a0.left,a0.turns,a0.next,(0:Int),(0:Int),(0:Int),(0:Int),(0:Int),(0:Int),(0:Int),a0.now,a0.aj,a0.age,a0.run,a0.left,a0.turns,a0.next) u4 n4 (λy3=>some (⟨a0.now,a0.aj,a0.age,y3,a0.run,a0.left,a0.turns,a0.next⟩:al))) k ((0:Int),([]:List Task))
def k7 (k:Nat) (a0:Int):Option (Bool):=
 (bm k a0 (0:Int) (1000000:Int)).bind λr1=>some r1
def qv {ρ:Type} (k:Nat) (p:Int× List Int× Int× Int× Int) (v:Int) (next:Int->Option ρ) (x0:Unit->Option ρ) (eF:Bool->Option ρ):Option ρ:=
 cond (decide (v<(p.2.1.length:Int))) ((idx p.2.1 v).bind λe6=>(bm k e6 (1:Int) (1000:Int)).bind λr7=>cond (!r7) (eF false) (next (i64.wrap (v+1)))) (x0 ())
def vO (k:Nat) (a0:Task):Option (Bool):=
 (bm k a0.id (1:Int) (1000000:Int)).bind λr1=>cond (!r1) (some false) ((bm k (a0.ax.length:Int) (1:Int) (6:Int)).bind λr2=>cond (!r2) (some false) ((bm k a0.at_ (0:Int) (i64.wrap ((a0.ax.length:Int)-(1:Int)))).bind λr3=>cond (!r3) (some false) ((k7 k a0.due).bind λr4=>cond (!r4) (some false) ((k7 k a0.born).bind λr5=>cond (!r5) (some false) (iter (λu10 n10=>qv k (a0.id,a0.ax,a0.at_,a0.due,a0.born) u10 n10 (λy8=>some true) (λy9=>some y9)) k (0:Int))))))
def tc {ρ:Type} (k:Nat) (p:Int× Int× Int× Int× List Task× Int× Int× Int× Int) (v:Int) (next:Int->Option ρ) (x0:Unit->Option ρ) (eF:Int->Option ρ):Option ρ:=
 cond (decide (v<(p.2.2.2.2.1.length:Int))) ((idx p.2.2.2.2.1 v).bind λe1=>cond (e1.id==p.1) (eF v) (next (i64.wrap (v+1)))) (x0 ())
def lF (k:Nat) (a0:al) (a1:Int):Option (Int):=
 iter (λu4 n4=>tc k (a1,a0.now,a0.aj,a0.age,a0.tasks,a0.run,a0.left,a0.turns,a0.next) u4 n4 (λy2=>some (-1:Int)) (λy3=>some y3)) k (0:Int)
def nQ {ρ:Type} (k:Nat) (p:Int× Int× Int× List Task× Int× Int× Int× Int) (v:Int) (next:Int->Option ρ) (x0:Unit->Option ρ) (eF:Bool->Option ρ):Option ρ:=
 cond (decide (v<(p.2.2.2.1.length:Int))) ((idx p.2.2.2.1 v).bind λe6=>(vO k e6).bind λr7=>cond (!r7) (eF false) (cond (decide (e6.id>=p.2.2.2.2.2.2.2)) (eF false) (cond (decide (e6.born>p.1)) (eF false) (cond (decide (v>0)) ((idx p.2.2.2.1 (i64.wrap (v-1))).bind λe8=>cond (decide (e8.id>=e6.id)) (eF false) (next (i64.wrap (v+1)))) (next (i64.wrap (v+1))))))) (x0 ())
def fl (k:Nat) (a0:al):Option (Bool):=
 (k7 k a0.now).bind λr1=>cond (!r1) (some false) ((bm k a0.aj (0:Int) (1000:Int)).bind λr2=>cond (!r2) (some false) ((bm k a0.age (0:Int) (20:Int)).bind λr3=>cond (!r3) (some false) (cond (decide ((a0.tasks.length:Int)>(12:Int))) (some false) ((k7 k a0.turns).bind λr4=>cond (!r4) (some false) ((bm k a0.next (1:Int) (1000000:Int)).bind λr5=>cond (!r5) (some false) (iter (λu16 n16=>nQ k (a0.now,a0.aj,a0.age,a0.tasks,a0.run,a0.left,a0.turns,a0.next) u16 n16 (λy9=>cond (a0.run==0) (some (a0.left==0)) ((lF k a0 a0.run).bind λr10=>cond (decide (r10>=0)) ((idx a0.tasks r10).bind λe11=>(idx a0.tasks r10).bind λe12=>(idx e11.ax e12.at_).bind λe13=>(bm k a0.left (1:Int) e13).bind λr14=>some r14) (some false))) (λy15=>some y15)) k (0:Int)))))))
def mR {ρ:Type} (k:Nat) (p:Int× Int× Int× List Task× Int× Int× Int× Int) (v:Int× List Int) (next:(Int× List Int)->Option ρ) (x0:(List Int)->Option ρ):Option ρ:=
 cond (decide (v.1<(p.2.2.2.1.length:Int))) ((idx p.2.2.2.1 v.1).bind λe2=>cond (decide (e2.due<=p.1)) ((idx p.2.2.2.1 v.1).bind λe3=>cond (Nat.ble (v.2.length+[e3.id].length) aO) (next (i64.wrap (v.1+1),v.2++[e3.id])) none) (next (i64.wrap (v.1+1),v.2))) (x0 v.2)
def zS (k:Nat) (a0:al):Option (List Int):=
 (fl k a0).bind λr1=>cond (!r1) (some ([]:List Int)) (iter (λu5 n5=>mR k (a0.now,a0.aj,a0.age,a0.tasks,a0.run,a0.left,a0.turns,a0.next) u5 n5 (λy4=>some y4)) k ((0:Int),([]:List Int)))
def jA {ρ:Type} (k:Nat) (p:Int× Int× Int× Int× List Task× Int× Int× Int× Int× Int× List Int× Int× Int× Int) (v:Int× Int) (next:(Int× Int)->Option ρ) (x0:Int->Option ρ):Option ρ:=
 cond (decide (v.2<(p.2.2.2.2.2.2.2.2.2.2.1.length:Int))) ((idx p.2.2.2.2.2.2.2.2.2.2.1 v.2).bind λe4=>next (i64.wrap (v.1+e4),i64.wrap (v.2+1))) (x0 v.1)
def tf (k:Nat) (a0:al) (a1:Int):Option (Int):=
 (lF k a0 a1).bind λr1=>(fl k a0).bind λr2=>cond (!r2) (some (-1:Int)) (cond (decide (r1<0)) (some (-1:Int)) ((idx a0.tasks r1).bind λe3=>iter (λu7 n7=>jA k (a1,a0.now,a0.aj,a0.age,a0.tasks,a0.run,a0.left,a0.turns,a0.next,e3.id,e3.ax,e3.at_,e3.due,e3.born) u7 n7 (λy5=>cond (a0.run==a1) ((idx e3.ax e3.at_).bind λe6=>some (i64.wrap ((i64.wrap (y5-e6))+a0.left))) (some y5))) k ((0:Int),e3.at_)))
def jB {ρ:Type} (k:Nat) (p:Int× Int× Int× Int× List Task× Int× Int× Int× Int) (v:Int× Int) (next:(Int× Int)->Option ρ) (x0:Int->Option ρ):Option ρ:=
 cond (decide (v.2<(p.2.2.2.2.1.length:Int))) ((idx p.2.2.2.2.1 v.2).bind λe2=>cond (decide (e2.due<=p.1)) ((idx p.2.2.2.2.1 v.2).bind λe3=>(tf k (⟨p.2.1,p.2.2.1,p.2.2.2.1,p.2.2.2.2.1,p.2.2.2.2.2.1,p.2.2.2.2.2.2.1,p.2.2.2.2.2.2.2.1,p.2.2.2.2.2.2.2.2⟩:al) e3.id).bind λr4=>next (i64.wrap (v.1+r4),i64.wrap (v.2+1))) (next (v.1,i64.wrap (v.2+1)))) (x0 v.1)
def tj (k:Nat) (a0:al) (a1:Int):Option (Int):=
 (fl k a0).bind λr1=>cond (!r1) (some (-1:Int)) (iter (λu6 n6=>jB k (a1,a0.now,a0.aj,a0.age,a0.tasks,a0.run,a0.left,a0.turns,a0.next) u6 n6 (λy5=>some y5)) k ((0:Int),(0:Int)))
def vP (k:Nat) (a0:al) (a1:Int):Option (Int):=
 (fl k a0).bind λr1=>cond (!r1) (some (-1:Int)) ((lF k a0 a0.run).bind λr2=>cond (decide (r2>=0)) ((idx a0.tasks r2).bind λe3=>cond (decide (e3.due>a1)) (some a0.left) (some (0:Int))) (some (0:Int)))
def qw {ρ:Type} (k:Nat) (p:Int× Int× Int× List Task× Int× Int× Int× Int) (v:Int) (next:Int->Option ρ) (x0:Unit->Option ρ) (eF:Bool->Option ρ):Option ρ:=
 cond (decide (v<(p.2.2.2.1.length:Int))) ((idx p.2.2.2.1 v).bind λe3=>(tj k (⟨p.1,p.2.1,p.2.2.1,p.2.2.2.1,p.2.2.2.2.1,p.2.2.2.2.2.1,p.2.2.2.2.2.2.1,p.2.2.2.2.2.2.2⟩:al) e3.due).bind λr4=>(vP k (⟨p.1,p.2.1,p.2.2.1,p.2.2.2.1,p.2.2.2.2.1,p.2.2.2.2.2.1,p.2.2.2.2.2.2.1,p.2.2.2.2.2.2.2⟩:al) e3.due).bind λr5=>cond (decide ((i64.wrap ((i64.wrap (r4+r5))+p.2.1))>(i64.wrap (e3.due-p.1)))) (eF false) (next (i64.wrap (v+1)))) (x0 ())
def zT (k:Nat) (a0:al):Option (Bool):=
 (fl k a0).bind λr1=>cond (!r1) (some false) ((zS k a0).bind λr2=>cond (decide ((r2.length:Int)>(0:Int))) (some false) (iter (λu8 n8=>qw k (a0.now,a0.aj,a0.age,a0.tasks,a0.run,a0.left,a0.turns,a0.next) u8 n8 (λy6=>some true) (λy7=>some y7)) k (0:Int)))
def Fg (k:Nat) (a0:al) (a1:List Int) (a2:Int):Option (al× Int× Int):=
 (mQ k a0).bind λr1=>(kV k a1).bind λr2=>(fl k a0).bind λr3=>cond (!r3) (some (r1,(0:Int),(1:Int))) ((vO k (⟨a0.next,r2,(0:Int),a2,a0.now⟩:Task)).bind λr4=>cond (!r4) (some (r1,(0:Int),(1:Int))) (cond ((a0.tasks.length:Int)==(12:Int)) (some (r1,(0:Int),(2:Int))) (cond (a0.next==1000000) (some (r1,(0:Int),(2:Int))) (cond (Nat.ble (r1.tasks.length+1) aO) ((zT k (⟨r1.now,r1.aj,r1.age,(r1.tasks++[(⟨a0.next,r2,(0:Int),a2,a0.now⟩:Task)]),r1.run,r1.left,r1.turns,(i64.wrap (a0.next+1))⟩:al)).bind λr5=>cond (!r5) ((mQ k a0).bind λr6=>some (r6,(0:Int),(3:Int))) (some ((⟨r1.now,r1.aj,r1.age,(r1.tasks++[(⟨a0.next,r2,(0:Int),a2,a0.now⟩:Task)]),r1.run,r1.left,r1.turns,(i64.wrap (a0.next+1))⟩:al),a0.next,(0:Int)))) none))))
def gT {ρ:Type} (k:Nat) (p:List Task× Int× Int× Int× Int× Int× Int× Int× Int× Int× Int× Int× Int× Int× Int× Int) (v:Int× List Task) (next:(Int× List Task)->Option ρ) (x0:(List Task)->Option ρ):Option ρ:=
 cond (decide (v.1<p.2.1)) ((idx p.1 v.1).bind λe1=>(cg k e1.ax).bind λr2=>cond (Nat.ble (v.2.length+1) aO) (next (i64.wrap (v.1+1),v.2++[(⟨e1.id,r2,e1.at_,e1.due,e1.born⟩:Task)])) none) (x0 v.2)
def ir (k:Nat) (a0:al):Option (al):=
 iter (λu4 n4=>gT k (a0.tasks,(a0.tasks.length:Int),a0.now,a0.aj,a0.age,a0.run,a0.left,a0.turns,a0.next,(0:Int),(0:Int),(0:Int),(0:Int),(0:Int),(0:Int),(0:Int)) u4 n4 (λy3=>some (⟨a0.now,a0.aj,a0.age,y3,a0.run,a0.left,a0.turns,a0.next⟩:al))) k ((0:Int),([]:List Task))
def qx (k:Nat) (a0:Int):Option (Bool):=
 (tY k a0 (0:Int) (1000000:Int)).bind λr1=>some r1
def Bg (k:Nat) (a0:Int):Option (Bool):=
 (tY k a0 (1:Int) (1000:Int)).bind λr1=>some (!r1)
def bU {ρ:Type} (k:Nat) (p:List Int× Int) (v:Int) (next:Int->Option ρ) (x0:Unit->Option ρ) (eF:Int->Option ρ):Option ρ:=
 cond (decide (v<p.2)) ((idx p.1 v).bind λe1=>(Bg k e1).bind λr2=>cond (r2) (eF v) (next (i64.wrap (v+1)))) (x0 ())
def dQ (k:Nat) (a0:List Int):Option (Int):=
 iter (λu5 n5=>bU k (a0,(a0.length:Int)) u5 n5 (λy3=>some (-1:Int)) (λy4=>some y4)) k (0:Int)
def dw (k:Nat) (a0:List Int):Option (Bool):=
 (dQ k a0).bind λr1=>some (decide (r1>=0))
def zU (k:Nat) (a0:Task):Option (Bool):=
 (tY k a0.id (1:Int) (1000000:Int)).bind λr1=>cond (r1) ((tY k (a0.ax.length:Int) (1:Int) (6:Int)).bind λr2=>cond (r2) ((dw k a0.ax).bind λr3=>cond (!r3) ((tY k a0.at_ (0:Int) (i64.wrap ((a0.ax.length:Int)-(1:Int)))).bind λr4=>cond (r4) ((qx k a0.due).bind λr5=>cond (r5) ((qx k a0.born).bind λr6=>some r6) (some false)) (some false)) (some false)) (some false)) (some false)
def iI {ρ:Type} (k:Nat) (p:List Task× Int× Int× Int× Int× List Task× Int× Int× Int× Int) (v:Int) (next:Int->Option ρ) (x0:Unit->Option ρ) (eF:Bool->Option ρ):Option ρ:=
 cond (decide (v<p.2.1)) ((idx p.1 v).bind λe1=>(zU k e1).bind λr2=>cond (!r2) (eF false) (cond (decide (e1.id>=p.2.2.2.2.2.2.2.2.2)) (eF false) (cond (decide (e1.born>p.2.2.1)) (eF false) (cond (decide (v>0)) ((idx p.2.2.2.2.2.1 (i64.wrap (v-1))).bind λe3=>cond (decide (e3.id>=e1.id)) (eF false) (next (i64.wrap (v+1)))) (next (i64.wrap (v+1))))))) (x0 ())
def lG (k:Nat) (a0:al):Option (Bool):=
 iter (λu6 n6=>iI k (a0.tasks,(a0.tasks.length:Int),a0.now,a0.aj,a0.age,a0.tasks,a0.run,a0.left,a0.turns,a0.next) u6 n6 (λy4=>some (decide ((a0.tasks.length:Int)<=(12:Int)))) (λy5=>some y5)) k (0:Int)
def pz (k:Nat) (a0:Task) (Fh:Int):Option (Bool):=
 cond (decide (Fh=Fh)) (some (a0.id==Fh)) none
def cJ {ρ:Type} (k:Nat) (p:List Task× Int× Int) (v:Int) (next:Int->Option ρ) (x0:Unit->Option ρ) (eF:Int->Option ρ):Option ρ:=
 cond (decide (v<p.2.1)) ((idx p.1 v).bind λe1=>(pz k e1 p.2.2).bind λr2=>cond (r2) (eF v) (next (i64.wrap (v+1)))) (x0 ())
def eR (k:Nat) (a0:List Task) (dx:Int):Option (Int):=
 iter (λu5 n5=>cJ k (a0,(a0.length:Int),dx) u5 n5 (λy3=>cond (decide (dx=dx)) (some (-1:Int)) none) (λy4=>cond (decide (dx=dx)) (some y4) none)) k (0:Int)
def dI (k:Nat) (a0:al) (a1:Int):Option (Int):=
 (eR k a0.tasks a1).bind λr1=>some r1
def sa (k:Nat) (a0:al):Option (Bool):=
 (qx k a0.now).bind λr1=>cond (!r1) (some false) ((tY k a0.aj (0:Int) (1000:Int)).bind λr2=>cond (!r2) (some false) ((tY k a0.age (0:Int) (20:Int)).bind λr3=>cond (!r3) (some false) ((qx k a0.turns).bind λr4=>cond (!r4) (some false) ((tY k a0.next (1:Int) (1000000:Int)).bind λr5=>cond (!r5) (some false) ((lG k a0).bind λr6=>cond (!r6) (some false) ((dI k a0 a0.run).bind λr7=>cond (a0.run==0) (cond (a0.run==0) (some (a0.left==0)) (some false)) (cond (decide (r7<0)) (cond (a0.run==0) (some (a0.left==0)) (some false)) ((idx a0.tasks r7).bind λe8=>(idx a0.tasks r7).bind λe9=>(idx e8.ax e9.at_).bind λe10=>(tY k a0.left (1:Int) e10).bind λr11=>some r11))))))))
def dG (k:Nat) (a0:al) (a1:Task):Option (Bool):=
 some (decide (a1.due<=a0.now))
def oJ (k:Nat) (a0:al) (a1:Task):Option (Int):=
 cond (decide (0<=a1.at_/\a1.at_<=(a1.ax.length:Int))) ((Q8 k ((a1.ax.take a1.ax.length).drop a1.at_.toNat)).bind λr1=>cond (a0.run==a1.id) ((idx a1.ax a1.at_).bind λe2=>some (i64.wrap (r1+(i64.wrap (a0.left-e2))))) (some r1)) none
def gU {ρ:Type} (k:Nat) (p:Int× List Task× Int× Int× Int× Int× List Task× Int× Int× Int× Int) (v:Int× Int) (next:(Int× Int)->Option ρ) (x0:Int->Option ρ):Option ρ:=
 cond (decide (v.2<p.2.2.1)) ((idx p.2.1 v.2).bind λe1=>cond (decide (e1.due<=p.1)) ((oJ k (⟨p.2.2.2.1,p.2.2.2.2.1,p.2.2.2.2.2.1,p.2.2.2.2.2.2.1,p.2.2.2.2.2.2.2.1,p.2.2.2.2.2.2.2.2.1,p.2.2.2.2.2.2.2.2.2.1,p.2.2.2.2.2.2.2.2.2.2⟩:al) e1).bind λr2=>next (i64.wrap (v.1+r2),i64.wrap (v.2+1))) (next (v.1,i64.wrap (v.2+1)))) (x0 v.1)
def oK (k:Nat) (a0:al) (a1:Int):Option (Int):=
 iter (λu4 n4=>gU k (a1,a0.tasks,(a0.tasks.length:Int),a0.now,a0.aj,a0.age,a0.tasks,a0.run,a0.left,a0.turns,a0.next) u4 n4 (λy3=>some y3)) k ((0:Int),(0:Int))
def qy (k:Nat) (a0:al) (a1:Int):Option (Int):=
 (dI k a0 a0.run).bind λr1=>cond (decide (r1>=0)) ((idx a0.tasks r1).bind λe2=>cond (decide (e2.due>a1)) (some a0.left) (some (0:Int))) (some (0:Int))
def qz (k:Nat) (a0:Task) (a1:al):Option (Bool):=
 (dG k a1 a0).bind λr1=>cond (r1) (cond (decide (a1.now=a1.now)) (cond (decide (a1.aj=a1.aj)) (cond (decide (a1.age=a1.age)) (cond (decide (a1.tasks=a1.tasks)) (cond (decide (a1.run=a1.run)) (cond (decide (a1.left=a1.left)) (cond (decide (a1.turns=a1.turns)) (cond (decide (a1.next=a1.next)) (some true) none) none) none) none) none) none) none) none) ((oK k a1 a0.due).bind λr2=>(qy k a1 a0.due).bind λr3=>cond (decide (a1.now=a1.now)) (cond (decide (a1.aj=a1.aj)) (cond (decide (a1.age=a1.age)) (cond (decide (a1.tasks=a1.tasks)) (cond (decide (a1.run=a1.run)) (cond (decide (a1.left=a1.left)) (cond (decide (a1.turns=a1.turns)) (cond (decide (a1.next=a1.next)) (some (decide ((i64.wrap ((i64.wrap (r2+r3))+a1.aj))>(i64.wrap (a0.due-a1.now))))) none) none) none) none) none) none) none) none)
def cw {ρ:Type} (k:Nat) (p:List Task× Int× Int× Int× Int× List Task× Int× Int× Int× Int) (v:Int) (next:Int->Option ρ) (x0:Unit->Option ρ) (eF:Int->Option ρ):Option ρ:=
 cond (decide (v<p.2.1)) ((idx p.1 v).bind λe1=>(qz k e1 (⟨p.2.2.1,p.2.2.2.1,p.2.2.2.2.1,p.2.2.2.2.2.1,p.2.2.2.2.2.2.1,p.2.2.2.2.2.2.2.1,p.2.2.2.2.2.2.2.2.1,p.2.2.2.2.2.2.2.2.2⟩:al)).bind λr2=>cond (r2) (eF v) (next (i64.wrap (v+1)))) (x0 ())
def eG (k:Nat) (a0:List Task) (eH:al):Option (Int):=
 iter (λu5 n5=>cw k (a0,(a0.length:Int),eH.now,eH.aj,eH.age,eH.tasks,eH.run,eH.left,eH.turns,eH.next) u5 n5 (λy3=>cond (decide (eH.now=eH.now)) (cond (decide (eH.aj=eH.aj)) (cond (decide (eH.age=eH.age)) (cond (decide (eH.tasks=eH.tasks)) (cond (decide (eH.run=eH.run)) (cond (decide (eH.left=eH.left)) (cond (decide (eH.turns=eH.turns)) (cond (decide (eH.next=eH.next)) (some (-1:Int)) none) none) none) none) none) none) none) none) (λy4=>cond (decide (eH.now=eH.now)) (cond (decide (eH.aj=eH.aj)) (cond (decide (eH.age=eH.age)) (cond (decide (eH.tasks=eH.tasks)) (cond (decide (eH.run=eH.run)) (cond (decide (eH.left=eH.left)) (cond (decide (eH.turns=eH.turns)) (cond (decide (eH.next=eH.next)) (some y4) none) none) none) none) none) none) none) none)) k (0:Int)
def eg (k:Nat) (a0:List Task) (eH:al):Option (Bool):=
 (eG k a0 eH).bind λr1=>cond (decide (eH.now=eH.now)) (cond (decide (eH.aj=eH.aj)) (cond (decide (eH.age=eH.age)) (cond (decide (eH.tasks=eH.tasks)) (cond (decide (eH.run=eH.run)) (cond (decide (eH.left=eH.left)) (cond (decide (eH.turns=eH.turns)) (cond (decide (eH.next=eH.next)) (some (decide (r1>=0))) none) none) none) none) none) none) none) none
def Fi (k:Nat) (a0:al):Option (Bool):=
 (sa k a0).bind λr1=>cond (r1) ((eg k a0.tasks a0).bind λr2=>some (!r2)) (some false)
def JK (k:Nat) (a0:al) (a1:List Int) (a2:Int):Option (al× Int× Int):=
 (cg k a1).bind λr1=>(ir k a0).bind λr2=>(sa k a0).bind λr3=>cond (!r3) (some (r2,(0:Int),(1:Int))) ((zU k (⟨a0.next,r1,(0:Int),a2,a0.now⟩:Task)).bind λr4=>cond (!r4) (some (r2,(0:Int),(1:Int))) (cond ((a0.tasks.length:Int)==(12:Int)) (some (r2,(0:Int),(2:Int))) (cond (a0.next==1000000) (some (r2,(0:Int),(2:Int))) ((ir k a0).bind λr5=>cond (Nat.ble (r5.tasks.length+1) aO) ((Fi k (⟨r5.now,r5.aj,r5.age,(r5.tasks++[(⟨a0.next,r1,(0:Int),a2,a0.now⟩:Task)]),r5.run,r5.left,r5.turns,(i64.wrap (r5.next+1))⟩:al)).bind λr6=>cond (!r6) (some (r2,(0:Int),(3:Int))) (some ((⟨r5.now,r5.aj,r5.age,(r5.tasks++[(⟨a0.next,r1,(0:Int),a2,a0.now⟩:Task)]),r5.run,r5.left,r5.turns,(i64.wrap (r5.next+1))⟩:al),a0.next,(0:Int)))) none))))
end
end
set_option maxRecDepth 100000
section
noncomputable section
def iu {ρ:Type} (k:Nat) (p:Int× Int× Int× Int× Int× Int× Int× Int× List dY) (v:Int× List dY) (next:(Int× List dY)->Option ρ) (x0:(List dY)->Option ρ):Option ρ:=
 cond (decide (v.1<(p.2.2.2.2.2.2.2.2.length:Int))) (cond (decide (0<=v.1/\v.1<(p.2.2.2.2.2.2.2.2.length:Int))) ((p.2.2.2.2.2.2.2.2[v.1.toNat]?).bind λe1=>cond (e1.id !=p.1) (cond (decide (0<=v.1/\v.1<(p.2.2.2.2.2.2.2.2.length:Int))) ((p.2.2.2.2.2.2.2.2[v.1.toNat]?).bind λe2=>cond (Nat.ble (v.2.length+[e2].length) aO) (next (i64.wrap (v.1+1),v.2++[e2])) none) none) (next (i64.wrap (v.1+1),v.2))) none) (x0 v.2)
def gx (k:Nat) (aZ:Int) (fA:Int) (fm:Int) (pS:List dY) (Bh:Int) (Fj:Int) (xA:Int) (nR:Int) (a1:Int):Option (List dY):=
 iter (λu4 n4=>iu k (a1,aZ,fA,fm,Bh,Fj,xA,nR,pS) u4 n4 (λy3=>cond (decide (aZ=aZ)) (cond (decide (fA=fA)) (cond (decide (fm=fm)) (cond (decide (Bh=Bh)) (cond (decide (Fj=Fj)) (cond (decide (xA=xA)) (cond (decide (nR=nR)) (some y3) none) none) none) none) none) none) none)) k ((0:Int),([]:List dY))
def k8 (k:Nat) (a0:al) (a1:Int):Option (al× Bool):=
 (mQ k a0).bind λr1=>(fl k a0).bind λr2=>cond (!r2) (some (r1,false)) ((lF k a0 a1).bind λr3=>cond (decide (r3<0)) (some (r1,false)) ((lE r1.tasks).bind λy4=>(gx k r1.now r1.aj r1.age y4 r1.run r1.left r1.turns r1.next a1).bind λr5=>cond (j8 r5) ((rf r1.tasks r5).bind λz6=>cond (r1.run==a1) (some ((⟨r1.now,r1.aj,r1.age,z6,(0:Int),(0:Int),r1.turns,r1.next⟩:al),true)) (some ((⟨r1.now,r1.aj,r1.age,z6,r1.run,r1.left,r1.turns,r1.next⟩:al),true))) none))
def fF (k:Nat) (a0:dY) (Fh:Int):Option (Bool):=
 cond (decide (Fh=Fh)) (some (a0.id==Fh)) none
def cy {ρ:Type} (k:Nat) (p:List dY× Int× Int) (v:Int) (next:Int->Option ρ) (x0:Unit->Option ρ) (eF:Int->Option ρ):Option ρ:=
 cond (decide (v<p.2.1)) ((idx p.1 v).bind λe1=>(fF k e1 p.2.2).bind λr2=>cond (r2) (eF v) (next (i64.wrap (v+1)))) (x0 ())
def c7 (k:Nat) (a0:List dY) (dx:Int):Option (Int):=
 iter (λu5 n5=>cy k (a0,(a0.length:Int),dx) u5 n5 (λy3=>cond (decide (dx=dx)) (some (-1:Int)) none) (λy4=>cond (decide (dx=dx)) (some y4) none)) k (0:Int)
def bw {ρ:Type} (k:Nat) (p:Int) (v:Int× Int× List dY) (next:(Int× Int× List dY)->Option ρ) (x0:(Int× List dY)->Option ρ):Option ρ:=
 cond (decide (v.2.1<(v.2.2.length:Int))) (cond (decide (0<=v.2.1/\v.2.1<(v.2.2.length:Int))) ((v.2.2[v.2.1.toNat]?).bind λe2=>(fF k e2 p).bind λr3=>cond (!r3) (cond (decide (0<=v.1/\v.1<(v.2.2.length:Int))) (next (i64.wrap (v.1+1),i64.wrap (v.2.1+1),v.2.2.set v.1.toNat e2)) none) (next (v.1,i64.wrap (v.2.1+1),v.2.2))) none) (x0 (v.1,v.2.2))
def bJ (k:Nat) (a0:List dY) (dx:Int):Option (List dY):=
 (c7 k a0 dx).bind λr1=>cond (r1==(-1:Int)) (cond (decide (dx=dx)) (some a0) none) (iter (λu5 n5=>bw k dx u5 n5 (λy4=>cond (decide (0<=y4.1/\y4.1<=(y4.2.length:Int))) (cond (decide (0<=y4.1/\y4.1<=(((y4.2).take y4.1.toNat++List.replicate (y4.2.length-y4.1.toNat) (⟨(0:Int),(0:Nat),(0:Int),(0:Int),(0:Int)⟩:dY)++(y4.2).drop (y4.1.toNat+(y4.2.length-y4.1.toNat))).length:Int))) (cond (decide (dx=dx)) (some (((y4.2).take y4.1.toNat++List.replicate (y4.2.length-y4.1.toNat) (⟨(0:Int),(0:Nat),(0:Int),(0:Int),(0:Int)⟩:dY)++(y4.2).drop (y4.1.toNat+(y4.2.length-y4.1.toNat))).take (y4.1.toNat-0))) none) none) none)) k (r1,i64.wrap (r1+1),a0))
def dR (k:Nat) (aZ:Int) (fA:Int) (fm:Int) (pS:List dY) (Bh:Int) (Fj:Int) (xA:Int) (nR:Int) (a1:Int):Option (List dY× Int× Int):=
 (bJ k pS a1).bind λr1=>cond (Bh==a1) (cond (decide (aZ=aZ)) (cond (decide (fA=fA)) (cond (decide (fm=fm)) (cond (decide (xA=xA)) (cond (decide (nR=nR)) (some (r1,(0:Int),(0:Int))) none) none) none) none) none) (cond (decide (aZ=aZ)) (cond (decide (fA=fA)) (cond (decide (fm=fm)) (cond (decide (xA=xA)) (cond (decide (nR=nR)) (some (r1,Bh,Fj)) none) none) none) none) none)
end
end
set_option maxRecDepth 100000
section
noncomputable section
def eS {ρ:Type} (k:Nat) (p:Int× Int× Int× List Task× Int× Int× Int× Int) (v:Int× Int× Int) (next:(Int× Int× Int)->Option ρ) (x0:(Int× Int)->Option ρ):Option ρ:=
 cond (decide (v.2.2<(p.2.2.2.1.length:Int))) ((idx p.2.2.2.1 v.2.2).bind λe2=>cond (decide (e2.due<=p.1)) (cond (decide (v.1<0)) (next (v.2.2,v.2.1,i64.wrap (v.2.2+1))) ((idx p.2.2.2.1 v.1).bind λe3=>cond (decide (e2.born<e3.born)) (next (v.2.2,v.2.1,i64.wrap (v.2.2+1))) (next (v.1,v.2.1,i64.wrap (v.2.2+1))))) (cond (decide (v.2.1<0)) (next (v.1,v.2.2,i64.wrap (v.2.2+1))) ((idx p.2.2.2.1 v.2.1).bind λe4=>cond (decide (e2.due<e4.due)) (next (v.1,v.2.2,i64.wrap (v.2.2+1))) (next (v.1,v.2.1,i64.wrap (v.2.2+1)))))) (x0 (v.1,v.2.1))
def tl (k:Nat) (a0:al):Option (Int):=
 (fl k a0).bind λr1=>cond (!r1) (some (0:Int)) (iter (λu11 n11=>eS k (a0.now,a0.aj,a0.age,a0.tasks,a0.run,a0.left,a0.turns,a0.next) u11 n11 (λy5=>cond (decide (y5.1>=0)) (cond (decide (y5.2<0)) ((idx a0.tasks y5.1).bind λe6=>some e6.id) (cond (decide (a0.age>0)) (cond (decide (a0.age=0)) none (cond ((a0.turns.tmod a0.age)==0) ((idx a0.tasks y5.1).bind λe7=>some e7.id) (cond (decide (y5.2>=0)) ((idx a0.tasks y5.2).bind λe8=>some e8.id) (some (0:Int))))) (cond (decide (y5.2>=0)) ((idx a0.tasks y5.2).bind λe9=>some e9.id) (some (0:Int))))) (cond (decide (y5.2>=0)) ((idx a0.tasks y5.2).bind λe10=>some e10.id) (some (0:Int))))) k ((-1:Int),(-1:Int),(0:Int)))
def qA (k:Nat) (a0:al) (a1:Bool):Option (al× Int× Bool):=
 (mQ k a0).bind λr1=>(fl k a0).bind λr2=>cond (!r2) (some (r1,(0:Int),false)) (cond (a0.now==1000000) (some (r1,(0:Int),false)) (cond (a1) (some ((⟨(i64.wrap (a0.now+1)),r1.aj,r1.age,r1.tasks,r1.run,r1.left,r1.turns,r1.next⟩:al),(0:Int),false)) (cond (r1.run==0) ((tl k a0).bind λr3=>cond (r3==0) (some ((⟨(i64.wrap (a0.now+1)),r1.aj,r1.age,r1.tasks,r1.run,r1.left,r1.turns,r1.next⟩:al),(0:Int),false)) ((lF k (⟨(i64.wrap (a0.now+1)),r1.aj,r1.age,r1.tasks,r1.run,r1.left,r1.turns,r1.next⟩:al) r3).bind λr4=>cond (decide (0<=r4/\r4<(r1.tasks.length:Int))) ((r1.tasks[r4.toNat]?).bind λe5=>(idx e5.ax e5.at_).bind λe6=>cond (decide ((i64.wrap (r1.turns+1))>1000000)) (cond (decide ((i64.wrap (e6-1))>0)) (some ((⟨(i64.wrap (a0.now+1)),r1.aj,r1.age,r1.tasks,r3,(i64.wrap (e6-1)),(0:Int),r1.next⟩:al),(0:Int),false)) ((lF k (⟨(i64.wrap (a0.now+1)),r1.aj,r1.age,r1.tasks,r3,(i64.wrap (e6-1)),(0:Int),r1.next⟩:al) r3).bind λr7=>cond (decide (0<=r7/\r7<(r1.tasks.length:Int))) ((r1.tasks[r7.toNat]?).bind λe8=>cond (decide (0<=r7/\r7<(r1.tasks.length:Int))) ((r1.tasks[r7.toNat]?).bind λe9=>cond (decide (0<=r7/\r7<((r1.tasks.set r7.toNat (⟨e9.id,e9.ax,(i64.wrap (e8.at_+1)),e9.due,e9.born⟩:Task)).length:Int))) (((r1.tasks.set r7.toNat (⟨e9.id,e9.ax,(i64.wrap (e8.at_+1)),e9.due,e9.born⟩:Task))[r7.toNat]?).bind λe10=>cond (decide (0<=r7/\r7<((r1.tasks.set r7.toNat (⟨e9.id,e9.ax,(i64.wrap (e8.at_+1)),e9.due,e9.born⟩:Task)).length:Int))) (((r1.tasks.set r7.toNat (⟨e9.id,e9.ax,(i64.wrap (e8.at_+1)),e9.due,e9.born⟩:Task))[r7.toNat]?).bind λe11=>cond (decide (e10.at_<(e11.ax.length:Int))) (some ((⟨(i64.wrap (a0.now+1)),r1.aj,r1.age,(r1.tasks.set r7.toNat (⟨e9.id,e9.ax,(i64.wrap (e8.at_+1)),e9.due,e9.born⟩:Task)),(0:Int),(i64.wrap (e6-1)),(0:Int),r1.next⟩:al),r3,false)) ((lE (r1.tasks.set r7.toNat (⟨e9.id,e9.ax,(i64.wrap (e8.at_+1)),e9.due,e9.born⟩:Task))).bind λy12=>(gx k (i64.wrap (a0.now+1)) r1.aj r1.age y12 (0:Int) (i64.wrap (e6-1)) (0:Int) r1.next r3).bind λr13=>cond (j8 r13) ((rf (r1.tasks.set r7.toNat (⟨e9.id,e9.ax,(i64.wrap (e8.at_+1)),e9.due,e9.born⟩:Task)) r13).bind λz14=>some ((⟨(i64.wrap (a0.now+1)),r1.aj,r1.age,z14,(0:Int),(i64.wrap (e6-1)),(0:Int),r1.next⟩:al),r3,true)) none)) none) none) none) none)) (cond (decide ((i64.wrap (e6-1))>0)) (some ((⟨(i64.wrap (a0.now+1)),r1.aj,r1.age,r1.tasks,r3,(i64.wrap (e6-1)),(i64.wrap (r1.turns+1)),r1.next⟩:al),(0:Int),false)) ((lF k (⟨(i64.wrap (a0.now+1)),r1.aj,r1.age,r1.tasks,r3,(i64.wrap (e6-1)),(i64.wrap (r1.turns+1)),r1.next⟩:al) r3).bind λr15=>cond (decide (0<=r15/\r15<(r1.tasks.length:Int))) ((r1.tasks[r15.toNat]?).bind λe16=>cond (decide (0<=r15/\r15<(r1.tasks.length:Int))) ((r1.tasks[r15.toNat]?).bind λe17=>cond (decide (0<=r15/\r15<((r1.tasks.set r15.toNat (⟨e17.id,e17.ax,(i64.wrap (e16.at_+1)),e17.due,e17.born⟩:Task)).length:Int))) (((r1.tasks.set r15.toNat (⟨e17.id,e17.ax,(i64.wrap (e16.at_+1)),e17.due,e17.born⟩:Task))[r15.toNat]?).bind λe18=>cond (decide (0<=r15/\r15<((r1.tasks.set r15.toNat (⟨e17.id,e17.ax,(i64.wrap (e16.at_+1)),e17.due,e17.born⟩:Task)).length:Int))) (((r1.tasks.set r15.toNat (⟨e17.id,e17.ax,(i64.wrap (e16.at_+1)),e17.due,e17.born⟩:Task))[r15.toNat]?).bind λe19=>cond (decide (e18.at_<(e19.ax.length:Int))) (some ((⟨(i64.wrap (a0.now+1)),r1.aj,r1.age,(r1.tasks.set r15.toNat (⟨e17.id,e17.ax,(i64.wrap (e16.at_+1)),e17.due,e17.born⟩:Task)),(0:Int),(i64.wrap (e6-1)),(i64.wrap (r1.turns+1)),r1.next⟩:al),r3,false)) ((lE (r1.tasks.set r15.toNat (⟨e17.id,e17.ax,(i64.wrap (e16.at_+1)),e17.due,e17.born⟩:Task))).bind λy20=>(gx k (i64.wrap (a0.now+1)) r1.aj r1.age y20 (0:Int) (i64.wrap (e6-1)) (i64.wrap (r1.turns+1)) r1.next r3).bind λr21=>cond (j8 r21) ((rf (r1.tasks.set r15.toNat (⟨e17.id,e17.ax,(i64.wrap (e16.at_+1)),e17.due,e17.born⟩:Task)) r21).bind λz22=>some ((⟨(i64.wrap (a0.now+1)),r1.aj,r1.age,z22,(0:Int),(i64.wrap (e6-1)),(i64.wrap (r1.turns+1)),r1.next⟩:al),r3,true)) none)) none) none) none) none))) none)) (cond (decide ((i64.wrap (r1.left-1))>0)) (some ((⟨(i64.wrap (a0.now+1)),r1.aj,r1.age,r1.tasks,r1.run,(i64.wrap (r1.left-1)),r1.turns,r1.next⟩:al),(0:Int),false)) ((lF k (⟨(i64.wrap (a0.now+1)),r1.aj,r1.age,r1.tasks,r1.run,(i64.wrap (r1.left-1)),r1.turns,r1.next⟩:al) r1.run).bind λr23=>cond (decide (0<=r23/\r23<(r1.tasks.length:Int))) ((r1.tasks[r23.toNat]?).bind λe24=>cond (decide (0<=r23/\r23<(r1.tasks.length:Int))) ((r1.tasks[r23.toNat]?).bind λe25=>cond (decide (0<=r23/\r23<((r1.tasks.set r23.toNat (⟨e25.id,e25.ax,(i64.wrap (e24.at_+1)),e25.due,e25.born⟩:Task)).length:Int))) (((r1.tasks.set r23.toNat (⟨e25.id,e25.ax,(i64.wrap (e24.at_+1)),e25.due,e25.born⟩:Task))[r23.toNat]?).bind λe26=>cond (decide (0<=r23/\r23<((r1.tasks.set r23.toNat (⟨e25.id,e25.ax,(i64.wrap (e24.at_+1)),e25.due,e25.born⟩:Task)).length:Int))) (((r1.tasks.set r23.toNat (⟨e25.id,e25.ax,(i64.wrap (e24.at_+1)),e25.due,e25.born⟩:Task))[r23.toNat]?).bind λe27=>cond (decide (e26.at_<(e27.ax.length:Int))) (some ((⟨(i64.wrap (a0.now+1)),r1.aj,r1.age,(r1.tasks.set r23.toNat (⟨e25.id,e25.ax,(i64.wrap (e24.at_+1)),e25.due,e25.born⟩:Task)),(0:Int),(i64.wrap (r1.left-1)),r1.turns,r1.next⟩:al),r1.run,false)) ((lE (r1.tasks.set r23.toNat (⟨e25.id,e25.ax,(i64.wrap (e24.at_+1)),e25.due,e25.born⟩:Task))).bind λy28=>(gx k (i64.wrap (a0.now+1)) r1.aj r1.age y28 (0:Int) (i64.wrap (r1.left-1)) r1.turns r1.next r1.run).bind λr29=>cond (j8 r29) ((rf (r1.tasks.set r23.toNat (⟨e25.id,e25.ax,(i64.wrap (e24.at_+1)),e25.due,e25.born⟩:Task)) r29).bind λz30=>some ((⟨(i64.wrap (a0.now+1)),r1.aj,r1.age,z30,(0:Int),(i64.wrap (r1.left-1)),r1.turns,r1.next⟩:al),r1.run,true)) none)) none) none) none) none)))))
def di (k:Nat) (a0:List Task):Option (List Task):=
 cond (isNil a0) (both (some ([]:List Task)) (cond (Nat.ble (([]:List Task).length+a0.length) aO) (some (([]:List Task)++a0)) none)) (cond (Nat.ble (([]:List Task).length+a0.length) aO) (some (([]:List Task)++a0)) none)
def nS (k:Nat) (a0:Task) (dJ:al):Option (Bool):=
 (dG k dJ a0).bind λr1=>cond (decide (dJ.now=dJ.now)) (cond (decide (dJ.aj=dJ.aj)) (cond (decide (dJ.age=dJ.age)) (cond (decide (dJ.tasks=dJ.tasks)) (cond (decide (dJ.run=dJ.run)) (cond (decide (dJ.left=dJ.left)) (cond (decide (dJ.turns=dJ.turns)) (cond (decide (dJ.next=dJ.next)) (some (!r1)) none) none) none) none) none) none) none) none
def mS (k:Nat) (a0:Task) (dJ:al):Option (Bool):=
 (dG k dJ a0).bind λr1=>cond (decide (dJ.now=dJ.now)) (cond (decide (dJ.aj=dJ.aj)) (cond (decide (dJ.age=dJ.age)) (cond (decide (dJ.tasks=dJ.tasks)) (cond (decide (dJ.run=dJ.run)) (cond (decide (dJ.left=dJ.left)) (cond (decide (dJ.turns=dJ.turns)) (cond (decide (dJ.next=dJ.next)) (some (!r1)) none) none) none) none) none) none) none) none
def cz {ρ:Type} (k:Nat) (p:Int× List Task× Int× Int× Int× List Task× Int× Int× Int× Int) (v:Int) (next:Int->Option ρ) (x0:Unit->Option ρ) (eF:Int->Option ρ):Option ρ:=
 cond (decide (v<p.1)) (cond (decide (0<=v/\v<(p.2.1.length:Int))) ((p.2.1[v.toNat]?).bind λe1=>(nS k e1 (⟨p.2.2.1,p.2.2.2.1,p.2.2.2.2.1,p.2.2.2.2.2.1,p.2.2.2.2.2.2.1,p.2.2.2.2.2.2.2.1,p.2.2.2.2.2.2.2.2.1,p.2.2.2.2.2.2.2.2.2⟩:al)).bind λr2=>cond (r2) (eF v) (next (i64.wrap (v+1)))) none) (x0 ())
def c9 (k:Nat) (a0:List Task) (az:al):Option (Int):=
 iter (λu5 n5=>cz k ((a0.length:Int),a0,az.now,az.aj,az.age,az.tasks,az.run,az.left,az.turns,az.next) u5 n5 (λy3=>cond (decide (a0=a0)) (cond (decide (az.now=az.now)) (cond (decide (az.aj=az.aj)) (cond (decide (az.age=az.age)) (cond (decide (az.tasks=az.tasks)) (cond (decide (az.run=az.run)) (cond (decide (az.left=az.left)) (cond (decide (az.turns=az.turns)) (cond (decide (az.next=az.next)) (some (-1:Int)) none) none) none) none) none) none) none) none) none) (λy4=>cond (decide (a0=a0)) (cond (decide (az.now=az.now)) (cond (decide (az.aj=az.aj)) (cond (decide (az.age=az.age)) (cond (decide (az.tasks=az.tasks)) (cond (decide (az.run=az.run)) (cond (decide (az.left=az.left)) (cond (decide (az.turns=az.turns)) (cond (decide (az.next=az.next)) (some y4) none) none) none) none) none) none) none) none) none)) k (0:Int)
def bz {ρ:Type} (k:Nat) (p:Int× Int× Int× List Task× Int× Int× Int× Int) (v:Int× Int× List Task) (next:(Int× Int× List Task)->Option ρ) (x0:(Int× List Task)->Option ρ):Option ρ:=
 cond (decide (v.2.1<(v.2.2.length:Int))) (cond (decide (0<=v.2.1/\v.2.1<(v.2.2.length:Int))) ((v.2.2[v.2.1.toNat]?).bind λe2=>(mS k e2 (⟨p.1,p.2.1,p.2.2.1,p.2.2.2.1,p.2.2.2.2.1,p.2.2.2.2.2.1,p.2.2.2.2.2.2.1,p.2.2.2.2.2.2.2⟩:al)).bind λr3=>cond (!r3) (cond (decide (0<=v.1/\v.1<(v.2.2.length:Int))) (next (i64.wrap (v.1+1),i64.wrap (v.2.1+1),v.2.2.set v.1.toNat e2)) none) (next (v.1,i64.wrap (v.2.1+1),v.2.2))) none) (x0 (v.1,v.2.2))
def cR (k:Nat) (a0:List Task) (az:al):Option (List Task):=
 (c9 k a0 az).bind λr1=>cond (r1==(-1:Int)) (cond (decide (az.now=az.now)) (cond (decide (az.aj=az.aj)) (cond (decide (az.age=az.age)) (cond (decide (az.tasks=az.tasks)) (cond (decide (az.run=az.run)) (cond (decide (az.left=az.left)) (cond (decide (az.turns=az.turns)) (cond (decide (az.next=az.next)) (some a0) none) none) none) none) none) none) none) none) (iter (λu5 n5=>bz k (az.now,az.aj,az.age,az.tasks,az.run,az.left,az.turns,az.next) u5 n5 (λy4=>cond (decide (0<=y4.1/\y4.1<=(y4.2.length:Int))) (cond (decide (0<=y4.1/\y4.1<=(((y4.2).take y4.1.toNat++List.replicate (y4.2.length-y4.1.toNat) (⟨(0:Int),([]:List Int),(0:Int),(0:Int),(0:Int)⟩:Task)++(y4.2).drop (y4.1.toNat+(y4.2.length-y4.1.toNat))).length:Int))) (cond (decide (az.now=az.now)) (cond (decide (az.aj=az.aj)) (cond (decide (az.age=az.age)) (cond (decide (az.tasks=az.tasks)) (cond (decide (az.run=az.run)) (cond (decide (az.left=az.left)) (cond (decide (az.turns=az.turns)) (cond (decide (az.next=az.next)) (some (((y4.2).take y4.1.toNat++List.replicate (y4.2.length-y4.1.toNat) (⟨(0:Int),([]:List Int),(0:Int),(0:Int),(0:Int)⟩:Task)++(y4.2).drop (y4.1.toNat+(y4.2.length-y4.1.toNat))).take (y4.1.toNat-0))) none) none) none) none) none) none) none) none) none) none)) k (r1,i64.wrap (r1+1),a0))
def mT (k:Nat) (a0:Task):Option (Int):=
 some a0.born
def qB (k:Nat) (a0:Int):Option (Bool):=
 some (a0 !=a0)
def dK (k:Nat) (a0:Int) (a1:Int):Option (Int):=
 (qB k a0).bind λr1=>(qB k a1).bind λr2=>cond (r1) (cond (r2) (some (0:Int)) (some (-1:Int))) (cond (r2) (some (1:Int)) (cond (decide (a0<a1)) (some (-1:Int)) (cond (decide (a0>a1)) (some (1:Int)) (some (0:Int)))))
def qC {ρ:Type} (k:Nat) (p:Int× List Int× Int) (v:Int) (next:Int->Option ρ) (x0:Unit->Option ρ) (eF:Int->Option ρ):Option ρ:=
 cond (decide (v<p.2.2)) ((idx p.2.1 v).bind λe1=>cond (e1 !=p.1) (eF e1) (next (i64.wrap (v+1)))) (x0 ())
def tn (k:Nat) (a0:List Int):Option (Int):=
 iter (λu4 n4=>qC k ((0:Int),a0,(a0.length:Int)) u4 n4 (λy2=>some (0:Int)) (λy3=>some y3)) k (0:Int)
def nT (k:Nat) (a0:Task) (a1:Task):Option (Int):=
 (mT k a0).bind λr1=>(mT k a1).bind λr2=>(dK k r1 r2).bind λr3=>(dK k a0.id a1.id).bind λr4=>(tn k [r3,r4]).bind λr5=>some r5
def bQ {ρ:Type} (k:Nat) (p:List Task× Int× Int× Int× Int) (v:Int× Int× List Int× Int× Int× Int) (next:(Int× Int× List Int× Int× Int× Int)->Option ρ) (x0:(Int× List Int× Int× Int× Int)->Option ρ):Option ρ:=
 cond (decide (v.1<(p.1.length:Int))) ((idx p.1 v.1).bind λe2=>(nT k e2 (⟨v.2.1,v.2.2.1,v.2.2.2.1,v.2.2.2.2.1,v.2.2.2.2.2⟩:Task)).bind λr3=>cond (decide (r3<0)) ((idx p.1 v.1).bind λe4=>next (i64.wrap (v.1+1),e4.id,e4.ax,e4.at_,e4.due,e4.born)) (next (i64.wrap (v.1+1),v.2.1,v.2.2.1,v.2.2.2.1,v.2.2.2.2.1,v.2.2.2.2.2))) (x0 (v.2.1,v.2.2.1,v.2.2.2.1,v.2.2.2.2.1,v.2.2.2.2.2))
def dz (k:Nat) (a0:List Task):Option (Task):=
 cond (decide ((a0.length:Int)<(1:Int))) (none) ((idx a0 (0:Int)).bind λe1=>iter (λu6 n6=>bQ k (a0,(0:Int),(0:Int),(0:Int),(0:Int)) u6 n6 (λy5=>some (⟨y5.1,y5.2.1,y5.2.2.1,y5.2.2.2.1,y5.2.2.2.2⟩:Task))) k ((1:Int),e1.id,e1.ax,e1.at_,e1.due,e1.born))
def mU (k:Nat) (a0:al) (WT:al):Option (Int):=
 (di k a0.tasks).bind λr1=>(cR k r1 WT).bind λr2=>cond ((r2.length:Int)==(0:Int)) (some (0:Int)) ((dz k r2).bind λr3=>some r3.id)
def gV (k:Nat) (a0:Task) (a1:al):Option (Bool):=
 (dG k a1 a0).bind λr1=>cond (decide (a1.now=a1.now)) (cond (decide (a1.aj=a1.aj)) (cond (decide (a1.age=a1.age)) (cond (decide (a1.tasks=a1.tasks)) (cond (decide (a1.run=a1.run)) (cond (decide (a1.left=a1.left)) (cond (decide (a1.turns=a1.turns)) (cond (decide (a1.next=a1.next)) (some (!r1)) none) none) none) none) none) none) none) none
def mV (k:Nat) (a0:Task) (dL:al):Option (Bool):=
 (gV k a0 dL).bind λr1=>cond (decide (dL.now=dL.now)) (cond (decide (dL.aj=dL.aj)) (cond (decide (dL.age=dL.age)) (cond (decide (dL.tasks=dL.tasks)) (cond (decide (dL.run=dL.run)) (cond (decide (dL.left=dL.left)) (cond (decide (dL.turns=dL.turns)) (cond (decide (dL.next=dL.next)) (some (!r1)) none) none) none) none) none) none) none) none
def fG (k:Nat) (a0:Task) (dL:al):Option (Bool):=
 (gV k a0 dL).bind λr1=>cond (decide (dL.now=dL.now)) (cond (decide (dL.aj=dL.aj)) (cond (decide (dL.age=dL.age)) (cond (decide (dL.tasks=dL.tasks)) (cond (decide (dL.run=dL.run)) (cond (decide (dL.left=dL.left)) (cond (decide (dL.turns=dL.turns)) (cond (decide (dL.next=dL.next)) (some (!r1)) none) none) none) none) none) none) none) none
def cC {ρ:Type} (k:Nat) (p:Int× List Task× Int× Int× Int× List Task× Int× Int× Int× Int) (v:Int) (next:Int->Option ρ) (x0:Unit->Option ρ) (eF:Int->Option ρ):Option ρ:=
 cond (decide (v<p.1)) (cond (decide (0<=v/\v<(p.2.1.length:Int))) ((p.2.1[v.toNat]?).bind λe1=>(mV k e1 (⟨p.2.2.1,p.2.2.2.1,p.2.2.2.2.1,p.2.2.2.2.2.1,p.2.2.2.2.2.2.1,p.2.2.2.2.2.2.2.1,p.2.2.2.2.2.2.2.2.1,p.2.2.2.2.2.2.2.2.2⟩:al)).bind λr2=>cond (r2) (eF v) (next (i64.wrap (v+1)))) none) (x0 ())
def da (k:Nat) (a0:List Task) (aA:al):Option (Int):=
 iter (λu5 n5=>cC k ((a0.length:Int),a0,aA.now,aA.aj,aA.age,aA.tasks,aA.run,aA.left,aA.turns,aA.next) u5 n5 (λy3=>cond (decide (a0=a0)) (cond (decide (aA.now=aA.now)) (cond (decide (aA.aj=aA.aj)) (cond (decide (aA.age=aA.age)) (cond (decide (aA.tasks=aA.tasks)) (cond (decide (aA.run=aA.run)) (cond (decide (aA.left=aA.left)) (cond (decide (aA.turns=aA.turns)) (cond (decide (aA.next=aA.next)) (some (-1:Int)) none) none) none) none) none) none) none) none) none) (λy4=>cond (decide (a0=a0)) (cond (decide (aA.now=aA.now)) (cond (decide (aA.aj=aA.aj)) (cond (decide (aA.age=aA.age)) (cond (decide (aA.tasks=aA.tasks)) (cond (decide (aA.run=aA.run)) (cond (decide (aA.left=aA.left)) (cond (decide (aA.turns=aA.turns)) (cond (decide (aA.next=aA.next)) (some y4) none) none) none) none) none) none) none) none) none)) k (0:Int)
def bA {ρ:Type} (k:Nat) (p:Int× Int× Int× List Task× Int× Int× Int× Int) (v:Int× Int× List Task) (next:(Int× Int× List Task)->Option ρ) (x0:(Int× List Task)->Option ρ):Option ρ:=
 cond (decide (v.2.1<(v.2.2.length:Int))) (cond (decide (0<=v.2.1/\v.2.1<(v.2.2.length:Int))) ((v.2.2[v.2.1.toNat]?).bind λe2=>(fG k e2 (⟨p.1,p.2.1,p.2.2.1,p.2.2.2.1,p.2.2.2.2.1,p.2.2.2.2.2.1,p.2.2.2.2.2.2.1,p.2.2.2.2.2.2.2⟩:al)).bind λr3=>cond (!r3) (cond (decide (0<=v.1/\v.1<(v.2.2.length:Int))) (next (i64.wrap (v.1+1),i64.wrap (v.2.1+1),v.2.2.set v.1.toNat e2)) none) (next (v.1,i64.wrap (v.2.1+1),v.2.2))) none) (x0 (v.1,v.2.2))
def cS (k:Nat) (a0:List Task) (aA:al):Option (List Task):=
 (da k a0 aA).bind λr1=>cond (r1==(-1:Int)) (cond (decide (aA.now=aA.now)) (cond (decide (aA.aj=aA.aj)) (cond (decide (aA.age=aA.age)) (cond (decide (aA.tasks=aA.tasks)) (cond (decide (aA.run=aA.run)) (cond (decide (aA.left=aA.left)) (cond (decide (aA.turns=aA.turns)) (cond (decide (aA.next=aA.next)) (some a0) none) none) none) none) none) none) none) none) (iter (λu5 n5=>bA k (aA.now,aA.aj,aA.age,aA.tasks,aA.run,aA.left,aA.turns,aA.next) u5 n5 (λy4=>cond (decide (0<=y4.1/\y4.1<=(y4.2.length:Int))) (cond (decide (0<=y4.1/\y4.1<=(((y4.2).take y4.1.toNat++List.replicate (y4.2.length-y4.1.toNat) (⟨(0:Int),([]:List Int),(0:Int),(0:Int),(0:Int)⟩:Task)++(y4.2).drop (y4.1.toNat+(y4.2.length-y4.1.toNat))).length:Int))) (cond (decide (aA.now=aA.now)) (cond (decide (aA.aj=aA.aj)) (cond (decide (aA.age=aA.age)) (cond (decide (aA.tasks=aA.tasks)) (cond (decide (aA.run=aA.run)) (cond (decide (aA.left=aA.left)) (cond (decide (aA.turns=aA.turns)) (cond (decide (aA.next=aA.next)) (some (((y4.2).take y4.1.toNat++List.replicate (y4.2.length-y4.1.toNat) (⟨(0:Int),([]:List Int),(0:Int),(0:Int),(0:Int)⟩:Task)++(y4.2).drop (y4.1.toNat+(y4.2.length-y4.1.toNat))).take (y4.1.toNat-0))) none) none) none) none) none) none) none) none) none) none)) k (r1,i64.wrap (r1+1),a0))
def mW (k:Nat) (a0:Task):Option (Int):=
 some a0.due
def mX (k:Nat) (a0:Task) (a1:Task):Option (Int):=
 (mW k a0).bind λr1=>(mW k a1).bind λr2=>(dK k r1 r2).bind λr3=>(dK k a0.id a1.id).bind λr4=>(tn k [r3,r4]).bind λr5=>some r5
def bK {ρ:Type} (k:Nat) (p:List Task× Int× Int× Int× Int) (v:Int× Int× List Int× Int× Int× Int) (next:(Int× Int× List Int× Int× Int× Int)->Option ρ) (x0:(Int× List Int× Int× Int× Int)->Option ρ):Option ρ:=
 cond (decide (v.1<(p.1.length:Int))) ((idx p.1 v.1).bind λe2=>(mX k e2 (⟨v.2.1,v.2.2.1,v.2.2.2.1,v.2.2.2.2.1,v.2.2.2.2.2⟩:Task)).bind λr3=>cond (decide (r3<0)) ((idx p.1 v.1).bind λe4=>next (i64.wrap (v.1+1),e4.id,e4.ax,e4.at_,e4.due,e4.born)) (next (i64.wrap (v.1+1),v.2.1,v.2.2.1,v.2.2.2.1,v.2.2.2.2.1,v.2.2.2.2.2))) (x0 (v.2.1,v.2.2.1,v.2.2.2.1,v.2.2.2.2.1,v.2.2.2.2.2))
def dp (k:Nat) (a0:List Task):Option (Task):=
 cond (decide ((a0.length:Int)<(1:Int))) (none) ((idx a0 (0:Int)).bind λe1=>iter (λu6 n6=>bK k (a0,(0:Int),(0:Int),(0:Int),(0:Int)) u6 n6 (λy5=>some (⟨y5.1,y5.2.1,y5.2.2.1,y5.2.2.2.1,y5.2.2.2.2⟩:Task))) k ((1:Int),e1.id,e1.ax,e1.at_,e1.due,e1.born))
def lH (k:Nat) (a0:al) (eH:al):Option (Int):=
 (di k a0.tasks).bind λr1=>(cS k r1 eH).bind λr2=>cond ((r2.length:Int)==(0:Int)) (cond (decide (eH.now=eH.now)) (cond (decide (eH.aj=eH.aj)) (cond (decide (eH.age=eH.age)) (cond (decide (eH.tasks=eH.tasks)) (cond (decide (eH.run=eH.run)) (cond (decide (eH.left=eH.left)) (cond (decide (eH.turns=eH.turns)) (cond (decide (eH.next=eH.next)) (some (0:Int)) none) none) none) none) none) none) none) none) ((dp k r2).bind λr3=>cond (decide (eH.now=eH.now)) (cond (decide (eH.aj=eH.aj)) (cond (decide (eH.age=eH.age)) (cond (decide (eH.tasks=eH.tasks)) (cond (decide (eH.run=eH.run)) (cond (decide (eH.left=eH.left)) (cond (decide (eH.turns=eH.turns)) (cond (decide (eH.next=eH.next)) (some r3.id) none) none) none) none) none) none) none) none)
def nU (k:Nat) (a0:al):Option (Int):=
 (mU k a0 a0).bind λr1=>(lH k a0 a0).bind λr2=>cond (decide (a0.age>0)) (cond (decide (a0.age=0)) none (cond ((a0.turns.tmod a0.age)==0) (cond (r1 !=0) (some r1) (cond (r2==0) (some r1) (some r2))) (cond (r2==0) (some r1) (some r2)))) (cond (r2==0) (some r1) (some r2))
def eJ (k:Nat) (a0:al):Option (Bool× Int× Int× Int):=
 (nU k a0).bind λr1=>cond (r1==0) (cond (decide (a0.now=a0.now)) (cond (decide (a0.aj=a0.aj)) (cond (decide (a0.age=a0.age)) (cond (decide (a0.tasks=a0.tasks)) (cond (decide (a0.next=a0.next)) (some (false,a0.run,a0.left,a0.turns)) none) none) none) none) none) ((dI k a0 r1).bind λr2=>cond (decide (0<=r2/\r2<(a0.tasks.length:Int))) ((a0.tasks[r2.toNat]?).bind λe3=>(idx e3.ax e3.at_).bind λe4=>cond (decide ((i64.wrap (a0.turns+1))>1000000)) (cond (decide (a0.now=a0.now)) (cond (decide (a0.aj=a0.aj)) (cond (decide (a0.age=a0.age)) (cond (decide (a0.tasks=a0.tasks)) (cond (decide (a0.next=a0.next)) (some (true,r1,e4,(0:Int))) none) none) none) none) none) (cond (decide (a0.now=a0.now)) (cond (decide (a0.aj=a0.aj)) (cond (decide (a0.age=a0.age)) (cond (decide (a0.tasks=a0.tasks)) (cond (decide (a0.next=a0.next)) (some (true,r1,e4,i64.wrap (a0.turns+1))) none) none) none) none) none)) none)
def gy (k:Nat) (a0:al) (a1:Bool):Option ((Int× Bool)× Int× List Task× Int× Int× Int):=
 cond (!a1) (cond (a0.run !=0) (cond (decide ((i64.wrap (a0.left-1))>0)) (cond (decide (a0.aj=a0.aj)) (cond (decide (a0.age=a0.age)) (cond (decide (a0.next=a0.next)) (some (((0:Int),false),i64.wrap (a0.now+1),a0.tasks,a0.run,i64.wrap (a0.left-1),a0.turns)) none) none) none) ((dI k (⟨(i64.wrap (a0.now+1)),a0.aj,a0.age,a0.tasks,a0.run,(i64.wrap (a0.left-1)),a0.turns,a0.next⟩:al) a0.run).bind λr1=>cond (decide (0<=r1/\r1<(a0.tasks.length:Int))) ((a0.tasks[r1.toNat]?).bind λe2=>(a0.tasks[r1.toNat]?).bind λe3=>((a0.tasks.set r1.toNat (⟨e3.id,e3.ax,(i64.wrap (e2.at_+1)),e3.due,e3.born⟩:Task))[r1.toNat]?).bind λe4=>((a0.tasks.set r1.toNat (⟨e3.id,e3.ax,(i64.wrap (e2.at_+1)),e3.due,e3.born⟩:Task))[r1.toNat]?).bind λe5=>cond (decide (e4.at_<(e5.ax.length:Int))) (cond (decide (a0.aj=a0.aj)) (cond (decide (a0.age=a0.age)) (cond (decide (a0.next=a0.next)) (some ((a0.run,false),i64.wrap (a0.now+1),a0.tasks.set r1.toNat (⟨e3.id,e3.ax,(i64.wrap (e2.at_+1)),e3.due,e3.born⟩:Task),(0:Int),i64.wrap (a0.left-1),a0.turns)) none) none) none) ((lE (a0.tasks.set r1.toNat (⟨e3.id,e3.ax,(i64.wrap (e2.at_+1)),e3.due,e3.born⟩:Task))).bind λy6=>(dR k (i64.wrap (a0.now+1)) a0.aj a0.age y6 (0:Int) (i64.wrap (a0.left-1)) a0.turns a0.next a0.run).bind λr7=>cond (j8 r7.1) ((rf (a0.tasks.set r1.toNat (⟨e3.id,e3.ax,(i64.wrap (e2.at_+1)),e3.due,e3.born⟩:Task)) r7.1).bind λz8=>cond (decide (a0.aj=a0.aj)) (cond (decide (a0.age=a0.age)) (cond (decide (a0.next=a0.next)) (some ((a0.run,true),i64.wrap (a0.now+1),z8,r7.2.1,r7.2.2,a0.turns)) none) none) none) none)) none)) ((eJ k a0).bind λr9=>cond (!r9.1) (cond (decide (a0.aj=a0.aj)) (cond (decide (a0.age=a0.age)) (cond (decide (a0.next=a0.next)) (some (((0:Int),false),i64.wrap (a0.now+1),a0.tasks,r9.2.1,r9.2.2.1,r9.2.2.2)) none) none) none) (cond (decide ((i64.wrap (r9.2.2.1-1))>0)) (cond (decide (a0.aj=a0.aj)) (cond (decide (a0.age=a0.age)) (cond (decide (a0.next=a0.next)) (some (((0:Int),false),i64.wrap (a0.now+1),a0.tasks,r9.2.1,i64.wrap (r9.2.2.1-1),r9.2.2.2)) none) none) none) ((dI k (⟨(i64.wrap (a0.now+1)),a0.aj,a0.age,a0.tasks,r9.2.1,(i64.wrap (r9.2.2.1-1)),r9.2.2.2,a0.next⟩:al) r9.2.1).bind λr10=>cond (decide (0<=r10/\r10<(a0.tasks.length:Int))) ((a0.tasks[r10.toNat]?).bind λe11=>(a0.tasks[r10.toNat]?).bind λe12=>((a0.tasks.set r10.toNat (⟨e12.id,e12.ax,(i64.wrap (e11.at_+1)),e12.due,e12.born⟩:Task))[r10.toNat]?).bind λe13=>((a0.tasks.set r10.toNat (⟨e12.id,e12.ax,(i64.wrap (e11.at_+1)),e12.due,e12.born⟩:Task))[r10.toNat]?).bind λe14=>cond (decide (e13.at_<(e14.ax.length:Int))) (cond (decide (a0.aj=a0.aj)) (cond (decide (a0.age=a0.age)) (cond (decide (a0.next=a0.next)) (some ((r9.2.1,false),i64.wrap (a0.now+1),a0.tasks.set r10.toNat (⟨e12.id,e12.ax,(i64.wrap (e11.at_+1)),e12.due,e12.born⟩:Task),(0:Int),i64.wrap (r9.2.2.1-1),r9.2.2.2)) none) none) none) ((lE (a0.tasks.set r10.toNat (⟨e12.id,e12.ax,(i64.wrap (e11.at_+1)),e12.due,e12.born⟩:Task))).bind λy15=>(dR k (i64.wrap (a0.now+1)) a0.aj a0.age y15 (0:Int) (i64.wrap (r9.2.2.1-1)) r9.2.2.2 a0.next r9.2.1).bind λr16=>cond (j8 r16.1) ((rf (a0.tasks.set r10.toNat (⟨e12.id,e12.ax,(i64.wrap (e11.at_+1)),e12.due,e12.born⟩:Task)) r16.1).bind λz17=>cond (decide (a0.aj=a0.aj)) (cond (decide (a0.age=a0.age)) (cond (decide (a0.next=a0.next)) (some ((r9.2.1,true),i64.wrap (a0.now+1),z17,r16.2.1,r16.2.2,r9.2.2.2)) none) none) none) none)) none)))) (cond (decide (a0.aj=a0.aj)) (cond (decide (a0.age=a0.age)) (cond (decide (a0.next=a0.next)) (some (((0:Int),false),i64.wrap (a0.now+1),a0.tasks,a0.run,a0.left,a0.turns)) none) none) none)
def uO (k:Nat) (a0:al) (a1:Bool):Option (al× Int× Bool):=
 (ir k a0).bind λr1=>(sa k a0).bind λr2=>cond (!r2) (some (r1,(0:Int),false)) (cond (a0.now==1000000) (some (r1,(0:Int),false)) ((gy k r1 a1).bind λr3=>some ((⟨r3.2.1,r1.aj,r1.age,r3.2.2.1,r3.2.2.2.1,r3.2.2.2.2.1,r3.2.2.2.2.2,r1.next⟩:al),r3.1.1,r3.1.2)))
def tp (k:Nat) (a0:Int) (a1:Int):Option (al× Bool):=
 (fl k (⟨(0:Int),a0,a1,([]:List Task),(0:Int),(0:Int),(0:Int),(1:Int)⟩:al)).bind λr1=>cond (!r1) (some ((⟨(0:Int),(0:Int),(0:Int),([]:List Task),(0:Int),(0:Int),(0:Int),(0:Int)⟩:al),false)) (some ((⟨(0:Int),a0,a1,([]:List Task),(0:Int),(0:Int),(0:Int),(1:Int)⟩:al),true))
end
end
set_option maxRecDepth 100000
set_option maxHeartbeats 4000000
section
noncomputable section
def Ta (k:Nat) (a0:List Int):Option (Bool):=
 some (decide ((a0.length:Int)>(1048576:Int)))
def qD {ρ:Type} (k:Nat) (p:List Int) (v:Int× Int) (next:(Int× Int)->Option ρ) (x0:Int->Option ρ):Option ρ:=
 cond (decide (v.2<(p.length:Int))) (cond (decide (v.2<4000)) ((idx p v.2).bind λe1=>next (i64.wrap (((BitVec.ofInt i64.bits (i64.wrap ((i64.wrap ((i64.wrap (v.1*149))+(i64.wrap (e1))))+11))&&& BitVec.ofInt i64.bits (1073741823:Int)).toNat:Int)),i64.wrap (v.2+1))) (x0 v.1)) (x0 v.1)
def pA (k:Nat) (a0:List Int):Option (Int× Int):=
 iter (λu3 n3=>qD k a0 u3 n3 (λy2=>cond (decide (a0=a0)) (some ((0:Int),y2)) none)) k (i64.wrap ((778778:Int)+(a0.length:Int)),(0:Int))
def vQ (k:Nat) (a0:List Int) (a1:Int):Option (Int):=
 cond (decide ((i64.wrap ((2:Int)+(i64.wrap ((a0.length:Int).tdiv (16:Int)))))>a1)) (some a1) (some (i64.wrap ((2:Int)+(i64.wrap ((a0.length:Int).tdiv (16:Int))))))
def iJ (k:Nat) (aZ:List Int) (fA:Int) (fm:Int):Option (Int× Int× Int):=
 cond (decide (fA<(aZ.length:Int))) ((idx aZ fA).bind λe1=>cond (decide (aZ=aZ)) (some (i64.wrap (((BitVec.ofInt i64.bits (i64.wrap ((i64.wrap (((BitVec.ofInt i64.bits (i64.wrap (((BitVec.ofInt i64.bits ((i64.wrap ((i64.wrap (fm*6364136223846793005))+1442695040888963407)).fdiv (2^(min (33:Int).toNat i64.bits)))^^^ BitVec.ofInt i64.bits ((i64.wrap ((i64.wrap (fm*6364136223846793005))+1442695040888963407)).fdiv (2^(min (45:Int).toNat i64.bits)))).toNat:Int)))&&& BitVec.ofInt i64.bits (255:Int)).toNat:Int)))+(i64.wrap (e1))))&&& BitVec.ofInt i64.bits (255:Int)).toNat:Int)),i64.wrap (fA+1),i64.wrap ((i64.wrap (fm*6364136223846793005))+1442695040888963407))) none) (cond (decide (aZ=aZ)) (some (i64.wrap (((BitVec.ofInt i64.bits (i64.wrap (((BitVec.ofInt i64.bits ((i64.wrap ((i64.wrap (fm*6364136223846793005))+1442695040888963407)).fdiv (2^(min (33:Int).toNat i64.bits)))^^^ BitVec.ofInt i64.bits ((i64.wrap ((i64.wrap (fm*6364136223846793005))+1442695040888963407)).fdiv (2^(min (45:Int).toNat i64.bits)))).toNat:Int)))&&& BitVec.ofInt i64.bits (255:Int)).toNat:Int)),fA,i64.wrap ((i64.wrap (fm*6364136223846793005))+1442695040888963407))) none)
def ae (k:Nat) (aZ:List Int) (fA:Int) (fm:Int) (a1:Int):Option (Int× Int× Int):=
 cond (decide (a1<=0)) (cond (decide (aZ=aZ)) (some ((0:Int),fA,fm)) none) (cond (decide (a1<=256)) ((iJ k aZ fA fm).bind λr1=>cond (decide (a1=0)) none (cond (decide (aZ=aZ)) (some (r1.1.tmod a1,r1.2.1,r1.2.2)) none)) ((iJ k aZ fA fm).bind λr2=>(iJ k aZ r2.2.1 r2.2.2).bind λr3=>(iJ k aZ r3.2.1 r3.2.2).bind λr4=>cond (decide (a1=0)) none (cond (decide (aZ=aZ)) (some ((i64.wrap ((i64.wrap ((i64.wrap (r2.1*65536))+(i64.wrap (r3.1*256))))+r4.1)).tmod a1,r4.2.1,r4.2.2)) none)))
def ay (k:Nat) (aZ:List Int) (fA:Int) (fm:Int) (a1:List Int):Option (Int× Int× Int):=
 (ae k aZ fA fm (a1.length:Int)).bind λr1=>(idx a1 r1.1).bind λe2=>cond (decide (aZ=aZ)) (some (e2,r1.2.1,r1.2.2)) none
def bD (k:Nat) (aZ:List Int) (fA:Int) (fm:Int) (a1:Int):Option (Bool× Int× Int):=
 (ae k aZ fA fm a1).bind λr1=>cond (decide (aZ=aZ)) (some (r1.1==0,r1.2.1,r1.2.2)) none
end
end
set_option maxRecDepth 100000
section
noncomputable section
def iv (k:Nat) (a0:Int):Option (Bool):=
 (bm k a0 (-1099511627776:Int) (1099511627775:Int)).bind λr1=>some r1
def iX {ρ:Type} (k:Nat) (p:Unit) (v:Int× List Int) (next:(Int× List Int)->Option ρ) (x0:(Int× List Int)->Option ρ):Option ρ:=
 cond (decide (v.1>=128)) (cond (Nat.ble (v.2.length+[(u8.wrap (i64.wrap ((128:Int)+(v.1.tmod (128:Int)))))].length) aO) (next (i64.wrap (v.1.tdiv (128:Int)),v.2++[(u8.wrap (i64.wrap ((128:Int)+(v.1.tmod (128:Int)))))])) none) (x0 (v.1,v.2))
def pB (k:Nat) (a0:Int):Option (List Int):=
 (bm k a0 (-1099511627776:Int) (1099511627775:Int)).bind λr1=>cond (!r1) (some ([]:List Int)) (cond (decide (a0<0)) (iter (λu3 n3=>iX k () u3 n3 (λy2=>cond (Nat.ble (y2.2.length+[(u8.wrap (y2.1))].length) aO) (some (y2.2++[(u8.wrap (y2.1))])) none)) k (i64.wrap ((i64.wrap ((-2:Int)*a0))-1),([]:List Int))) (iter (λu5 n5=>iX k () u5 n5 (λy4=>cond (Nat.ble (y4.2.length+[(u8.wrap (y4.1))].length) aO) (some (y4.2++[(u8.wrap (y4.1))])) none)) k (i64.wrap ((2:Int)*a0),([]:List Int))))
def kC {ρ:Type} (k:Nat) (p:Int× List Int× List Int) (v:Int× List Int) (next:(Int× List Int)->Option ρ) (x2:(List Int)->Option ρ):Option ρ:=
 cond (decide (v.1<(p.2.2.length:Int))) (cond (decide (0<=v.1/\v.1<(p.2.2.length:Int))) ((p.2.2[v.1.toNat]?).bind λe3=>cond (Nat.ble (v.2.length+[e3].length) aO) (next (i64.wrap (v.1+1),v.2++[e3])) none) none) (x2 v.2)
def kD {ρ:Type} (k:Nat) (p:List Int) (v:Int× List Int) (next:(Int× List Int)->Option ρ) (x0:(List Int)->Option ρ):Option ρ:=
 cond (decide (v.1<(p.length:Int))) (cond (decide (0<=v.1/\v.1<(p.length:Int))) ((p[v.1.toNat]?).bind λe1=>(pB k e1).bind λr2=>iter (λu5 n5=>kC k (v.1,p,r2) u5 n5 (λy4=>next (i64.wrap (v.1+1),y4))) k ((0:Int),v.2)) none) (x0 v.2)
def mY (k:Nat) (a1:List Int):Option (List Int):=
 iter (λu7 n7=>kD k a1 u7 n7 (λy6=>some y6)) k ((0:Int),([]:List Int))
def nV {ρ:Type} (k:Nat) (p:List Int) (v:Int× List Int) (next:(Int× List Int)->Option ρ) (x0:(List Int)->Option ρ):Option ρ:=
 cond (decide (v.1<(p.length:Int))) ((idx p v.1).bind λe2=>cond (Nat.ble (v.2.length+[e2].length) aO) (next (i64.wrap (v.1+1),v.2++[e2])) none) (x0 v.2)
def pC (k:Nat) (a0:List Int) (a1:List Int):Option (List Int):=
 (s9 k a0).bind λr1=>iter (λu4 n4=>nV k a1 u4 n4 (λy3=>some y3)) k ((0:Int),r1)
def kE {ρ:Type} (k:Nat) (p:Int× List Int× List Int) (v:Int× List Int) (next:(Int× List Int)->Option ρ) (x2:(List Int)->Option ρ):Option ρ:=
 cond (decide (v.1<(p.2.2.length:Int))) (cond (decide (0<=v.1/\v.1<(p.2.2.length:Int))) ((p.2.2[v.1.toNat]?).bind λe3=>cond (Nat.ble (v.2.length+[e3].length) aO) (next (i64.wrap (v.1+1),v.2++[e3])) none) none) (x2 v.2)
def kF {ρ:Type} (k:Nat) (p:List Int) (v:Int× List Int) (next:(Int× List Int)->Option ρ) (x0:(List Int)->Option ρ):Option ρ:=
 cond (decide (v.1<(p.length:Int))) (cond (decide (0<=v.1/\v.1<(p.length:Int))) ((p[v.1.toNat]?).bind λe1=>(pB k e1).bind λr2=>iter (λu5 n5=>kE k (v.1,p,r2) u5 n5 (λy4=>next (i64.wrap (v.1+1),y4))) k ((0:Int),v.2)) none) (x0 v.2)
def dA (k:Nat) (a0:List Int) (a1:List Int):Option (List Int):=
 iter (λu7 n7=>kF k a1 u7 n7 (λy6=>cond (decide (a1=a1)) (some y6) none)) k ((0:Int),a0)
def kG {ρ:Type} (k:Nat) (p:List Int× Int× List Int) (v:Int× List Int) (next:(Int× List Int)->Option ρ) (x2:(List Int)->Option ρ):Option ρ:=
 cond (decide (v.1<(p.2.2.length:Int))) (cond (decide (0<=v.1/\v.1<(p.2.2.length:Int))) ((p.2.2[v.1.toNat]?).bind λe3=>cond (Nat.ble (v.2.length+[e3].length) aO) (next (i64.wrap (v.1+1),v.2++[e3])) none) none) (x2 v.2)
def kH {ρ:Type} (k:Nat) (p:List Int) (v:Int× List Int) (next:(Int× List Int)->Option ρ) (x0:(List Int)->Option ρ):Option ρ:=
 cond (decide (v.1<(p.length:Int))) ((idx p v.1).bind λe1=>(pB k e1).bind λr2=>iter (λu5 n5=>kG k (p,v.1,r2) u5 n5 (λy4=>next (i64.wrap (v.1+1),y4))) k ((0:Int),v.2)) (x0 v.2)
def iK (k:Nat) (a0:List Int) (a1:List Int):Option (List Int):=
 iter (λu7 n7=>kH k a1 u7 n7 (λy6=>some y6)) k ((0:Int),a0)
def nW {ρ:Type} (k:Nat) (p:Int× Int× Int× List Int× Int× Int× Int× List Int× Int× Int× Int× List Int) (v:Int) (next:Int->Option ρ) (x0:Unit->Option ρ) (eF:Bool->Option ρ):Option ρ:=
 cond (decide (v<(p.2.2.2.2.2.2.2.2.2.2.2.length:Int))) ((idx p.2.2.2.2.2.2.2.2.2.2.2 v).bind λe7=>(iv k e7).bind λr8=>cond (!r8) (eF false) (next (i64.wrap (v+1)))) (x0 ())
def mZ (k:Nat) (a0:Step):Option (List Int× Bool):=
 cond (decide ((a0.data.length:Int)>(6000:Int))) (some (([]:List Int),false)) (cond (decide ((a0.input.data.length:Int)>(512:Int))) (some (([]:List Int),false)) ((iv k a0.kind).bind λr1=>cond (!r1) (some (([]:List Int),false)) ((iv k a0.a).bind λr2=>cond (!r2) (some (([]:List Int),false)) ((iv k a0.b).bind λr3=>cond (!r3) (some (([]:List Int),false)) ((iv k a0.input.sh.h).bind λr4=>cond (!r4) (some (([]:List Int),false)) ((iv k a0.input.sh.w).bind λr5=>cond (!r5) (some (([]:List Int),false)) ((iv k a0.input.sh.c).bind λr6=>cond (!r6) (some (([]:List Int),false)) (iter (λu15 n15=>nW k (a0.kind,a0.a,a0.b,a0.data,a0.input.sh.h,a0.input.sh.w,a0.input.sh.c,a0.input.data,a0.input.sh.h,a0.input.sh.w,a0.input.sh.c,a0.input.data) u15 n15 (λy9=>(mY k [a0.kind,a0.a,a0.b,(a0.data.length:Int)]).bind λr10=>(pC k r10 a0.data).bind λr11=>(dA k r11 [a0.input.sh.h,a0.input.sh.w,a0.input.sh.c,(a0.input.data.length:Int)]).bind λr12=>(iK k r12 a0.input.data).bind λr13=>some (r13,true)) (λy14=>some (([]:List Int),y14))) k (0:Int)))))))))
def nX (k:Nat) (a0:Int):Option (Bool):=
 (tY k a0 (-1099511627776:Int) (1099511627775:Int)).bind λr1=>some r1
def sb (k:Nat) (a0:Int):Option (Bool):=
 (nX k a0).bind λr1=>some (!r1)
def bf {ρ:Type} (k:Nat) (p:List Int× Int) (v:Int) (next:Int->Option ρ) (x0:Unit->Option ρ) (eF:Int->Option ρ):Option ρ:=
 cond (decide (v<p.2)) ((idx p.1 v).bind λe1=>(sb k e1).bind λr2=>cond (r2) (eF v) (next (i64.wrap (v+1)))) (x0 ())
def ch (k:Nat) (a0:List Int):Option (Int):=
 iter (λu5 n5=>bf k (a0,(a0.length:Int)) u5 n5 (λy3=>some (-1:Int)) (λy4=>some y4)) k (0:Int)
def aU (k:Nat) (a0:List Int):Option (Bool):=
 (ch k a0).bind λr1=>some (decide (r1>=0))
def gW {ρ:Type} (k:Nat) (p:List Int× Int) (v:Int× Int) (next:(Int× Int)->Option ρ) (x0:Unit->Option ρ) (eF:(Int× Int)->Option ρ):Option ρ:=
 cond (decide (v.2<6)) (cond (decide (p.2<0)) (eF ((0:Int),(-1:Int))) (cond (decide (p.2>=(i64.wrap ((p.1.length:Int)-v.2)))) (eF ((0:Int),(-1:Int))) ((idx p.1 (i64.wrap (p.2+v.2))).bind λe1=>cond (decide ((u64.wrap (i64.wrap ((7:Int)*v.2)))<0)) none (cond (decide ((i64.wrap (e1))<128)) (cond ((i64.wrap (e1))==0) (cond (decide (v.2>0)) (eF ((0:Int),(-1:Int))) (cond (decide ((i64.wrap (v.1+(i64.wrap (((i64.wrap (e1)).tmod (128:Int))*2^(min (u64.wrap (i64.wrap ((7:Int)*v.2))).toNat i64.bits)))))>2199023255551)) (eF ((0:Int),(-1:Int))) (cond (((i64.wrap (v.1+(i64.wrap (((i64.wrap (e1)).tmod (128:Int))*2^(min (u64.wrap (i64.wrap ((7:Int)*v.2))).toNat i64.bits))))).tmod (2:Int))==1) (eF (i64.wrap ((i64.wrap (0-(i64.wrap ((i64.wrap (v.1+(i64.wrap (((i64.wrap (e1)).tmod (128:Int))*2^(min (u64.wrap (i64.wrap ((7:Int)*v.2))).toNat i64.bits)))))+1)))).tdiv (2:Int)),i64.wrap ((i64.wrap (p.2+v.2))+1))) (eF (i64.wrap ((i64.wrap (v.1+(i64.wrap (((i64.wrap (e1)).tmod (128:Int))*2^(min (u64.wrap (i64.wrap ((7:Int)*v.2))).toNat i64.bits))))).tdiv (2:Int)),i64.wrap ((i64.wrap (p.2+v.2))+1)))))) (cond (decide ((i64.wrap (v.1+(i64.wrap (((i64.wrap (e1)).tmod (128:Int))*2^(min (u64.wrap (i64.wrap ((7:Int)*v.2))).toNat i64.bits)))))>2199023255551)) (eF ((0:Int),(-1:Int))) (cond (((i64.wrap (v.1+(i64.wrap (((i64.wrap (e1)).tmod (128:Int))*2^(min (u64.wrap (i64.wrap ((7:Int)*v.2))).toNat i64.bits))))).tmod (2:Int))==1) (eF (i64.wrap ((i64.wrap (0-(i64.wrap ((i64.wrap (v.1+(i64.wrap (((i64.wrap (e1)).tmod (128:Int))*2^(min (u64.wrap (i64.wrap ((7:Int)*v.2))).toNat i64.bits)))))+1)))).tdiv (2:Int)),i64.wrap ((i64.wrap (p.2+v.2))+1))) (eF (i64.wrap ((i64.wrap (v.1+(i64.wrap (((i64.wrap (e1)).tmod (128:Int))*2^(min (u64.wrap (i64.wrap ((7:Int)*v.2))).toNat i64.bits))))).tdiv (2:Int)),i64.wrap ((i64.wrap (p.2+v.2))+1)))))) (next (i64.wrap (v.1+(i64.wrap (((i64.wrap (e1)).tmod (128:Int))*2^(min (u64.wrap (i64.wrap ((7:Int)*v.2))).toNat i64.bits)))),i64.wrap (v.2+1))))))) (x0 ())
def tq (k:Nat) (a0:List Int) (a1:Int):Option (Int× Int):=
 iter (λu4 n4=>gW k (a0,a1) u4 n4 (λy2=>some ((0:Int),(-1:Int))) (λy3=>some (y3.1,y3.2))) k ((0:Int),(0:Int))
def cD (k:Nat) (aZ:List Int) (fA:Int) (fm:Bool):Option (Int× Int× Bool):=
 cond (fm) (cond (decide (aZ=aZ)) (some ((0:Int),fA,fm)) none) ((tq k aZ fA).bind λr1=>cond (decide (r1.2<0)) (cond (decide (aZ=aZ)) (some ((0:Int),fA,true)) none) (cond (decide (aZ=aZ)) (some (r1.1,r1.2,fm)) none))
def jC {ρ:Type} (k:Nat) (p:Int× List Int× Int) (v:Int× Int) (next:(Int× Int)->Option ρ) (x0:Unit->Option ρ) (eF:(Int× Int)->Option ρ):Option ρ:=
 cond (decide (v.2<p.2.2)) ((idx p.2.1 v.2).bind λe2=>cond (decide ((i64.wrap ((7:Int)*v.2))<0)) none (cond (decide (e2>=128)) (next (i64.wrap (((BitVec.ofInt i64.bits v.1||| BitVec.ofInt i64.bits (i64.wrap ((i64.wrap (u8.wrap (((BitVec.ofInt u8.bits e2&&& BitVec.ofInt u8.bits (127:Int)).toNat:Int))))*2^(min (i64.wrap ((7:Int)*v.2)).toNat i64.bits)))).toNat:Int)),i64.wrap (v.2+1))) (cond (((i64.wrap (((BitVec.ofInt i64.bits v.1||| BitVec.ofInt i64.bits (i64.wrap ((i64.wrap (u8.wrap (((BitVec.ofInt u8.bits e2&&& BitVec.ofInt u8.bits (127:Int)).toNat:Int))))*2^(min (i64.wrap ((7:Int)*v.2)).toNat i64.bits)))).toNat:Int))).tmod (2:Int))==1) (cond (decide (v.2>0)) (cond (e2==0) (x0 ()) ((nX k (i64.wrap ((i64.wrap (0-(i64.wrap ((i64.wrap (((BitVec.ofInt i64.bits v.1||| BitVec.ofInt i64.bits (i64.wrap ((i64.wrap (u8.wrap (((BitVec.ofInt u8.bits e2&&& BitVec.ofInt u8.bits (127:Int)).toNat:Int))))*2^(min (i64.wrap ((7:Int)*v.2)).toNat i64.bits)))).toNat:Int))).tdiv (2:Int)))))-1))).bind λr3=>cond (!r3) (x0 ()) (eF (i64.wrap ((i64.wrap (0-(i64.wrap ((i64.wrap (((BitVec.ofInt i64.bits v.1||| BitVec.ofInt i64.bits (i64.wrap ((i64.wrap (u8.wrap (((BitVec.ofInt u8.bits e2&&& BitVec.ofInt u8.bits (127:Int)).toNat:Int))))*2^(min (i64.wrap ((7:Int)*v.2)).toNat i64.bits)))).toNat:Int))).tdiv (2:Int)))))-1),i64.wrap ((i64.wrap (p.1+v.2))+1))))) ((nX k (i64.wrap ((i64.wrap (0-(i64.wrap ((i64.wrap (((BitVec.ofInt i64.bits v.1||| BitVec.ofInt i64.bits (i64.wrap ((i64.wrap (u8.wrap (((BitVec.ofInt u8.bits e2&&& BitVec.ofInt u8.bits (127:Int)).toNat:Int))))*2^(min (i64.wrap ((7:Int)*v.2)).toNat i64.bits)))).toNat:Int))).tdiv (2:Int)))))-1))).bind λr4=>cond (!r4) (x0 ()) (eF (i64.wrap ((i64.wrap (0-(i64.wrap ((i64.wrap (((BitVec.ofInt i64.bits v.1||| BitVec.ofInt i64.bits (i64.wrap ((i64.wrap (u8.wrap (((BitVec.ofInt u8.bits e2&&& BitVec.ofInt u8.bits (127:Int)).toNat:Int))))*2^(min (i64.wrap ((7:Int)*v.2)).toNat i64.bits)))).toNat:Int))).tdiv (2:Int)))))-1),i64.wrap ((i64.wrap (p.1+v.2))+1))))) (cond (decide (v.2>0)) (cond (e2==0) (x0 ()) ((nX k (i64.wrap ((i64.wrap (((BitVec.ofInt i64.bits v.1||| BitVec.ofInt i64.bits (i64.wrap ((i64.wrap (u8.wrap (((BitVec.ofInt u8.bits e2&&& BitVec.ofInt u8.bits (127:Int)).toNat:Int))))*2^(min (i64.wrap ((7:Int)*v.2)).toNat i64.bits)))).toNat:Int))).tdiv (2:Int)))).bind λr5=>cond (!r5) (x0 ()) (eF (i64.wrap ((i64.wrap (((BitVec.ofInt i64.bits v.1||| BitVec.ofInt i64.bits (i64.wrap ((i64.wrap (u8.wrap (((BitVec.ofInt u8.bits e2&&& BitVec.ofInt u8.bits (127:Int)).toNat:Int))))*2^(min (i64.wrap ((7:Int)*v.2)).toNat i64.bits)))).toNat:Int))).tdiv (2:Int)),i64.wrap ((i64.wrap (p.1+v.2))+1))))) ((nX k (i64.wrap ((i64.wrap (((BitVec.ofInt i64.bits v.1||| BitVec.ofInt i64.bits (i64.wrap ((i64.wrap (u8.wrap (((BitVec.ofInt u8.bits e2&&& BitVec.ofInt u8.bits (127:Int)).toNat:Int))))*2^(min (i64.wrap ((7:Int)*v.2)).toNat i64.bits)))).toNat:Int))).tdiv (2:Int)))).bind λr6=>cond (!r6) (x0 ()) (eF (i64.wrap ((i64.wrap (((BitVec.ofInt i64.bits v.1||| BitVec.ofInt i64.bits (i64.wrap ((i64.wrap (u8.wrap (((BitVec.ofInt u8.bits e2&&& BitVec.ofInt u8.bits (127:Int)).toNat:Int))))*2^(min (i64.wrap ((7:Int)*v.2)).toNat i64.bits)))).toNat:Int))).tdiv (2:Int)),i64.wrap ((i64.wrap (p.1+v.2))+1)))))))) (x0 ())
def tu (k:Nat) (a0:List Int) (a1:Int):Option (Int× Int):=
 (tY k a1 (0:Int) (i64.wrap ((a0.length:Int)-(1:Int)))).bind λr1=>cond (!r1) (some ((0:Int),(-1:Int))) (cond (decide (0<=(if(i64.wrap (a1+6))<(a0.length:Int)then(i64.wrap (a1+6))else(a0.length:Int))/\(if(i64.wrap (a1+6))<(a0.length:Int)then(i64.wrap (a1+6))else(a0.length:Int))<=(a0.length:Int))) (cond (decide (0<=a1/\a1<=((if(i64.wrap (a1+6))<(a0.length:Int)then(i64.wrap (a1+6))else(a0.length:Int)).toNat:Int))) (iter (λu9 n9=>jC k (a1,(a0.take ((if(i64.wrap (a1+6))<(a0.length:Int)then(i64.wrap (a1+6))else(a0.length:Int)).toNat)).drop a1.toNat,(((a0.take ((if(i64.wrap (a1+6))<(a0.length:Int)then(i64.wrap (a1+6))else(a0.length:Int)).toNat)).drop a1.toNat).length:Int)) u9 n9 (λy7=>some ((0:Int),(-1:Int))) (λy8=>some (y8.1,y8.2))) k ((0:Int),(0:Int))) none) none)
def av (k:Nat) (a0:Reader):Option (Int× Int× Bool):=
 cond (a0.bad) (cond (decide (a0.b=a0.b)) (some ((0:Int),a0.at_,a0.bad)) none) ((tu k a0.b a0.at_).bind λr1=>cond (decide (r1.2<0)) (cond (decide (a0.b=a0.b)) (some ((0:Int),a0.at_,true)) none) (cond (decide (a0.b=a0.b)) (some (r1.1,r1.2,a0.bad)) none))
def cj (k:Nat) (a0:Reader) (a1:Int):Option (Int× Int× Bool):=
 (av k a0).bind λr1=>(tY k r1.1 (0:Int) a1).bind λr2=>cond (!r2) (cond (decide (a0.b=a0.b)) (some ((0:Int),r1.2.1,true)) none) (cond (decide (a0.b=a0.b)) (some (r1.1,r1.2.1,r1.2.2)) none)
def cX (k:Nat) (a0:Reader) (a1:Int):Option (List Int× Int× Bool):=
 cond (a0.bad) (cond (decide (a0.b=a0.b)) (some (([]:List Int),a0.at_,true)) none) (cond (decide (a1>(i64.wrap ((a0.b.length:Int)-a0.at_)))) (cond (decide (a0.b=a0.b)) (some (([]:List Int),a0.at_,true)) none) (cond (decide (0<=(i64.wrap (a0.at_+a1))/\(i64.wrap (a0.at_+a1))<=(a0.b.length:Int))) (cond (decide (0<=(i64.wrap ((i64.wrap (a0.at_+a1))-a1))/\(i64.wrap ((i64.wrap (a0.at_+a1))-a1))<=((i64.wrap (a0.at_+a1)).toNat:Int))) ((dZ k ((a0.b.take ((i64.wrap (a0.at_+a1)).toNat)).drop ((i64.wrap ((i64.wrap (a0.at_+a1))-a1)).toNat))).bind λr1=>cond (decide (a0.b=a0.b)) (some (r1,i64.wrap (a0.at_+a1),a0.bad)) none) none) none))
def dM (k:Nat) (a0:Reader):Option (Shape× Int× Bool):=
 (av k a0).bind λr1=>(av k (⟨a0.b,r1.2.1,r1.2.2⟩:Reader)).bind λr2=>(av k (⟨a0.b,r2.2.1,r2.2.2⟩:Reader)).bind λr3=>cond (decide (a0.b=a0.b)) (some ((⟨r1.1,r2.1,r3.1⟩:Shape),r3.2.1,r3.2.2)) none
def aK {ρ:Type} (k:Nat) (p:List Int) (v:Int× Int× Bool× List Int) (next:(Int× Int× Bool× List Int)->Option ρ) (x0:(List Int× Int× Bool)->Option ρ):Option ρ:=
 cond (decide (v.1>0)) (cond (!v.2.2.1) ((av k (⟨p,v.2.1,v.2.2.1⟩:Reader)).bind λr2=>cond (Nat.ble (v.2.2.2.length+[r2.1].length) aO) (next (i64.wrap (v.1-1),r2.2.1,r2.2.2,v.2.2.2++[r2.1])) none) (x0 (v.2.2.2,v.2.1,v.2.2.1))) (x0 (v.2.2.2,v.2.1,v.2.2.1))
def bc (k:Nat) (a0:Reader) (a1:Int):Option (List Int× Int× Bool):=
 (cj k a0 a1).bind λr1=>iter (λu4 n4=>aK k a0.b u4 n4 (λy3=>cond (decide (a0.b=a0.b)) (some (y3.1,y3.2.1,y3.2.2)) none)) k (r1.1,r1.2.1,r1.2.2,([]:List Int))
def cE (k:Nat) (a0:Reader):Option (Step× Int× Bool):=
 (av k a0).bind λr1=>(av k (⟨a0.b,r1.2.1,r1.2.2⟩:Reader)).bind λr2=>(av k (⟨a0.b,r2.2.1,r2.2.2⟩:Reader)).bind λr3=>(cj k (⟨a0.b,r3.2.1,r3.2.2⟩:Reader) (6000:Int)).bind λr4=>(cX k (⟨a0.b,r4.2.1,r4.2.2⟩:Reader) r4.1).bind λr5=>(dM k (⟨a0.b,r5.2.1,r5.2.2⟩:Reader)).bind λr6=>(bc k (⟨a0.b,r6.2.1,r6.2.2⟩:Reader) (512:Int)).bind λr7=>cond (decide (a0.b=a0.b)) (some ((⟨r1.1,r2.1,r3.1,r5.1,(⟨r6.1,r7.1⟩:aD)⟩:Step),r7.2.1,r7.2.2)) none
def mq (k:Nat) (a0:List Int) (a1:Int):Option (Step× Int):=
 (tY k a1 (0:Int) (a0.length:Int)).bind λr1=>cond (!r1) (some ((⟨(0:Int),(0:Int),(0:Int),([]:List Int),(⟨(⟨(0:Int),(0:Int),(0:Int)⟩:Shape),([]:List Int)⟩:aD)⟩:Step),(-1:Int))) ((cE k (⟨a0,a1,false⟩:Reader)).bind λr2=>cond (r2.2.2) (some ((⟨(0:Int),(0:Int),(0:Int),([]:List Int),(⟨(⟨(0:Int),(0:Int),(0:Int)⟩:Shape),([]:List Int)⟩:aD)⟩:Step),(-1:Int))) (some (r2.1,r2.2.1)))
def pD {ρ:Type} (k:Nat) (p:List Int) (v:Int× Int) (next:(Int× Int)->Option ρ) (x0:Int->Option ρ):Option ρ:=
 cond (decide (v.2<(p.length:Int))) ((idx p v.2).bind λe1=>next ((i64.wrap ((i64.wrap ((i64.wrap ((257:Int)*v.1))+(i64.wrap (e1))))+1)).tmod (1000003:Int),i64.wrap (v.2+1))) (x0 v.1)
def qE (k:Nat) (a0:List Int):Option (Int):=
 iter (λu3 n3=>pD k a0 u3 n3 (λy2=>some y2)) k ((1:Int),(0:Int))
def gz {ρ:Type} (k:Nat) (p:List Step) (v:Int× List Int) (next:(Int× List Int)->Option ρ) (x0:(List Int)->Option ρ) (eF:Bool->Option ρ):Option ρ:=
 cond (decide (v.1<(p.length:Int))) ((idx p v.1).bind λe2=>(mZ k e2).bind λr3=>cond (!r3.2) (eF false) (cond (decide ((v.2.length:Int)>(20000:Int))) (eF false) ((pC k v.2 r3.1).bind λr4=>next (i64.wrap (v.1+1),r4)))) (x0 v.2)
def vR (k:Nat) (a0:List Step):Option (List Int× Bool):=
 cond (decide ((a0.length:Int)>(200:Int))) (some (([]:List Int),false)) ((dA k [(84:Int),(49:Int)] [(a0.length:Int)]).bind λr1=>iter (λu9 n9=>gz k a0 u9 n9 (λy5=>(qE k y5).bind λr6=>(dA k y5 [r6]).bind λr7=>cond (decide ((r7.length:Int)>(20000:Int))) (some (([]:List Int),false)) (some (r7,true))) (λy8=>some (([]:List Int),y8))) k ((0:Int),r1))
def pE {ρ:Type} (k:Nat) (p:List Int× Int) (v:Int× Int) (next:(Int× Int)->Option ρ) (x0:Int->Option ρ):Option ρ:=
 cond (decide (v.2<p.2)) ((idx p.1 v.2).bind λe1=>next ((i64.wrap ((i64.wrap ((i64.wrap (v.1*257))+(i64.wrap (e1))))+1)).tmod (1000003:Int),i64.wrap (v.2+1))) (x0 v.1)
def lI (k:Nat) (a0:List Int):Option (Int):=
 iter (λu3 n3=>pE k (a0,(a0.length:Int)) u3 n3 (λy2=>some y2)) k ((1:Int),(0:Int))
def et (k:Nat) (a0:List Int) (a1:List Int):Option (Bool):=
 cond (decide ((a0.length:Int)>=(a1.length:Int))) (cond (decide (0<=(a1.length:Int)/\(a1.length:Int)<=(a0.length:Int))) ((mN k ((a0.take ((a1.length:Int).toNat)).drop 0) a1).bind λr1=>some r1) none) (some false)
def dc {ρ:Type} (k:Nat) (p:List Int× List Int) (v:Int× Int× Bool× List Step) (next:(Int× Int× Bool× List Step)->Option ρ) (x1:(Int× Bool× List Step)->Option ρ):Option ρ:=
 cond (decide (v.1>0)) (cond (!v.2.2.1) ((cE k (⟨p.2,v.2.1,v.2.2.1⟩:Reader)).bind λr3=>cond (Nat.ble (v.2.2.2.length+1) aO) (next (i64.wrap (v.1-1),r3.2.1,r3.2.2,v.2.2.2++[r3.1])) none) (x1 (v.2.1,v.2.2.1,v.2.2.2))) (x1 (v.2.1,v.2.2.1,v.2.2.2))
def kh (k:Nat) (a0:List Int):Option (List Step× Int):=
 cond (decide ((a0.length:Int)>(20000:Int))) (some (([]:List Step),(4:Int))) ((et k a0 [(84:Int),(49:Int)]).bind λr1=>cond (!r1) (some (([]:List Step),(1:Int))) ((cj k (⟨a0,(2:Int),false⟩:Reader) (200:Int)).bind λr2=>iter (λu7 n7=>dc k (a0,a0) u7 n7 (λy4=>(av k (⟨a0,y4.1,y4.2.1⟩:Reader)).bind λr5=>cond (r5.2.2) (some (([]:List Step),(2:Int))) (cond (decide (0<=y4.1/\y4.1<=(a0.length:Int))) ((lI k ((a0.take y4.1.toNat).drop 0)).bind λr6=>cond (r5.1 !=r6) (some (([]:List Step),(3:Int))) (cond (r5.2.1 !=(a0.length:Int)) (some (([]:List Step),(3:Int))) (some (y4.2.2,(0:Int))))) none))) k (r2.1,r2.2.1,r2.2.2,([]:List Step))))
end
end
set_option maxRecDepth 100000
set_option maxHeartbeats 4000000
section
noncomputable section
def m7 {ρ:Type} (k:Nat) (p:List Int× Int× Int) (v:Int× List Int) (next:(Int× List Int)->Option ρ) (x2:(Int× List Int)->Option ρ):Option ρ:=
 cond (decide (v.1>127)) (cond (Nat.ble (v.2.length+[(u8.wrap (((BitVec.ofInt u8.bits (u8.wrap (v.1))||| BitVec.ofInt u8.bits (128:Int)).toNat:Int)))].length) aO) (next (v.1.fdiv (2^(min (7:Int).toNat i64.bits)),v.2++[(u8.wrap (((BitVec.ofInt u8.bits (u8.wrap (v.1))||| BitVec.ofInt u8.bits (128:Int)).toNat:Int)))])) none) (x2 (v.1,v.2))
def sd {ρ:Type} (k:Nat) (p:List Int× Int) (v:Int× List Int) (next:(Int× List Int)->Option ρ) (x0:(List Int)->Option ρ):Option ρ:=
 cond (decide (v.1<p.2)) ((idx p.1 v.1).bind λe1=>cond (decide (e1<0)) (iter (λu3 n3=>m7 k (p.1,p.2,v.1) u3 n3 (λy2=>cond (Nat.ble (y2.2.length+[(u8.wrap (y2.1))].length) aO) (next (i64.wrap (v.1+1),y2.2++[(u8.wrap (y2.1))])) none)) k (i64.wrap ((i64.wrap ((-2:Int)*e1))-1),v.2)) (iter (λu5 n5=>m7 k (p.1,p.2,v.1) u5 n5 (λy4=>cond (Nat.ble (y4.2.length+[(u8.wrap (y4.1))].length) aO) (next (i64.wrap (v.1+1),y4.2++[(u8.wrap (y4.1))])) none)) k (i64.wrap ((2:Int)*e1),v.2))) (x0 v.2)
def se (k:Nat) (a1:List Int):Option (List Int):=
 iter (λu7 n7=>sd k (a1,(a1.length:Int)) u7 n7 (λy6=>some y6)) k ((0:Int),([]:List Int))
def m8 {ρ:Type} (k:Nat) (p:List Int× Int× Int) (v:Int× List Int) (next:(Int× List Int)->Option ρ) (x2:(Int× List Int)->Option ρ):Option ρ:=
 cond (decide (v.1>127)) (cond (Nat.ble (v.2.length+[(u8.wrap (((BitVec.ofInt u8.bits (u8.wrap (v.1))||| BitVec.ofInt u8.bits (128:Int)).toNat:Int)))].length) aO) (next (v.1.fdiv (2^(min (7:Int).toNat i64.bits)),v.2++[(u8.wrap (((BitVec.ofInt u8.bits (u8.wrap (v.1))||| BitVec.ofInt u8.bits (128:Int)).toNat:Int)))])) none) (x2 (v.1,v.2))
def jD {ρ:Type} (k:Nat) (p:List Int× Int) (v:Int× List Int) (next:(Int× List Int)->Option ρ) (x0:(List Int)->Option ρ):Option ρ:=
 cond (decide (v.1<p.2)) ((idx p.1 v.1).bind λe1=>cond (decide (e1<0)) (iter (λu3 n3=>m8 k (p.1,p.2,v.1) u3 n3 (λy2=>cond (Nat.ble (y2.2.length+[(u8.wrap (y2.1))].length) aO) (next (i64.wrap (v.1+1),y2.2++[(u8.wrap (y2.1))])) none)) k (i64.wrap ((i64.wrap ((-2:Int)*e1))-1),v.2)) (iter (λu5 n5=>m8 k (p.1,p.2,v.1) u5 n5 (λy4=>cond (Nat.ble (y4.2.length+[(u8.wrap (y4.1))].length) aO) (next (i64.wrap (v.1+1),y4.2++[(u8.wrap (y4.1))])) none)) k (i64.wrap ((2:Int)*e1),v.2))) (x0 v.2)
def fB (k:Nat) (a0:List Int) (a1:List Int):Option (List Int):=
 iter (λu7 n7=>jD k (a1,(a1.length:Int)) u7 n7 (λy6=>some y6)) k ((0:Int),a0)
def m9 (k:Nat) (a0:Step):Option (List Int× Bool):=
 cond (Nat.ble ([a0.input.sh.h,a0.input.sh.w,a0.input.sh.c,(a0.input.data.length:Int)].length+a0.input.data.length) aO) (cond (decide ((a0.data.length:Int)>(6000:Int))) (some (([]:List Int),false)) (cond (decide ((a0.input.data.length:Int)>(512:Int))) (some (([]:List Int),false)) ((aU k [a0.kind,a0.a,a0.b,(a0.data.length:Int)]).bind λr1=>cond (r1) (some (([]:List Int),false)) ((aU k ([a0.input.sh.h,a0.input.sh.w,a0.input.sh.c,(a0.input.data.length:Int)]++a0.input.data)).bind λr2=>cond (r2) (some (([]:List Int),false)) ((se k [a0.kind,a0.a,a0.b,(a0.data.length:Int)]).bind λr3=>cond (Nat.ble (r3.length+a0.data.length) aO) ((fB k (r3++a0.data) ([a0.input.sh.h,a0.input.sh.w,a0.input.sh.c,(a0.input.data.length:Int)]++a0.input.data)).bind λr4=>some (r4,true)) none))))) none
def gA {ρ:Type} (k:Nat) (p:List Step× Int) (v:Int× List Int) (next:(Int× List Int)->Option ρ) (x0:(List Int)->Option ρ) (eF:Bool->Option ρ):Option ρ:=
 cond (decide (v.1<p.2)) ((idx p.1 v.1).bind λe2=>(m9 k e2).bind λr3=>cond (!r3.2) (eF false) (cond (Nat.ble (v.2.length+r3.1.length) aO) (next (i64.wrap (v.1+1),v.2++r3.1)) none)) (x0 v.2)
def vS (k:Nat) (a0:List Step):Option (List Int× Bool):=
 cond (decide ((a0.length:Int)>(200:Int))) (some (([]:List Int),false)) ((fB k [(84:Int),(49:Int)] [(a0.length:Int)]).bind λr1=>iter (λu8 n8=>gA k (a0,(a0.length:Int)) u8 n8 (λy4=>(lI k y4).bind λr5=>(fB k y4 [r5]).bind λr6=>cond (decide ((r6.length:Int)>(20000:Int))) (some (([]:List Int),false)) (some (r6,true))) (λy7=>some (([]:List Int),y7))) k ((0:Int),r1))
end
end
set_option maxRecDepth 100000
set_option maxHeartbeats 4000000
section
noncomputable section
def RW (k:Nat) (a0:List Int) (a1:Int):Option (Int):=
 cond (decide (a1<(a0.length:Int))) ((idx a0 a1).bind λe1=>some (i64.wrap (e1))) (some ((i64.wrap ((i64.wrap (a1*13))+(i64.wrap ((a0.length:Int)*(5:Int))))).tmod (256:Int)))
end
end
set_option maxRecDepth 100000
section
noncomputable section
end
end
set_option maxRecDepth 100000
section
noncomputable section
def vT (k:Nat) (a0:aq):Option (aq):=
 (kV k a0.weights).bind λr1=>(kV k a0.my).bind λr2=>some (⟨a0.kind,a0.out,a0.size,a0.step,a0.mult,a0.shift,a0.zero,r1,r2⟩:aq)
def oL (k:Nat) (a0:aq):Option (aq):=
 (cg k a0.weights).bind λr1=>(cg k a0.my).bind λr2=>some (⟨a0.kind,a0.out,a0.size,a0.step,a0.mult,a0.shift,a0.zero,r1,r2⟩:aq)
def gX {ρ:Type} (k:Nat) (p:List aq× Int) (v:Int× List aq) (next:(Int× List aq)->Option ρ) (x0:(List aq)->Option ρ):Option ρ:=
 cond (decide (v.1<p.2)) ((idx p.1 v.1).bind λe1=>(oL k e1).bind λr2=>cond (Nat.ble (v.2.length+1) aO) (next (i64.wrap (v.1+1),v.2++[r2])) none) (x0 v.2)
def uh (k:Nat) (a0:List aq):Option (List aq):=
 iter (λu4 n4=>gX k (a0,(a0.length:Int)) u4 n4 (λy3=>some y3)) k ((0:Int),([]:List aq))
def k9 {ρ:Type} (k:Nat) (p:Int× Int× Int× List aq× Int× Int× Int× Int× Int× Int) (v:Int× List aq) (next:(Int× List aq)->Option ρ) (x0:(List aq)->Option ρ):Option ρ:=
 cond (decide (v.1<(p.2.2.2.1.length:Int))) ((idx p.2.2.2.1 v.1).bind λe1=>(vT k e1).bind λr2=>cond (Nat.ble (v.2.length+1) aO) (next (i64.wrap (v.1+1),v.2++[r2])) none) (x0 v.2)
def vU (k:Nat) (a0:Model):Option (Model):=
 iter (λu4 n4=>k9 k (a0.inp.h,a0.inp.w,a0.inp.c,a0.aE,(0:Int),(0:Int),(0:Int),a0.inp.h,a0.inp.w,a0.inp.c) u4 n4 (λy3=>some (⟨a0.inp,y3⟩:Model))) k ((0:Int),([]:List aq))
def pF {ρ:Type} (k:Nat) (p:Int× Int× Int× List aq× Int× Int× Int× Int× List Int× Int× List Int) (v:Int× Int) (next:(Int× Int)->Option ρ) (x0:Int->Option ρ):Option ρ:=
 cond (decide (v.2<p.2.2.2.2.1)) (cond (decide (0<=v.2/\v.2<(p.2.2.2.2.2.2.2.2.2.2.length:Int))) ((p.2.2.2.2.2.2.2.2.2.2[v.2.toNat]?).bind λe6=>next (i64.wrap (v.1+e6),i64.wrap (v.2+1))) none) (x0 v.1)
def uP (k:Nat) (a0:Job):Option (Bool):=
 (kg k a0.model).bind λr1=>cond (!r1.2) (some false) ((bm k a0.at_ (0:Int) (a0.model.aE.length:Int)).bind λr2=>cond (!r2) (some false) ((gP k a0.act).bind λr3=>cond (!r3) (some false) (cond (decide (0<=a0.at_/\a0.at_<(r1.1.length:Int))) ((r1.1[a0.at_.toNat]?).bind λe4=>cond (!(cond (a0.act.sh.h==e4.h) (cond (a0.act.sh.w==e4.w) (cond (a0.act.sh.c==e4.c) (true) false) false) false)) (some false) ((kZ k a0.model).bind λr5=>iter (λu8 n8=>pF k (a0.model.inp.h,a0.model.inp.w,a0.model.inp.c,a0.model.aE,a0.at_,a0.act.sh.h,a0.act.sh.w,a0.act.sh.c,a0.act.data,a0.jQ,r5) u8 n8 (λy7=>some (a0.jQ==y7))) k ((0:Int),(0:Int)))) none)))
def tv (k:Nat) (a0:Model) (a1:aD):Option (Job× Bool):=
 (vU k a0).bind λr1=>(rZ k a1).bind λr2=>(uP k (⟨r1,(0:Int),r2,(0:Int)⟩:Job)).bind λr3=>cond (!r3) (some ((⟨(⟨(⟨(0:Int),(0:Int),(0:Int)⟩:Shape),([]:List aq)⟩:Model),(0:Int),(⟨(⟨(0:Int),(0:Int),(0:Int)⟩:Shape),([]:List Int)⟩:aD),(0:Int)⟩:Job),false)) (some ((⟨r1,(0:Int),r2,(0:Int)⟩:Job),true))
def Fk (k:Nat) (a0:Job):Option (Bool):=
 (py k a0.model).bind λr1=>cond (r1) ((tY k a0.at_ (0:Int) (a0.model.aE.length:Int)).bind λr2=>cond (r2) ((iV k a0.act).bind λr3=>cond (r3) ((tb k a0.model).bind λr4=>cond (decide (0<=a0.at_/\a0.at_<(r4.length:Int))) ((r4[a0.at_.toNat]?).bind λe5=>cond (cond (a0.act.sh.h==e5.h) (cond (a0.act.sh.w==e5.w) (cond (a0.act.sh.c==e5.c) (true) false) false) false) ((mP k a0.model).bind λr6=>cond (decide (0<=a0.at_/\a0.at_<=(r6.length:Int))) ((Q8 k (((r6).drop 0).take (a0.at_.toNat-0))).bind λr7=>some (a0.jQ==r7)) none) (some false)) none) (some false)) (some false)) (some false)
def oN (k:Nat) (a0:Model):Option (Model):=
 (uh k a0.aE).bind λr1=>some (⟨a0.inp,r1⟩:Model)
def sf (k:Nat) (a0:Job):Option (Job):=
 (oN k a0.model).bind λr1=>(mM k a0.act).bind λr2=>some (⟨r1,a0.at_,r2,a0.jQ⟩:Job)
def xB (k:Nat) (a0:Model) (a1:aD):Option (Job× Bool):=
 (Fk k (⟨a0,(0:Int),a1,(0:Int)⟩:Job)).bind λr1=>cond (!r1) (some ((⟨(⟨(⟨(0:Int),(0:Int),(0:Int)⟩:Shape),([]:List aq)⟩:Model),(0:Int),(⟨(⟨(0:Int),(0:Int),(0:Int)⟩:Shape),([]:List Int)⟩:aD),(0:Int)⟩:Job),false)) ((sf k (⟨a0,(0:Int),a1,(0:Int)⟩:Job)).bind λr2=>some (r2,true))
end
end
end Go.Proofs.Ev
