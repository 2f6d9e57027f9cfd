/- Typed functions and what holds of them: part 1. -/
import Derived.Test.YtkjdnpefjebmlaaGreatDoorEvK6
import Derived.Test.YtkjdnpefjebmlaaGreatDoorEvK7
set_option linter.unusedVariables false
set_option linter.unusedSimpArgs false
set_option linter.unusedSectionVars false
namespace Go.Proofs.Ev
open IntKind(i64 u8 u64)
set_option maxRecDepth 100000
section
noncomputable section
def vB (k:Nat) (a0:List Int) (a1:Int):Option (Int):=
 cond (decide ((i64.wrap (a1-(a0.length:Int)))<0)) (some (-1:Int)) (some (i64.wrap (a1-(a0.length:Int))))
def xC (k:Nat) (a0:az) (a1:Int):Option (Int):=
 (vB k a0.data a1).bind λr1=>cond (decide (r1<0)) (some (-1:Int)) (some r1)
def Bv (k:Nat) (a0:Shape):Option (Shape):=
 some a0
def qj {ρ:Type} (k:Nat) (p:List Int) (v:Int× List Int) (next:(Int× List Int)->Option ρ) (x0:(List Int)->Option ρ):Option ρ:=
 cond (decide (v.1<(p.length:Int))) ((idx p v.1).bind λe1=>cond (decide (0<=v.1/\v.1<(v.2.length:Int))) (next (i64.wrap (v.1+1),v.2.set v.1.toNat e1)) none) (x0 v.2)
def vC (k:Nat) (a0:List Int):Option (List Int):=
 cond (decide (0<=(a0.length:Int)/\(a0.length:Int)<=(a0.length:Int)/\(a0.length:Int)<=(aG:Int))) (iter (λu3 n3=>qj k a0 u3 n3 (λy2=>some y2)) k ((0:Int),List.replicate ((a0.length:Int).toNat) (0:Int))) none
def sM (k:Nat) (a0:az):Option (az):=
 (Bv k a0.sh).bind λr1=>(vC k a0.data).bind λr2=>some (⟨r1,r2⟩:az)
def kU {ρ:Type} (k:Nat) (p:List Int) (v:Int× List Int) (next:(Int× List Int)->Option ρ) (x0:(List Int)->Option ρ):Option ρ:=
 cond (decide (v.1<(p.length:Int))) ((idx p v.1).bind λe1=>cond (Nat.ble (v.2.length+[e1].length) aG) (next (i64.wrap (v.1+1),v.2++[e1])) none) (x0 v.2)
def kV (k:Nat) (a0:List Int):Option (List Int):=
 iter (λu3 n3=>kU k a0 u3 n3 (λy2=>some y2)) k ((0:Int),([]:List Int))
def rN (k:Nat) (a0:az):Option (az):=
 (kV k a0.data).bind λr1=>some (⟨a0.sh,r1⟩:az)
def bO (k:Nat) (a0:Int) (a1:Int) (a2:Int):Option (Bool):=
 cond (decide (a1<=a0)) (some (decide (a0<=a2))) (some false)
def kW (k:Nat) (a0:Shape):Option (Bool):=
 (bO k a0.h (1:Int) (8:Int)).bind λr1=>cond (r1) ((bO k a0.w (1:Int) (8:Int)).bind λr2=>cond (r2) ((bO k a0.c (1:Int) (8:Int)).bind λr3=>some r3) (some false)) (some false)
def ed (k:Nat) (a0:Shape):Option (Int):=
 (kW k a0).bind λr1=>cond (!r1) (some (0:Int)) (some (i64.wrap ((i64.wrap (a0.h*a0.w))*a0.c)))
def iv (k:Nat) (a0:Int):Option (Bool):=
 (bO k a0 (-128:Int) (127:Int)).bind λr1=>some r1
def lP {ρ:Type} (k:Nat) (p:Int× Int× Int× List Int) (v:Int) (next:Int->Option ρ) (x0:Unit->Option ρ) (dE:Bool->Option ρ):Option ρ:=
 cond (decide (v<(p.2.2.2.length:Int))) ((idx p.2.2.2 v).bind λe3=>(iv k e3).bind λr4=>cond (!r4) (dE false) (next (i64.wrap (v+1)))) (x0 ())
def j9 (k:Nat) (a0:az):Option (Bool):=
 (kW k a0.sh).bind λr1=>cond (!r1) (some false) ((ed k a0.sh).bind λr2=>cond ((a0.data.length:Int) !=r2) (some false) (iter (λu7 n7=>lP k (a0.sh.h,a0.sh.w,a0.sh.c,a0.data) u7 n7 (λy5=>some true) (λy6=>some y6)) k (0:Int)))
def bY (k:Nat) (a0:List Int):Option (List Int):=
 cond (isNil a0) (both (some ([]:List Int)) (cond (Nat.ble (([]:List Int).length+a0.length) aG) (some (([]:List Int)++a0)) none)) (cond (Nat.ble (([]:List Int).length+a0.length) aG) (some (([]:List Int)++a0)) none)
def jv (k:Nat) (a0:az):Option (az):=
 (bY k a0.data).bind λr1=>some (⟨a0.sh,r1⟩:az)
def tP (k:Nat) (a0:Int) (a1:Int) (a2:Int):Option (Bool):=
 cond (decide (a1<=a0)) (some (decide (a0<=a2))) (some false)
def ph (k:Nat) (a0:Shape):Option (Bool):=
 (tP k a0.h (1:Int) (8:Int)).bind λr1=>cond (r1) ((tP k a0.w (1:Int) (8:Int)).bind λr2=>cond (r2) ((tP k a0.c (1:Int) (8:Int)).bind λr3=>some r3) (some false)) (some false)
def ku (k:Nat) (a0:Shape):Option (Int):=
 (ph k a0).bind λr1=>cond (!r1) (some (0:Int)) (some (i64.wrap ((i64.wrap (a0.h*a0.w))*a0.c)))
def qk (k:Nat) (a0:Int):Option (Bool):=
 (tP k a0 (-128:Int) (127:Int)).bind λr1=>some (!r1)
def bm {ρ:Type} (k:Nat) (p:List Int× Int) (v:Int) (next:Int->Option ρ) (x0:Unit->Option ρ) (dE:Int->Option ρ):Option ρ:=
 cond (decide (v<p.2)) ((idx p.1 v).bind λe1=>(qk k e1).bind λr2=>cond (r2) (dE v) (next (i64.wrap (v+1)))) (x0 ())
def cq (k:Nat) (a0:List Int):Option (Int):=
 iter (λu5 n5=>bm k (a0,(a0.length:Int)) u5 n5 (λy3=>some (-1:Int)) (λy4=>some y4)) k (0:Int)
def b6 (k:Nat) (a0:List Int):Option (Bool):=
 (cq k a0).bind λr1=>some (decide (r1>=0))
def pj (k:Nat) (a0:List Int):Option (Bool):=
 (b6 k a0).bind λr1=>some (!r1)
def mx (k:Nat) (a0:az):Option (Bool):=
 (ph k a0.sh).bind λr1=>cond (r1) ((ku k a0.sh).bind λr2=>cond ((a0.data.length:Int)==r2) ((pj k a0.data).bind λr3=>some r3) (some false)) (some false)
def Bw (k:Nat) (a0:Shape) (a1:Shape):Option (Bool):=
 cond (a0.h !=a1.h) (some false) (cond (a0.w !=a1.w) (some false) (cond (a0.c !=a1.c) (some false) (some true)))
def Bx {ρ:Type} (k:Nat) (p:List Int× List Int) (v:Int) (next:Int->Option ρ) (x0:Unit->Option ρ) (dE:Bool->Option ρ):Option ρ:=
 cond (decide (v<(p.1.length:Int))) ((idx p.1 v).bind λe1=>(idx p.2 v).bind λe2=>cond (e1 !=e2) (dE false) (next (i64.wrap (v+1)))) (x0 ())
def zS (k:Nat) (a0:List Int) (a1:List Int):Option (Bool):=
 cond ((a0.length:Int) !=(a1.length:Int)) (some false) (iter (λu5 n5=>Bx k (a0,a1) u5 n5 (λy3=>some true) (λy4=>some y4)) k (0:Int))
def xD (k:Nat) (a0:az) (a1:az):Option (Bool):=
 (Bw k a0.sh a1.sh).bind λr1=>cond (!r1) (some false) ((zS k a0.data a1.data).bind λr2=>cond (!r2) (some false) (some true))
def rO (k:Nat) (a0:List Int) (a1:Int):Option (Int):=
 cond (decide ((i64.wrap (a1-(a0.length:Int)))<0)) (some (-1:Int)) (some (i64.wrap (a1-(a0.length:Int))))
def zT (k:Nat) (a0:Step) (a1:Int):Option (Int):=
 (rO k a0.data a1).bind λr1=>cond (decide (r1<0)) (some (-1:Int)) ((xC k a0.input r1).bind λr2=>cond (decide (r2<0)) (some (-1:Int)) (some r2))
def nL {ρ:Type} (k:Nat) (p:List Int) (v:Int× List Int) (next:(Int× List Int)->Option ρ) (x0:(List Int)->Option ρ):Option ρ:=
 cond (decide (v.1<(p.length:Int))) ((idx p v.1).bind λe1=>cond (decide (0<=v.1/\v.1<(v.2.length:Int))) (next (i64.wrap (v.1+1),v.2.set v.1.toNat e1)) none) (x0 v.2)
def rP (k:Nat) (a0:List Int):Option (List Int):=
 cond (decide (0<=(a0.length:Int)/\(a0.length:Int)<=(a0.length:Int)/\(a0.length:Int)<=(aG:Int))) (iter (λu3 n3=>nL k a0 u3 n3 (λy2=>some y2)) k ((0:Int),List.replicate ((a0.length:Int).toNat) (0:Int))) none
def vD (k:Nat) (a0:Step):Option (Step):=
 (rP k a0.data).bind λr1=>(sM k a0.input).bind λr2=>some (⟨a0.kind,a0.a,a0.b,r1,r2⟩:Step)
def yV {ρ:Type} (k:Nat) (p:List Int× List Int) (v:Int) (next:Int->Option ρ) (x0:Unit->Option ρ) (dE:Bool->Option ρ):Option ρ:=
 cond (decide (v<(p.1.length:Int))) ((idx p.1 v).bind λe1=>(idx p.2 v).bind λe2=>cond (e1 !=e2) (dE false) (next (i64.wrap (v+1)))) (x0 ())
def Bz (k:Nat) (a0:List Int) (a1:List Int):Option (Bool):=
 cond ((a0.length:Int) !=(a1.length:Int)) (some false) (iter (λu5 n5=>yV k (a0,a1) u5 n5 (λy3=>some true) (λy4=>some y4)) k (0:Int))
def yW {ρ:Type} (k:Nat) (p:List Int× List Int) (v:Int) (next:Int->Option ρ) (x0:Unit->Option ρ) (dE:Bool->Option ρ):Option ρ:=
 cond (decide (v<(p.1.length:Int))) ((idx p.1 v).bind λe1=>(idx p.2 v).bind λe2=>cond (e1 !=e2) (dE false) (next (i64.wrap (v+1)))) (x0 ())
def BA (k:Nat) (a0:List Int) (a1:List Int):Option (Bool):=
 cond ((a0.length:Int) !=(a1.length:Int)) (some false) (iter (λu5 n5=>yW k (a0,a1) u5 n5 (λy3=>some true) (λy4=>some y4)) k (0:Int))
def sN (k:Nat) (a0:Step) (a1:Step):Option (Bool):=
 cond (a0.kind==a1.kind) (cond (a0.a==a1.a) (cond (a0.b==a1.b) ((Bz k a0.data a1.data).bind λr1=>cond (r1) (cond (cond (a0.input.sh.h==a1.input.sh.h) (cond (a0.input.sh.w==a1.input.sh.w) (cond (a0.input.sh.c==a1.input.sh.c) (true) false) false) false) ((BA k a0.input.data a1.input.data).bind λr2=>some r2) (some false)) (some false)) (some false)) (some false)) (some false)
def mU (k:Nat) (a0:List Int) (a1:List Int):Option (Bool):=
 some ((bytesOf a0)==(bytesOf a1))
def iX {ρ:Type} (k:Nat) (p:List Int× List Int× Int) (v:Int) (next:Int->Option ρ) (x0:Unit->Option ρ) (dE:Bool->Option ρ):Option ρ:=
 cond (decide (v<p.2.2)) ((idx p.1 v).bind λe1=>(idx p.2.1 v).bind λe2=>cond (e1 !=e2) (dE false) (next (i64.wrap (v+1)))) (x0 ())
def gA (k:Nat) (a0:List Int) (a1:List Int):Option (Bool):=
 cond ((a0.length:Int) !=(a1.length:Int)) (some false) (iter (λu5 n5=>iX k (a0,a1,(a0.length:Int)) u5 n5 (λy3=>some true) (λy4=>some y4)) k (0:Int))
def lQ (k:Nat) (a0:az) (a1:az):Option (Bool):=
 cond (cond (a0.sh.h==a1.sh.h) (cond (a0.sh.w==a1.sh.w) (cond (a0.sh.c==a1.sh.c) (true) false) false) false) ((gA k a0.data a1.data).bind λr1=>some r1) (some false)
def sO (k:Nat) (a0:Step) (a1:Step):Option (Bool):=
 cond (a0.kind==a1.kind) (cond (a0.a==a1.a) (cond (a0.b==a1.b) ((mU k a0.data a1.data).bind λr1=>cond (r1) ((lQ k a0.input a1.input).bind λr2=>some r2) (some false)) (some false)) (some false)) (some false)
def yX {ρ:Type} (k:Nat) (p:List Int× List Int) (v:Int) (next:Int->Option ρ) (x0:Unit->Option ρ) (dE:Bool->Option ρ):Option ρ:=
 cond (decide (v<(p.1.length:Int))) ((idx p.1 v).bind λe1=>(idx p.2 v).bind λe2=>cond (e1 !=e2) (dE false) (next (i64.wrap (v+1)))) (x0 ())
def vE (k:Nat) (a0:List Int) (a1:List Int):Option (Bool):=
 cond ((a0.length:Int) !=(a1.length:Int)) (some false) (iter (λu5 n5=>yX k (a0,a1) u5 n5 (λy3=>some true) (λy4=>some y4)) k (0:Int))
def zU (k:Nat) (a0:Step) (a1:Step):Option (Bool):=
 cond (a0.kind !=a1.kind) (some false) (cond (a0.a !=a1.a) (some false) (cond (a0.b !=a1.b) (some false) ((vE k a0.data a1.data).bind λr1=>cond (!r1) (some false) ((xD k a0.input a1.input).bind λr2=>cond (!r2) (some false) (some true)))))
def kX {ρ:Type} (k:Nat) (p:List Step) (v:Int× Int) (next:(Int× Int)->Option ρ) (x0:Int->Option ρ) (dE:Int->Option ρ):Option ρ:=
 cond (decide (v.2<(p.length:Int))) ((idx p v.2).bind λe1=>(zT k e1 v.1).bind λr2=>cond (decide (r2<0)) (dE (-1:Int)) (next (r2,i64.wrap (v.2+1)))) (x0 v.1)
def BB (k:Nat) (a0:List Step) (a1:Int):Option (Int):=
 cond (decide ((i64.wrap (a1-(a0.length:Int)))<0)) (some (-1:Int)) (iter (λu5 n5=>kX k a0 u5 n5 (λy3=>some y3) (λy4=>some y4)) k (i64.wrap (a1-(a0.length:Int)),(0:Int)))
def kY {ρ:Type} (k:Nat) (p:List Step) (v:Int× List Step) (next:(Int× List Step)->Option ρ) (x0:(List Step)->Option ρ):Option ρ:=
 cond (decide (v.1<(p.length:Int))) ((idx p v.1).bind λe1=>(vD k e1).bind λr2=>cond (decide (0<=v.1/\v.1<(v.2.length:Int))) (next (i64.wrap (v.1+1),v.2.set v.1.toNat r2)) none) (x0 v.2)
def rQ (k:Nat) (a0:List Step):Option (List Step):=
 cond (decide (0<=(a0.length:Int)/\(a0.length:Int)<=(a0.length:Int)/\(a0.length:Int)<=(aG:Int))) (iter (λu4 n4=>kY k a0 u4 n4 (λy3=>some y3)) k ((0:Int),List.replicate ((a0.length:Int).toNat) (⟨(0:Int),(0:Int),(0:Int),([]:List Int),(⟨(⟨(0:Int),(0:Int),(0:Int)⟩:Shape),([]:List Int)⟩:az)⟩:Step))) none
def gB {ρ:Type} (k:Nat) (p:List Step× List Step) (v:Int) (next:Int->Option ρ) (x0:Unit->Option ρ) (dE:Int->Option ρ):Option ρ:=
 cond (decide (v<(p.1.length:Int))) (cond (decide (v<(p.2.length:Int))) ((idx p.1 v).bind λe1=>(idx p.2 v).bind λe2=>(sN k e1 e2).bind λr3=>cond (!r3) (dE v) (next (i64.wrap (v+1)))) (x0 ())) (x0 ())
def nM (k:Nat) (a0:List Step) (a1:List Step):Option (Int):=
 iter (λu6 n6=>gB k (a0,a1) u6 n6 (λy4=>cond ((a0.length:Int)==(a1.length:Int)) (some (-1:Int)) (cond (decide ((a0.length:Int)<(a1.length:Int))) (some (a0.length:Int)) (some (a1.length:Int)))) (λy5=>some y5)) k (0:Int)
def gC {ρ:Type} (k:Nat) (p:List Step× List Step× Int× Int) (v:Int) (next:Int->Option ρ) (x0:Unit->Option ρ) (dE:Int->Option ρ):Option ρ:=
 cond (decide (v<p.2.2.2)) ((idx p.1 v).bind λe1=>(idx p.2.1 v).bind λe2=>(sO k e1 e2).bind λr3=>cond (!r3) (dE v) (next (i64.wrap (v+1)))) (x0 ())
def nN (k:Nat) (a0:List Step) (a1:List Step):Option (Int):=
 iter (λu6 n6=>gC k (a0,a1,if(a1.length:Int)<(a0.length:Int)then(a1.length:Int)else(a0.length:Int),if(a1.length:Int)<(a0.length:Int)then(a1.length:Int)else(a0.length:Int)) u6 n6 (λy4=>cond ((a0.length:Int)==(a1.length:Int)) (some (-1:Int)) (some (if(a1.length:Int)<(a0.length:Int)then(a1.length:Int)else(a0.length:Int)))) (λy5=>some y5)) k (0:Int)
def kZ {ρ:Type} (k:Nat) (p:List Step× List Step) (v:Int) (next:Int->Option ρ) (x0:Unit->Option ρ) (dE:Bool->Option ρ):Option ρ:=
 cond (decide (v<(p.1.length:Int))) ((idx p.1 v).bind λe1=>(idx p.2 v).bind λe2=>(zU k e1 e2).bind λr3=>cond (!r3) (dE false) (next (i64.wrap (v+1)))) (x0 ())
def BC (k:Nat) (a0:List Step) (a1:List Step):Option (Bool):=
 cond ((a0.length:Int) !=(a1.length:Int)) (some false) (iter (λu6 n6=>kZ k (a0,a1) u6 n6 (λy4=>some true) (λy5=>some y5)) k (0:Int))
end
end
set_option maxRecDepth 100000
section
noncomputable section
def jx {ρ:Type} (k:Nat) (p:List Int) (v:Int× List Int) (next:(Int× List Int)->Option ρ) (x0:(List Int)->Option ρ):Option ρ:=
 cond (decide (v.1<(p.length:Int))) ((idx p v.1).bind λe1=>cond (Nat.ble (v.2.length+[e1].length) aG) (next (i64.wrap (v.1+1),v.2++[e1])) none) (x0 v.2)
def pk (k:Nat) (a0:List Int):Option (List Int):=
 iter (λu3 n3=>jx k a0 u3 n3 (λy2=>some y2)) k ((0:Int),([]:List Int))
def eg (k:Nat) (a0:List Int):Option (List Int):=
 cond (isNil a0) (both (some ([]:List Int)) (cond (Nat.ble (([]:List Int).length+a0.length) aG) (some (([]:List Int)++a0)) none)) (cond (Nat.ble (([]:List Int).length+a0.length) aG) (some (([]:List Int)++a0)) none)
def gY {ρ:Type} (k:Nat) (p:Int× Int× Int× Int× Int× Int× Int× List Int× List Int) (v:Int) (next:Int->Option ρ) (x0:Unit->Option ρ) (dE:Bool->Option ρ):Option ρ:=
 cond (decide (v<(p.2.2.2.2.2.2.2.2.length:Int))) ((idx p.2.2.2.2.2.2.2.2 v).bind λe7=>(bO k e7 (-1000000:Int) (1000000:Int)).bind λr8=>cond (!r8) (dE false) (next (i64.wrap (v+1)))) (x0 ())
def gZ {ρ:Type} (k:Nat) (p:Int× Int× Int× Int× Int× Int× Int× List Int× List Int) (v:Int) (next:Int->Option ρ) (x2:Unit->Option ρ) (dE:Bool->Option ρ):Option ρ:=
 cond (decide (v<(p.2.2.2.2.2.2.2.1.length:Int))) ((idx p.2.2.2.2.2.2.2.1 v).bind λe10=>(iv k e10).bind λr11=>cond (!r11) (dE false) (next (i64.wrap (v+1)))) (x2 ())
def sP (k:Nat) (a0:aA) (a1:Bool) (a2:Bool):Option (Bool):=
 cond (a1) ((bO k a0.size (1:Int) (3:Int)).bind λr1=>cond (!r1) (some false) ((bO k a0.step (1:Int) (2:Int)).bind λr2=>cond (!r2) (some false) (cond (a2) ((bO k a0.out (1:Int) (8:Int)).bind λr3=>cond (!r3) (some false) ((bO k a0.mult (0:Int) (2147483647:Int)).bind λr4=>cond (!r4) (some false) ((bO k a0.shift (0:Int) (31:Int)).bind λr5=>cond (!r5) (some false) ((iv k a0.zero).bind λr6=>cond (!r6) (some false) (cond ((a0.pN.length:Int) !=a0.out) (some false) (iter (λu16 n16=>gY k (a0.kind,a0.out,a0.size,a0.step,a0.mult,a0.shift,a0.zero,a0.weights,a0.pN) u16 n16 (λy9=>iter (λu14 n14=>gZ k (a0.kind,a0.out,a0.size,a0.step,a0.mult,a0.shift,a0.zero,a0.weights,a0.pN) u14 n14 (λy12=>some true) (λy13=>some y13)) k (0:Int)) (λy15=>some y15)) k (0:Int))))))) (cond (a0.out !=0) (some false) (cond (a0.mult !=0) (some false) (cond (a0.shift !=0) (some false) (cond (decide ((a0.weights.length:Int)>(0:Int))) (some false) (cond (decide ((a0.pN.length:Int)>(0:Int))) (some false) (cond (a0.kind==4) ((iv k a0.zero).bind λr17=>some r17) (some (a0.zero==0))))))))))) (cond (a0.size !=0) (some false) (cond (a0.step !=0) (some false) (cond (a2) ((bO k a0.out (1:Int) (8:Int)).bind λr18=>cond (!r18) (some false) ((bO k a0.mult (0:Int) (2147483647:Int)).bind λr19=>cond (!r19) (some false) ((bO k a0.shift (0:Int) (31:Int)).bind λr20=>cond (!r20) (some false) ((iv k a0.zero).bind λr21=>cond (!r21) (some false) (cond ((a0.pN.length:Int) !=a0.out) (some false) (iter (λu31 n31=>gY k (a0.kind,a0.out,a0.size,a0.step,a0.mult,a0.shift,a0.zero,a0.weights,a0.pN) u31 n31 (λy24=>iter (λu29 n29=>gZ k (a0.kind,a0.out,a0.size,a0.step,a0.mult,a0.shift,a0.zero,a0.weights,a0.pN) u29 n29 (λy27=>some true) (λy28=>some y28)) k (0:Int)) (λy30=>some y30)) k (0:Int))))))) (cond (a0.out !=0) (some false) (cond (a0.mult !=0) (some false) (cond (a0.shift !=0) (some false) (cond (decide ((a0.weights.length:Int)>(0:Int))) (some false) (cond (decide ((a0.pN.length:Int)>(0:Int))) (some false) (cond (a0.kind==4) ((iv k a0.zero).bind λr32=>some r32) (some (a0.zero==0)))))))))))
def my (k:Nat) (a0:Shape) (a1:aA):Option (Shape× Bool):=
 (kW k a0).bind λr1=>cond (!r1) (some ((⟨(0:Int),(0:Int),(0:Int)⟩:Shape),false)) ((bO k a1.kind (0:Int) (5:Int)).bind λr2=>cond (!r2) (some ((⟨(0:Int),(0:Int),(0:Int)⟩:Shape),false)) ((bO k a1.kind (1:Int) (3:Int)).bind λr3=>(sP k a1 r3 (decide (a1.kind<=1))).bind λr4=>cond (!r4) (some ((⟨(0:Int),(0:Int),(0:Int)⟩:Shape),false)) (cond (r3) (cond (decide (a1.size>a0.h)) (some ((⟨(0:Int),(0:Int),(0:Int)⟩:Shape),false)) (cond (decide (a1.size>a0.w)) (some ((⟨(0:Int),(0:Int),(0:Int)⟩:Shape),false)) (cond (decide (a1.step=0)) none (cond (decide (a1.step=0)) none (cond (a1.kind==0) ((ed k a0).bind λr5=>cond (decide (r5>64)) (some ((⟨(0:Int),(0:Int),(0:Int)⟩:Shape),false)) ((ed k a0).bind λr6=>cond ((a1.weights.length:Int) !=(i64.wrap (a1.out*r6))) (some ((⟨(0:Int),(0:Int),(0:Int)⟩:Shape),false)) (some ((⟨(1:Int),(1:Int),a1.out⟩:Shape),true)))) (cond (a1.kind==1) (cond ((a1.weights.length:Int) !=(i64.wrap ((i64.wrap ((i64.wrap (a1.out*a1.size))*a1.size))*a0.c))) (some ((⟨(0:Int),(0:Int),(0:Int)⟩:Shape),false)) (cond (decide ((a1.weights.length:Int)>(600:Int))) (some ((⟨(0:Int),(0:Int),(0:Int)⟩:Shape),false)) (some ((⟨(i64.wrap ((i64.wrap ((i64.wrap (a0.h-a1.size)).tdiv a1.step))+1)),(i64.wrap ((i64.wrap ((i64.wrap (a0.w-a1.size)).tdiv a1.step))+1)),a1.out⟩:Shape),true)))) (cond (a1.kind==5) ((ed k a0).bind λr7=>cond (decide (r7>8)) (some ((⟨(0:Int),(0:Int),(0:Int)⟩:Shape),false)) ((ed k a0).bind λr8=>some ((⟨(1:Int),(1:Int),r8⟩:Shape),true))) (some ((⟨(i64.wrap ((i64.wrap ((i64.wrap (a0.h-a1.size)).tdiv a1.step))+1)),(i64.wrap ((i64.wrap ((i64.wrap (a0.w-a1.size)).tdiv a1.step))+1)),a0.c⟩:Shape),true))))))))) (cond (a1.kind==0) ((ed k a0).bind λr9=>cond (decide (r9>64)) (some ((⟨(0:Int),(0:Int),(0:Int)⟩:Shape),false)) ((ed k a0).bind λr10=>cond ((a1.weights.length:Int) !=(i64.wrap (a1.out*r10))) (some ((⟨(0:Int),(0:Int),(0:Int)⟩:Shape),false)) (some ((⟨(1:Int),(1:Int),a1.out⟩:Shape),true)))) (cond (a1.kind==1) (cond ((a1.weights.length:Int) !=(i64.wrap ((i64.wrap ((i64.wrap (a1.out*a1.size))*a1.size))*a0.c))) (some ((⟨(0:Int),(0:Int),(0:Int)⟩:Shape),false)) (cond (decide ((a1.weights.length:Int)>(600:Int))) (some ((⟨(0:Int),(0:Int),(0:Int)⟩:Shape),false)) (some ((⟨a0.h,a0.w,a1.out⟩:Shape),true)))) (cond (a1.kind==5) ((ed k a0).bind λr11=>cond (decide (r11>8)) (some ((⟨(0:Int),(0:Int),(0:Int)⟩:Shape),false)) ((ed k a0).bind λr12=>some ((⟨(1:Int),(1:Int),r12⟩:Shape),true))) (some (a0,true))))))))
def iw {ρ:Type} (k:Nat) (p:Int× Int× Int× List aA) (v:Int× List Shape) (next:(Int× List Shape)->Option ρ) (x0:(List Shape)->Option ρ) (dE:Bool->Option ρ):Option ρ:=
 cond (decide (v.1<(p.2.2.2.length:Int))) (cond (decide (0<=v.1/\v.1<(v.2.length:Int))) ((v.2[v.1.toNat]?).bind λe3=>(idx p.2.2.2 v.1).bind λe4=>(my k e3 e4).bind λr5=>cond (!r5.2) (dE false) (cond (Nat.ble (v.2.length+[r5.1].length) aG) (next (i64.wrap (v.1+1),v.2++[r5.1])) none)) none) (x0 v.2)
def ka (k:Nat) (a0:Model):Option (List Shape× Bool):=
 (kW k a0.inp).bind λr1=>cond (!r1) (some (([]:List Shape),false)) ((bO k (a0.aF.length:Int) (1:Int) (6:Int)).bind λr2=>cond (!r2) (some (([]:List Shape),false)) (iter (λu8 n8=>iw k (a0.inp.h,a0.inp.w,a0.inp.c,a0.aF) u8 n8 (λy6=>some (y6,true)) (λy7=>some (([]:List Shape),y7))) k ((0:Int),[a0.inp])))
def rR (k:Nat) (a0:Model):Option (Bool):=
 (ka k a0).bind λr1=>some r1.2
def zV (k:Nat) (a0:Shape) (a1:aA):Option (Int):=
 (my k a0 a1).bind λr1=>cond (!r1.2) (some (0:Int)) ((ed k a0).bind λr2=>cond (a1.kind==0) ((ed k r1.1).bind λr3=>(ed k a0).bind λr4=>some (i64.wrap ((1:Int)+(i64.wrap ((i64.wrap (r3*r4)).tdiv (16:Int)))))) (cond (a1.kind==1) ((ed k r1.1).bind λr5=>some (i64.wrap ((1:Int)+(i64.wrap ((i64.wrap ((i64.wrap ((i64.wrap (r5*a1.size))*a1.size))*a0.c)).tdiv (16:Int)))))) (cond (a1.kind==2) ((ed k r1.1).bind λr6=>some (i64.wrap ((1:Int)+(i64.wrap ((i64.wrap ((i64.wrap (r6*a1.size))*a1.size)).tdiv (16:Int)))))) (cond (a1.kind==3) ((ed k r1.1).bind λr7=>some (i64.wrap ((1:Int)+(i64.wrap ((i64.wrap ((i64.wrap (r7*a1.size))*a1.size)).tdiv (16:Int)))))) (some (i64.wrap ((1:Int)+(i64.wrap (r2.tdiv (16:Int))))))))))
def k6 {ρ:Type} (k:Nat) (p:Int× Int× Int× List aA× List Shape) (v:Int× List Int) (next:(Int× List Int)->Option ρ) (x0:(List Int)->Option ρ):Option ρ:=
 cond (decide (v.1<(p.2.2.2.1.length:Int))) (cond (decide (0<=v.1/\v.1<(p.2.2.2.2.length:Int))) ((p.2.2.2.2[v.1.toNat]?).bind λe2=>(idx p.2.2.2.1 v.1).bind λe3=>(zV k e2 e3).bind λr4=>cond (Nat.ble (v.2.length+[r4].length) aG) (next (i64.wrap (v.1+1),v.2++[r4])) none) none) (x0 v.2)
def k7 (k:Nat) (a0:Model):Option (List Int):=
 (ka k a0).bind λr1=>cond (!r1.2) (some ([]:List Int)) (iter (λu6 n6=>k6 k (a0.inp.h,a0.inp.w,a0.inp.c,a0.aF,r1.1) u6 n6 (λy5=>some y5)) k ((0:Int),([]:List Int)))
def ix {ρ:Type} (k:Nat) (p:List Int) (v:Int× Int) (next:(Int× Int)->Option ρ) (x0:Int->Option ρ):Option ρ:=
 cond (decide (v.2<(p.length:Int))) (cond (decide (0<=v.2/\v.2<(p.length:Int))) ((p[v.2.toNat]?).bind λe2=>next (i64.wrap (v.1+e2),i64.wrap (v.2+1))) none) (x0 v.1)
def ql (k:Nat) (a0:Model):Option (Int):=
 (k7 k a0).bind λr1=>iter (λu4 n4=>ix k r1 u4 n4 (λy3=>some y3)) k ((0:Int),(0:Int))
def fv (k:Nat) (a0:aA):Option (Bool):=
 cond (a0.size==0) (some (a0.step==0)) (some false)
def iK (k:Nat) (a0:Int):Option (Bool):=
 (tP k a0 (-1000000:Int) (1000000:Int)).bind λr1=>some (!r1)
def aU {ρ:Type} (k:Nat) (p:List Int× Int) (v:Int) (next:Int->Option ρ) (x0:Unit->Option ρ) (dE:Int->Option ρ):Option ρ:=
 cond (decide (v<p.2)) ((idx p.1 v).bind λe1=>(iK k e1).bind λr2=>cond (r2) (dE v) (next (i64.wrap (v+1)))) (x0 ())
def bP (k:Nat) (a0:List Int):Option (Int):=
 iter (λu5 n5=>aU k (a0,(a0.length:Int)) u5 n5 (λy3=>some (-1:Int)) (λy4=>some y4)) k (0:Int)
def aV (k:Nat) (a0:List Int):Option (Bool):=
 (bP k a0).bind λr1=>some (decide (r1>=0))
def fY (k:Nat) (a0:aA) (a1:Int):Option (Bool):=
 (tP k a0.out (1:Int) (8:Int)).bind λr1=>cond (r1) ((tP k a0.mult (0:Int) (2147483647:Int)).bind λr2=>cond (r2) ((tP k a0.shift (0:Int) (31:Int)).bind λr3=>cond (r3) ((tP k a0.zero (-128:Int) (127:Int)).bind λr4=>cond (r4) (cond ((a0.weights.length:Int)==(i64.wrap (a0.out*a1))) ((pj k a0.weights).bind λr5=>cond (r5) (cond ((a0.pN.length:Int)==a0.out) ((aV k a0.pN).bind λr6=>some (!r6)) (some false)) (some false)) (some false)) (some false)) (some false)) (some false)) (some false)
def eN (k:Nat) (a0:aA) (a1:Shape):Option (Bool):=
 (tP k a0.size (1:Int) (if a1.w<(if a1.h<3 then a1.h else(3:Int))then a1.w else(if a1.h<3 then a1.h else(3:Int)))).bind λr1=>cond (r1) ((tP k a0.step (1:Int) (2:Int)).bind λr2=>some r2) (some false)
def fw (k:Nat) (a0:aA) (a1:Shape) (a2:Int):Option (Shape):=
 cond (decide (a0.step=0)) none (cond (decide (a0.step=0)) none (some (⟨(i64.wrap ((i64.wrap ((i64.wrap (a1.h-a0.size)).tdiv a0.step))+1)),(i64.wrap ((i64.wrap ((i64.wrap (a1.w-a0.size)).tdiv a0.step))+1)),a2⟩:Shape)))
def fc (k:Nat) (a0:aA):Option (Bool):=
 cond (a0.out==0) (cond (a0.mult==0) (cond (a0.shift==0) (cond ((a0.weights.length:Int)==(0:Int)) (some ((a0.pN.length:Int)==(0:Int))) (some false)) (some false)) (some false)) (some false)
def mz (k:Nat) (a0:Shape) (a1:aA):Option (Shape× Bool):=
 (ph k a0).bind λr1=>cond (!r1) (some ((⟨(0:Int),(0:Int),(0:Int)⟩:Shape),false)) ((ku k a0).bind λr2=>cond (a1.kind==0) (cond (decide (r2<=64)) ((fv k a1).bind λr3=>cond (r3) ((fY k a1 r2).bind λr4=>cond (r4) (some ((⟨(1:Int),(1:Int),a1.out⟩:Shape),true)) (some ((⟨(0:Int),(0:Int),(0:Int)⟩:Shape),false))) (some ((⟨(0:Int),(0:Int),(0:Int)⟩:Shape),false))) (some ((⟨(0:Int),(0:Int),(0:Int)⟩:Shape),false))) (cond (a1.kind==1) ((eN k a1 a0).bind λr5=>cond (r5) (cond (decide ((a1.weights.length:Int)<=(600:Int))) ((fY k a1 (i64.wrap ((i64.wrap (a1.size*a1.size))*a0.c))).bind λr6=>cond (r6) ((fw k a1 a0 a1.out).bind λr7=>some (r7,true)) (some ((⟨(0:Int),(0:Int),(0:Int)⟩:Shape),false))) (some ((⟨(0:Int),(0:Int),(0:Int)⟩:Shape),false))) (some ((⟨(0:Int),(0:Int),(0:Int)⟩:Shape),false))) (cond (a1.kind==2) ((eN k a1 a0).bind λr8=>cond (r8) ((fc k a1).bind λr9=>cond (r9) (cond (a1.zero==0) ((fw k a1 a0 a0.c).bind λr10=>some (r10,true)) (some ((⟨(0:Int),(0:Int),(0:Int)⟩:Shape),false))) (some ((⟨(0:Int),(0:Int),(0:Int)⟩:Shape),false))) (some ((⟨(0:Int),(0:Int),(0:Int)⟩:Shape),false))) (cond (a1.kind==3) ((eN k a1 a0).bind λr11=>cond (r11) ((fc k a1).bind λr12=>cond (r12) (cond (a1.zero==0) ((fw k a1 a0 a0.c).bind λr13=>some (r13,true)) (some ((⟨(0:Int),(0:Int),(0:Int)⟩:Shape),false))) (some ((⟨(0:Int),(0:Int),(0:Int)⟩:Shape),false))) (some ((⟨(0:Int),(0:Int),(0:Int)⟩:Shape),false))) (cond (a1.kind==4) ((fv k a1).bind λr14=>cond (r14) ((fc k a1).bind λr15=>cond (r15) ((tP k a1.zero (-128:Int) (127:Int)).bind λr16=>cond (r16) (some (a0,true)) (some ((⟨(0:Int),(0:Int),(0:Int)⟩:Shape),false))) (some ((⟨(0:Int),(0:Int),(0:Int)⟩:Shape),false))) (some ((⟨(0:Int),(0:Int),(0:Int)⟩:Shape),false))) (cond (a1.kind==5) ((fv k a1).bind λr17=>cond (r17) ((fc k a1).bind λr18=>cond (r18) (cond (a1.zero==0) (cond (decide (r2<=8)) (some ((⟨(1:Int),(1:Int),r2⟩:Shape),true)) (some ((⟨(0:Int),(0:Int),(0:Int)⟩:Shape),false))) (some ((⟨(0:Int),(0:Int),(0:Int)⟩:Shape),false))) (some ((⟨(0:Int),(0:Int),(0:Int)⟩:Shape),false))) (some ((⟨(0:Int),(0:Int),(0:Int)⟩:Shape),false))) (some ((⟨(0:Int),(0:Int),(0:Int)⟩:Shape),false))))))))
def fx {ρ:Type} (k:Nat) (p:List aA× Int) (v:Int× List Shape× Int× Int× Int) (next:(Int× List Shape× Int× Int× Int)->Option ρ) (x0:(List Shape)->Option ρ) (dE:Bool->Option ρ):Option ρ:=
 cond (decide (v.1<p.2)) ((idx p.1 v.1).bind λe1=>(mz k (⟨v.2.2.1,v.2.2.2.1,v.2.2.2.2⟩:Shape) e1).bind λr2=>cond (!r2.2) (dE false) (cond (Nat.ble (v.2.1.length+[r2.1].length) aG) (next (i64.wrap (v.1+1),v.2.1++[r2.1],r2.1.h,r2.1.w,r2.1.c)) none)) (x0 v.2.1)
def iy (k:Nat) (a0:Model):Option (List Shape× Bool):=
 iter (λu5 n5=>fx k (a0.aF,(a0.aF.length:Int)) u5 n5 (λy3=>some (y3,true)) (λy4=>some (([]:List Shape),y4))) k ((0:Int),[a0.inp],a0.inp.h,a0.inp.w,a0.inp.c)
def mV (k:Nat) (a0:Model):Option (Bool):=
 (tP k (a0.aF.length:Int) (1:Int) (6:Int)).bind λr1=>cond (!r1) (some false) ((iy k a0).bind λr2=>some r2.2)
def pn (k:Nat) (a0:Model):Option (List Shape):=
 (mV k a0).bind λr1=>cond (!r1) (some ([]:List Shape)) ((iy k a0).bind λr2=>some r2.1)
def zW (k:Nat) (a0:Shape) (a1:aA):Option (Int):=
 (mz k a0 a1).bind λr1=>cond (!r1.2) (some (0:Int)) ((ku k a0).bind λr2=>cond (a1.kind==0) ((ku k r1.1).bind λr3=>some (i64.wrap ((1:Int)+(i64.wrap ((i64.wrap (r2*r3)).tdiv (16:Int)))))) (cond (a1.kind==1) ((ku k r1.1).bind λr4=>some (i64.wrap ((1:Int)+(i64.wrap ((i64.wrap ((i64.wrap ((i64.wrap (r4*a1.size))*a1.size))*a0.c)).tdiv (16:Int)))))) (cond (a1.kind==2) ((ku k r1.1).bind λr5=>some (i64.wrap ((1:Int)+(i64.wrap ((i64.wrap ((i64.wrap (r5*a1.size))*a1.size)).tdiv (16:Int)))))) (cond (a1.kind==3) ((ku k r1.1).bind λr6=>some (i64.wrap ((1:Int)+(i64.wrap ((i64.wrap ((i64.wrap (r6*a1.size))*a1.size)).tdiv (16:Int)))))) (some (i64.wrap ((1:Int)+(i64.wrap (r2.tdiv (16:Int))))))))))
def k8 {ρ:Type} (k:Nat) (p:Int× Int× Int× Int× List aA× List Shape) (v:Int× List Int) (next:(Int× List Int)->Option ρ) (x0:(List Int)->Option ρ):Option ρ:=
 cond (decide (v.1<p.1)) (cond (decide (0<=v.1/\v.1<(p.2.2.2.2.2.length:Int))) ((p.2.2.2.2.2[v.1.toNat]?).bind λe2=>cond (decide (v.1<(p.2.2.2.2.1.length:Int))) ((idx p.2.2.2.2.1 v.1).bind λe3=>(zW k e2 e3).bind λr4=>cond (Nat.ble (v.2.length+[r4].length) aG) (next (i64.wrap (v.1+1),v.2++[r4])) none) (next (i64.wrap (v.1+1),v.2))) none) (x0 v.2)
def k9 (k:Nat) (a0:Model):Option (List Int):=
 (pn k a0).bind λr1=>iter (λu6 n6=>k8 k ((r1.length:Int),a0.inp.h,a0.inp.w,a0.inp.c,a0.aF,r1) u6 n6 (λy5=>some y5)) k ((0:Int),([]:List Int))
def vF {ρ:Type} (k:Nat) (p:List Int× Int) (v:Int× Int) (next:(Int× Int)->Option ρ) (x0:Int->Option ρ):Option ρ:=
 cond (decide (v.2<p.2)) ((idx p.1 v.2).bind λe1=>next (i64.wrap (v.1+e1),i64.wrap (v.2+1))) (x0 v.1)
def PK (k:Nat) (a0:List Int):Option (Int):=
 iter (λu3 n3=>vF k (a0,(a0.length:Int)) u3 n3 (λy2=>some y2)) k ((0:Int),(0:Int))
def qm (k:Nat) (a0:Model):Option (Int):=
 (k9 k a0).bind λr1=>(PK k r1).bind λr2=>some r2
end
end
set_option maxRecDepth 100000
section
noncomputable section
def iz (k:Nat) (a0:Int):Option (Bool):=
 (bO k a0 (-1099511627776:Int) (1099511627775:Int)).bind λr1=>some r1
def iY {ρ:Type} (k:Nat) (p:Unit) (v:Int× List Int) (next:(Int× List Int)->Option ρ) (x0:(Int× List Int)->Option ρ):Option ρ:=
 cond (decide (v.1>=128)) (cond (Nat.ble (v.2.length+[(u8.wrap (i64.wrap ((128:Int)+(v.1.tmod (128:Int)))))].length) aG) (next (i64.wrap (v.1.tdiv (128:Int)),v.2++[(u8.wrap (i64.wrap ((128:Int)+(v.1.tmod (128:Int)))))])) none) (x0 (v.1,v.2))
def pq (k:Nat) (a0:Int):Option (List Int):=
 (bO k a0 (-1099511627776:Int) (1099511627775:Int)).bind λr1=>cond (!r1) (some ([]:List Int)) (cond (decide (a0<0)) (iter (λu3 n3=>iY k () u3 n3 (λy2=>cond (Nat.ble (y2.2.length+[(u8.wrap (y2.1))].length) aG) (some (y2.2++[(u8.wrap (y2.1))])) none)) k (i64.wrap ((i64.wrap ((-2:Int)*a0))-1),([]:List Int))) (iter (λu5 n5=>iY k () u5 n5 (λy4=>cond (Nat.ble (y4.2.length+[(u8.wrap (y4.1))].length) aG) (some (y4.2++[(u8.wrap (y4.1))])) none)) k (i64.wrap ((2:Int)*a0),([]:List Int))))
def kv {ρ:Type} (k:Nat) (p:Int× List Int× List Int) (v:Int× List Int) (next:(Int× List Int)->Option ρ) (x2:(List Int)->Option ρ):Option ρ:=
 cond (decide (v.1<(p.2.2.length:Int))) (cond (decide (0<=v.1/\v.1<(p.2.2.length:Int))) ((p.2.2[v.1.toNat]?).bind λe3=>cond (Nat.ble (v.2.length+[e3].length) aG) (next (i64.wrap (v.1+1),v.2++[e3])) none) none) (x2 v.2)
def ky {ρ:Type} (k:Nat) (p:List Int) (v:Int× List Int) (next:(Int× List Int)->Option ρ) (x0:(List Int)->Option ρ):Option ρ:=
 cond (decide (v.1<(p.length:Int))) (cond (decide (0<=v.1/\v.1<(p.length:Int))) ((p[v.1.toNat]?).bind λe1=>(pq k e1).bind λr2=>iter (λu5 n5=>kv k (v.1,p,r2) u5 n5 (λy4=>next (i64.wrap (v.1+1),y4))) k ((0:Int),v.2)) none) (x0 v.2)
def mW (k:Nat) (a1:List Int):Option (List Int):=
 iter (λu7 n7=>ky k a1 u7 n7 (λy6=>some y6)) k ((0:Int),([]:List Int))
def nO {ρ:Type} (k:Nat) (p:List Int) (v:Int× List Int) (next:(Int× List Int)->Option ρ) (x0:(List Int)->Option ρ):Option ρ:=
 cond (decide (v.1<(p.length:Int))) ((idx p v.1).bind λe2=>cond (Nat.ble (v.2.length+[e2].length) aG) (next (i64.wrap (v.1+1),v.2++[e2])) none) (x0 v.2)
def pt (k:Nat) (a0:List Int) (a1:List Int):Option (List Int):=
 (pk k a0).bind λr1=>iter (λu4 n4=>nO k a1 u4 n4 (λy3=>some y3)) k ((0:Int),r1)
def kz {ρ:Type} (k:Nat) (p:Int× List Int× List Int) (v:Int× List Int) (next:(Int× List Int)->Option ρ) (x2:(List Int)->Option ρ):Option ρ:=
 cond (decide (v.1<(p.2.2.length:Int))) (cond (decide (0<=v.1/\v.1<(p.2.2.length:Int))) ((p.2.2[v.1.toNat]?).bind λe3=>cond (Nat.ble (v.2.length+[e3].length) aG) (next (i64.wrap (v.1+1),v.2++[e3])) none) none) (x2 v.2)
def kA {ρ:Type} (k:Nat) (p:List Int) (v:Int× List Int) (next:(Int× List Int)->Option ρ) (x0:(List Int)->Option ρ):Option ρ:=
 cond (decide (v.1<(p.length:Int))) (cond (decide (0<=v.1/\v.1<(p.length:Int))) ((p[v.1.toNat]?).bind λe1=>(pq k e1).bind λr2=>iter (λu5 n5=>kz k (v.1,p,r2) u5 n5 (λy4=>next (i64.wrap (v.1+1),y4))) k ((0:Int),v.2)) none) (x0 v.2)
def fN (k:Nat) (a0:List Int) (a1:List Int):Option (List Int):=
 iter (λu7 n7=>kA k a1 u7 n7 (λy6=>cond (decide (a1=a1)) (some y6) none)) k ((0:Int),a0)
def kB {ρ:Type} (k:Nat) (p:List Int× Int× List Int) (v:Int× List Int) (next:(Int× List Int)->Option ρ) (x2:(List Int)->Option ρ):Option ρ:=
 cond (decide (v.1<(p.2.2.length:Int))) (cond (decide (0<=v.1/\v.1<(p.2.2.length:Int))) ((p.2.2[v.1.toNat]?).bind λe3=>cond (Nat.ble (v.2.length+[e3].length) aG) (next (i64.wrap (v.1+1),v.2++[e3])) none) none) (x2 v.2)
def kC {ρ:Type} (k:Nat) (p:List Int) (v:Int× List Int) (next:(Int× List Int)->Option ρ) (x0:(List Int)->Option ρ):Option ρ:=
 cond (decide (v.1<(p.length:Int))) ((idx p v.1).bind λe1=>(pq k e1).bind λr2=>iter (λu5 n5=>kB k (p,v.1,r2) u5 n5 (λy4=>next (i64.wrap (v.1+1),y4))) k ((0:Int),v.2)) (x0 v.2)
def mX (k:Nat) (a0:List Int) (a1:List Int):Option (List Int):=
 iter (λu7 n7=>kC k a1 u7 n7 (λy6=>some y6)) k ((0:Int),a0)
def nP {ρ:Type} (k:Nat) (p:Int× Int× Int× List Int× Int× Int× Int× List Int× Int× Int× Int× List Int) (v:Int) (next:Int->Option ρ) (x0:Unit->Option ρ) (dE:Bool->Option ρ):Option ρ:=
 cond (decide (v<(p.2.2.2.2.2.2.2.2.2.2.2.length:Int))) ((idx p.2.2.2.2.2.2.2.2.2.2.2 v).bind λe7=>(iz k e7).bind λr8=>cond (!r8) (dE false) (next (i64.wrap (v+1)))) (x0 ())
def vG (k:Nat) (a0:Step):Option (List Int× Bool):=
 cond (decide ((a0.data.length:Int)>(6000:Int))) (some (([]:List Int),false)) (cond (decide ((a0.input.data.length:Int)>(512:Int))) (some (([]:List Int),false)) ((iz k a0.kind).bind λr1=>cond (!r1) (some (([]:List Int),false)) ((iz k a0.a).bind λr2=>cond (!r2) (some (([]:List Int),false)) ((iz k a0.b).bind λr3=>cond (!r3) (some (([]:List Int),false)) ((iz k a0.input.sh.h).bind λr4=>cond (!r4) (some (([]:List Int),false)) ((iz k a0.input.sh.w).bind λr5=>cond (!r5) (some (([]:List Int),false)) ((iz k a0.input.sh.c).bind λr6=>cond (!r6) (some (([]:List Int),false)) (iter (λu15 n15=>nP k (a0.kind,a0.a,a0.b,a0.data,a0.input.sh.h,a0.input.sh.w,a0.input.sh.c,a0.input.data,a0.input.sh.h,a0.input.sh.w,a0.input.sh.c,a0.input.data) u15 n15 (λy9=>(mW k [a0.kind,a0.a,a0.b,(a0.data.length:Int)]).bind λr10=>(pt k r10 a0.data).bind λr11=>(fN k r11 [a0.input.sh.h,a0.input.sh.w,a0.input.sh.c,(a0.input.data.length:Int)]).bind λr12=>(mX k r12 a0.input.data).bind λr13=>some (r13,true)) (λy14=>some (([]:List Int),y14))) k (0:Int)))))))))
def nQ (k:Nat) (a0:Int):Option (Bool):=
 (tP k a0 (-1099511627776:Int) (1099511627775:Int)).bind λr1=>some r1
def rS (k:Nat) (a0:Int):Option (Bool):=
 (nQ k a0).bind λr1=>some (!r1)
def bu {ρ:Type} (k:Nat) (p:List Int× Int) (v:Int) (next:Int->Option ρ) (x0:Unit->Option ρ) (dE:Int->Option ρ):Option ρ:=
 cond (decide (v<p.2)) ((idx p.1 v).bind λe1=>(rS k e1).bind λr2=>cond (r2) (dE v) (next (i64.wrap (v+1)))) (x0 ())
def cy (k:Nat) (a0:List Int):Option (Int):=
 iter (λu5 n5=>bu k (a0,(a0.length:Int)) u5 n5 (λy3=>some (-1:Int)) (λy4=>some y4)) k (0:Int)
def aT (k:Nat) (a0:List Int):Option (Bool):=
 (cy k a0).bind λr1=>some (decide (r1>=0))
def hJ {ρ:Type} (k:Nat) (p:List Int× Int) (v:Int× Int) (next:(Int× Int)->Option ρ) (x0:Unit->Option ρ) (dE:(Int× Int)->Option ρ):Option ρ:=
 cond (decide (v.2<6)) (cond (decide (p.2<0)) (dE ((0:Int),(-1:Int))) (cond (decide (p.2>=(i64.wrap ((p.1.length:Int)-v.2)))) (dE ((0:Int),(-1:Int))) ((idx p.1 (i64.wrap (p.2+v.2))).bind λe1=>cond (decide ((u64.wrap (i64.wrap ((7:Int)*v.2)))<0)) none (cond (decide ((i64.wrap (e1))<128)) (cond ((i64.wrap (e1))==0) (cond (decide (v.2>0)) (dE ((0:Int),(-1:Int))) (cond (decide ((i64.wrap (v.1+(i64.wrap (((i64.wrap (e1)).tmod (128:Int))*2^(min (u64.wrap (i64.wrap ((7:Int)*v.2))).toNat i64.bits)))))>2199023255551)) (dE ((0:Int),(-1:Int))) (cond (((i64.wrap (v.1+(i64.wrap (((i64.wrap (e1)).tmod (128:Int))*2^(min (u64.wrap (i64.wrap ((7:Int)*v.2))).toNat i64.bits))))).tmod (2:Int))==1) (dE (i64.wrap ((i64.wrap (0-(i64.wrap ((i64.wrap (v.1+(i64.wrap (((i64.wrap (e1)).tmod (128:Int))*2^(min (u64.wrap (i64.wrap ((7:Int)*v.2))).toNat i64.bits)))))+1)))).tdiv (2:Int)),i64.wrap ((i64.wrap (p.2+v.2))+1))) (dE (i64.wrap ((i64.wrap (v.1+(i64.wrap (((i64.wrap (e1)).tmod (128:Int))*2^(min (u64.wrap (i64.wrap ((7:Int)*v.2))).toNat i64.bits))))).tdiv (2:Int)),i64.wrap ((i64.wrap (p.2+v.2))+1)))))) (cond (decide ((i64.wrap (v.1+(i64.wrap (((i64.wrap (e1)).tmod (128:Int))*2^(min (u64.wrap (i64.wrap ((7:Int)*v.2))).toNat i64.bits)))))>2199023255551)) (dE ((0:Int),(-1:Int))) (cond (((i64.wrap (v.1+(i64.wrap (((i64.wrap (e1)).tmod (128:Int))*2^(min (u64.wrap (i64.wrap ((7:Int)*v.2))).toNat i64.bits))))).tmod (2:Int))==1) (dE (i64.wrap ((i64.wrap (0-(i64.wrap ((i64.wrap (v.1+(i64.wrap (((i64.wrap (e1)).tmod (128:Int))*2^(min (u64.wrap (i64.wrap ((7:Int)*v.2))).toNat i64.bits)))))+1)))).tdiv (2:Int)),i64.wrap ((i64.wrap (p.2+v.2))+1))) (dE (i64.wrap ((i64.wrap (v.1+(i64.wrap (((i64.wrap (e1)).tmod (128:Int))*2^(min (u64.wrap (i64.wrap ((7:Int)*v.2))).toNat i64.bits))))).tdiv (2:Int)),i64.wrap ((i64.wrap (p.2+v.2))+1)))))) (next (i64.wrap (v.1+(i64.wrap (((i64.wrap (e1)).tmod (128:Int))*2^(min (u64.wrap (i64.wrap ((7:Int)*v.2))).toNat i64.bits)))),i64.wrap (v.2+1))))))) (x0 ())
def mA (k:Nat) (a0:List Int) (a1:Int):Option (Int× Int):=
 iter (λu4 n4=>hJ k (a0,a1) u4 n4 (λy2=>some ((0:Int),(-1:Int))) (λy3=>some (y3.1,y3.2))) k ((0:Int),(0:Int))
def bf (k:Nat) (ke:List Int) (lD:Int) (lE:Bool):Option (Int× Int× Bool):=
 cond (lE) (cond (decide (ke=ke)) (some ((0:Int),lD,lE)) none) ((mA k ke lD).bind λr1=>cond (decide (r1.2<0)) (cond (decide (ke=ke)) (some ((0:Int),lD,true)) none) (cond (decide (ke=ke)) (some (r1.1,r1.2,lE)) none))
def dr {ρ:Type} (k:Nat) (p:Int× Int× Int× Int× Int× Int× Int× List Int× Int× Int× Int× Int× Int× Int× List Int) (v:Int× Int× Bool× List Int) (next:(Int× Int× Bool× List Int)->Option ρ) (x0:(Int× Bool× List Int)->Option ρ):Option ρ:=
 cond (decide (v.1<p.1)) ((bf k p.2.2.2.2.2.2.2.1 v.2.1 v.2.2.1).bind λr12=>cond (Nat.ble (v.2.2.2.length+[r12.1].length) aG) (next (i64.wrap (v.1+1),r12.2.1,r12.2.2,v.2.2.2++[r12.1])) none) (x0 (v.2.1,v.2.2.1,v.2.2.2))
def sQ (k:Nat) (a0:List Int) (a1:Int):Option (Step× Int):=
 (bf k a0 a1 false).bind λr1=>(bf k a0 r1.2.1 r1.2.2).bind λr2=>(bf k a0 r2.2.1 r2.2.2).bind λr3=>(bf k a0 r3.2.1 r3.2.2).bind λr4=>cond (r4.2.2) (some ((⟨(0:Int),(0:Int),(0:Int),([]:List Int),(⟨(⟨(0:Int),(0:Int),(0:Int)⟩:Shape),([]:List Int)⟩:az)⟩:Step),(-1:Int))) ((bO k r4.1 (0:Int) (6000:Int)).bind λr5=>cond (!r5) (some ((⟨(0:Int),(0:Int),(0:Int),([]:List Int),(⟨(⟨(0:Int),(0:Int),(0:Int)⟩:Shape),([]:List Int)⟩:az)⟩:Step),(-1:Int))) (cond (decide (r4.1>(i64.wrap ((a0.length:Int)-r4.2.1)))) (some ((⟨(0:Int),(0:Int),(0:Int),([]:List Int),(⟨(⟨(0:Int),(0:Int),(0:Int)⟩:Shape),([]:List Int)⟩:az)⟩:Step),(-1:Int))) (cond (decide (0<=(i64.wrap (r4.2.1+r4.1))/\(i64.wrap (r4.2.1+r4.1))<=(a0.length:Int))) (cond (decide (0<=r4.2.1/\r4.2.1<=((i64.wrap (r4.2.1+r4.1)).toNat:Int))) ((pk k ((a0.take ((i64.wrap (r4.2.1+r4.1)).toNat)).drop r4.2.1.toNat)).bind λr6=>(bf k a0 (i64.wrap (r4.2.1+r4.1)) r4.2.2).bind λr7=>(bf k a0 r7.2.1 r7.2.2).bind λr8=>(bf k a0 r8.2.1 r8.2.2).bind λr9=>(bf k a0 r9.2.1 r9.2.2).bind λr10=>cond (r10.2.2) (some ((⟨(0:Int),(0:Int),(0:Int),([]:List Int),(⟨(⟨(0:Int),(0:Int),(0:Int)⟩:Shape),([]:List Int)⟩:az)⟩:Step),(-1:Int))) ((bO k r10.1 (0:Int) (512:Int)).bind λr11=>cond (!r11) (some ((⟨(0:Int),(0:Int),(0:Int),([]:List Int),(⟨(⟨(0:Int),(0:Int),(0:Int)⟩:Shape),([]:List Int)⟩:az)⟩:Step),(-1:Int))) (iter (λu14 n14=>dr k (r10.1,(0:Int),(0:Int),(0:Int),(0:Int),(0:Int),(0:Int),a0,r1.1,r2.1,r3.1,r7.1,r8.1,r9.1,r6) u14 n14 (λy13=>cond (y13.2.1) (some ((⟨(0:Int),(0:Int),(0:Int),([]:List Int),(⟨(⟨(0:Int),(0:Int),(0:Int)⟩:Shape),([]:List Int)⟩:az)⟩:Step),(-1:Int))) (some ((⟨r1.1,r2.1,r3.1,r6,(⟨(⟨r7.1,r8.1,r9.1⟩:Shape),y13.2.2⟩:az)⟩:Step),y13.1)))) k ((0:Int),r10.2.1,r10.2.2,([]:List Int))))) none) none)))
def jy {ρ:Type} (k:Nat) (p:Int× List Int× Int) (v:Int× Int) (next:(Int× Int)->Option ρ) (x0:Unit->Option ρ) (dE:(Int× Int)->Option ρ):Option ρ:=
 cond (decide (v.2<p.2.2)) ((idx p.2.1 v.2).bind λe2=>cond (decide ((i64.wrap ((7:Int)*v.2))<0)) none (cond (decide (e2>=128)) (next (i64.wrap (((BitVec.ofInt i64.bits v.1||| BitVec.ofInt i64.bits (i64.wrap ((i64.wrap (u8.wrap (((BitVec.ofInt u8.bits e2&&& BitVec.ofInt u8.bits (127:Int)).toNat:Int))))*2^(min (i64.wrap ((7:Int)*v.2)).toNat i64.bits)))).toNat:Int)),i64.wrap (v.2+1))) (cond (((i64.wrap (((BitVec.ofInt i64.bits v.1||| BitVec.ofInt i64.bits (i64.wrap ((i64.wrap (u8.wrap (((BitVec.ofInt u8.bits e2&&& BitVec.ofInt u8.bits (127:Int)).toNat:Int))))*2^(min (i64.wrap ((7:Int)*v.2)).toNat i64.bits)))).toNat:Int))).tmod (2:Int))==1) (cond (decide (v.2>0)) (cond (e2==0) (x0 ()) ((nQ k (i64.wrap ((i64.wrap (0-(i64.wrap ((i64.wrap (((BitVec.ofInt i64.bits v.1||| BitVec.ofInt i64.bits (i64.wrap ((i64.wrap (u8.wrap (((BitVec.ofInt u8.bits e2&&& BitVec.ofInt u8.bits (127:Int)).toNat:Int))))*2^(min (i64.wrap ((7:Int)*v.2)).toNat i64.bits)))).toNat:Int))).tdiv (2:Int)))))-1))).bind λr3=>cond (!r3) (x0 ()) (dE (i64.wrap ((i64.wrap (0-(i64.wrap ((i64.wrap (((BitVec.ofInt i64.bits v.1||| BitVec.ofInt i64.bits (i64.wrap ((i64.wrap (u8.wrap (((BitVec.ofInt u8.bits e2&&& BitVec.ofInt u8.bits (127:Int)).toNat:Int))))*2^(min (i64.wrap ((7:Int)*v.2)).toNat i64.bits)))).toNat:Int))).tdiv (2:Int)))))-1),i64.wrap ((i64.wrap (p.1+v.2))+1))))) ((nQ k (i64.wrap ((i64.wrap (0-(i64.wrap ((i64.wrap (((BitVec.ofInt i64.bits v.1||| BitVec.ofInt i64.bits (i64.wrap ((i64.wrap (u8.wrap (((BitVec.ofInt u8.bits e2&&& BitVec.ofInt u8.bits (127:Int)).toNat:Int))))*2^(min (i64.wrap ((7:Int)*v.2)).toNat i64.bits)))).toNat:Int))).tdiv (2:Int)))))-1))).bind λr4=>cond (!r4) (x0 ()) (dE (i64.wrap ((i64.wrap (0-(i64.wrap ((i64.wrap (((BitVec.ofInt i64.bits v.1||| BitVec.ofInt i64.bits (i64.wrap ((i64.wrap (u8.wrap (((BitVec.ofInt u8.bits e2&&& BitVec.ofInt u8.bits (127:Int)).toNat:Int))))*2^(min (i64.wrap ((7:Int)*v.2)).toNat i64.bits)))).toNat:Int))).tdiv (2:Int)))))-1),i64.wrap ((i64.wrap (p.1+v.2))+1))))) (cond (decide (v.2>0)) (cond (e2==0) (x0 ()) ((nQ k (i64.wrap ((i64.wrap (((BitVec.ofInt i64.bits v.1||| BitVec.ofInt i64.bits (i64.wrap ((i64.wrap (u8.wrap (((BitVec.ofInt u8.bits e2&&& BitVec.ofInt u8.bits (127:Int)).toNat:Int))))*2^(min (i64.wrap ((7:Int)*v.2)).toNat i64.bits)))).toNat:Int))).tdiv (2:Int)))).bind λr5=>cond (!r5) (x0 ()) (dE (i64.wrap ((i64.wrap (((BitVec.ofInt i64.bits v.1||| BitVec.ofInt i64.bits (i64.wrap ((i64.wrap (u8.wrap (((BitVec.ofInt u8.bits e2&&& BitVec.ofInt u8.bits (127:Int)).toNat:Int))))*2^(min (i64.wrap ((7:Int)*v.2)).toNat i64.bits)))).toNat:Int))).tdiv (2:Int)),i64.wrap ((i64.wrap (p.1+v.2))+1))))) ((nQ k (i64.wrap ((i64.wrap (((BitVec.ofInt i64.bits v.1||| BitVec.ofInt i64.bits (i64.wrap ((i64.wrap (u8.wrap (((BitVec.ofInt u8.bits e2&&& BitVec.ofInt u8.bits (127:Int)).toNat:Int))))*2^(min (i64.wrap ((7:Int)*v.2)).toNat i64.bits)))).toNat:Int))).tdiv (2:Int)))).bind λr6=>cond (!r6) (x0 ()) (dE (i64.wrap ((i64.wrap (((BitVec.ofInt i64.bits v.1||| BitVec.ofInt i64.bits (i64.wrap ((i64.wrap (u8.wrap (((BitVec.ofInt u8.bits e2&&& BitVec.ofInt u8.bits (127:Int)).toNat:Int))))*2^(min (i64.wrap ((7:Int)*v.2)).toNat i64.bits)))).toNat:Int))).tdiv (2:Int)),i64.wrap ((i64.wrap (p.1+v.2))+1)))))))) (x0 ())
def sR (k:Nat) (a0:List Int) (a1:Int):Option (Int× Int):=
 (tP k a1 (0:Int) (i64.wrap ((a0.length:Int)-(1:Int)))).bind λr1=>cond (!r1) (some ((0:Int),(-1:Int))) (cond (decide (0<=(if(i64.wrap (a1+6))<(a0.length:Int)then(i64.wrap (a1+6))else(a0.length:Int))/\(if(i64.wrap (a1+6))<(a0.length:Int)then(i64.wrap (a1+6))else(a0.length:Int))<=(a0.length:Int))) (cond (decide (0<=a1/\a1<=((if(i64.wrap (a1+6))<(a0.length:Int)then(i64.wrap (a1+6))else(a0.length:Int)).toNat:Int))) (iter (λu9 n9=>jy k (a1,(a0.take ((if(i64.wrap (a1+6))<(a0.length:Int)then(i64.wrap (a1+6))else(a0.length:Int)).toNat)).drop a1.toNat,(((a0.take ((if(i64.wrap (a1+6))<(a0.length:Int)then(i64.wrap (a1+6))else(a0.length:Int)).toNat)).drop a1.toNat).length:Int)) u9 n9 (λy7=>some ((0:Int),(-1:Int))) (λy8=>some (y8.1,y8.2))) k ((0:Int),(0:Int))) none) none)
def au (k:Nat) (a0:Reader):Option (Int× Int× Bool):=
 cond (a0.bad) (cond (decide (a0.b=a0.b)) (some ((0:Int),a0.at_,a0.bad)) none) ((sR k a0.b a0.at_).bind λr1=>cond (decide (r1.2<0)) (cond (decide (a0.b=a0.b)) (some ((0:Int),a0.at_,true)) none) (cond (decide (a0.b=a0.b)) (some (r1.1,r1.2,a0.bad)) none))
def cz (k:Nat) (a0:Reader) (a1:Int):Option (Int× Int× Bool):=
 (au k a0).bind λr1=>(tP k r1.1 (0:Int) a1).bind λr2=>cond (!r2) (cond (decide (a0.b=a0.b)) (some ((0:Int),r1.2.1,true)) none) (cond (decide (a0.b=a0.b)) (some (r1.1,r1.2.1,r1.2.2)) none)
def db (k:Nat) (a0:Reader) (a1:Int):Option (List Int× Int× Bool):=
 cond (a0.bad) (cond (decide (a0.b=a0.b)) (some (([]:List Int),a0.at_,true)) none) (cond (decide (a1>(i64.wrap ((a0.b.length:Int)-a0.at_)))) (cond (decide (a0.b=a0.b)) (some (([]:List Int),a0.at_,true)) none) (cond (decide (0<=(i64.wrap (a0.at_+a1))/\(i64.wrap (a0.at_+a1))<=(a0.b.length:Int))) (cond (decide (0<=(i64.wrap ((i64.wrap (a0.at_+a1))-a1))/\(i64.wrap ((i64.wrap (a0.at_+a1))-a1))<=((i64.wrap (a0.at_+a1)).toNat:Int))) ((eg k ((a0.b.take ((i64.wrap (a0.at_+a1)).toNat)).drop ((i64.wrap ((i64.wrap (a0.at_+a1))-a1)).toNat))).bind λr1=>cond (decide (a0.b=a0.b)) (some (r1,i64.wrap (a0.at_+a1),a0.bad)) none) none) none))
def dJ (k:Nat) (a0:Reader):Option (Shape× Int× Bool):=
 (au k a0).bind λr1=>(au k (⟨a0.b,r1.2.1,r1.2.2⟩:Reader)).bind λr2=>(au k (⟨a0.b,r2.2.1,r2.2.2⟩:Reader)).bind λr3=>cond (decide (a0.b=a0.b)) (some ((⟨r1.1,r2.1,r3.1⟩:Shape),r3.2.1,r3.2.2)) none
def aH {ρ:Type} (k:Nat) (p:List Int) (v:Int× Int× Bool× List Int) (next:(Int× Int× Bool× List Int)->Option ρ) (x0:(List Int× Int× Bool)->Option ρ):Option ρ:=
 cond (decide (v.1>0)) (cond (!v.2.2.1) ((au k (⟨p,v.2.1,v.2.2.1⟩:Reader)).bind λr2=>cond (Nat.ble (v.2.2.2.length+[r2.1].length) aG) (next (i64.wrap (v.1-1),r2.2.1,r2.2.2,v.2.2.2++[r2.1])) none) (x0 (v.2.2.2,v.2.1,v.2.2.1))) (x0 (v.2.2.2,v.2.1,v.2.2.1))
def bj (k:Nat) (a0:Reader) (a1:Int):Option (List Int× Int× Bool):=
 (cz k a0 a1).bind λr1=>iter (λu4 n4=>aH k a0.b u4 n4 (λy3=>cond (decide (a0.b=a0.b)) (some (y3.1,y3.2.1,y3.2.2)) none)) k (r1.1,r1.2.1,r1.2.2,([]:List Int))
def dx (k:Nat) (a0:Reader):Option (Step× Int× Bool):=
 (au k a0).bind λr1=>(au k (⟨a0.b,r1.2.1,r1.2.2⟩:Reader)).bind λr2=>(au k (⟨a0.b,r2.2.1,r2.2.2⟩:Reader)).bind λr3=>(cz k (⟨a0.b,r3.2.1,r3.2.2⟩:Reader) (6000:Int)).bind λr4=>(db k (⟨a0.b,r4.2.1,r4.2.2⟩:Reader) r4.1).bind λr5=>(dJ k (⟨a0.b,r5.2.1,r5.2.2⟩:Reader)).bind λr6=>(bj k (⟨a0.b,r6.2.1,r6.2.2⟩:Reader) (512:Int)).bind λr7=>cond (decide (a0.b=a0.b)) (some ((⟨r1.1,r2.1,r3.1,r5.1,(⟨r6.1,r7.1⟩:az)⟩:Step),r7.2.1,r7.2.2)) none
def pw {ρ:Type} (k:Nat) (p:List Int) (v:Int× Int) (next:(Int× Int)->Option ρ) (x0:Int->Option ρ):Option ρ:=
 cond (decide (v.2<(p.length:Int))) ((idx p v.2).bind λe1=>next ((i64.wrap ((i64.wrap ((i64.wrap ((257:Int)*v.1))+(i64.wrap (e1))))+1)).tmod (1000003:Int),i64.wrap (v.2+1))) (x0 v.1)
def qn (k:Nat) (a0:List Int):Option (Int):=
 iter (λu3 n3=>pw k a0 u3 n3 (λy2=>some y2)) k ((1:Int),(0:Int))
def gD {ρ:Type} (k:Nat) (p:List Step) (v:Int× List Int) (next:(Int× List Int)->Option ρ) (x0:(List Int)->Option ρ) (dE:Bool->Option ρ):Option ρ:=
 cond (decide (v.1<(p.length:Int))) ((idx p v.1).bind λe2=>(vG k e2).bind λr3=>cond (!r3.2) (dE false) (cond (decide ((v.2.length:Int)>(20000:Int))) (dE false) ((pt k v.2 r3.1).bind λr4=>next (i64.wrap (v.1+1),r4)))) (x0 v.2)
def vH (k:Nat) (a0:List Step):Option (List Int× Bool):=
 cond (decide ((a0.length:Int)>(200:Int))) (some (([]:List Int),false)) ((fN k [(84:Int),(49:Int)] [(a0.length:Int)]).bind λr1=>iter (λu9 n9=>gD k a0 u9 n9 (λy5=>(qn k y5).bind λr6=>(fN k y5 [r6]).bind λr7=>cond (decide ((r7.length:Int)>(20000:Int))) (some (([]:List Int),false)) (some (r7,true))) (λy8=>some (([]:List Int),y8))) k ((0:Int),r1))
def px {ρ:Type} (k:Nat) (p:List Int× Int) (v:Int× Int) (next:(Int× Int)->Option ρ) (x0:Int->Option ρ):Option ρ:=
 cond (decide (v.2<p.2)) ((idx p.1 v.2).bind λe1=>next ((i64.wrap ((i64.wrap ((i64.wrap (v.1*257))+(i64.wrap (e1))))+1)).tmod (1000003:Int),i64.wrap (v.2+1))) (x0 v.1)
def lK (k:Nat) (a0:List Int):Option (Int):=
 iter (λu3 n3=>px k (a0,(a0.length:Int)) u3 n3 (λy2=>some y2)) k ((1:Int),(0:Int))
def ff {ρ:Type} (k:Nat) (p:List Int× Int) (v:Int× Int× List Step) (next:(Int× Int× List Step)->Option ρ) (x0:(Int× List Step)->Option ρ) (dE:Int->Option ρ):Option ρ:=
 cond (decide (v.2.1<p.2)) ((sQ k p.1 v.1).bind λr5=>cond (decide (r5.2<0)) (dE (2:Int)) (cond (Nat.ble (v.2.2.length+1) aG) (next (r5.2,i64.wrap (v.2.1+1),v.2.2++[r5.1])) none)) (x0 (v.1,v.2.2))
def qq (k:Nat) (a0:List Int):Option (List Step× Int):=
 cond (decide ((a0.length:Int)>(20000:Int))) (some (([]:List Step),(4:Int))) (cond (decide ((a0.length:Int)<(2:Int))) (some (([]:List Step),(1:Int))) ((idx a0 (0:Int)).bind λe1=>cond (e1 !=84) (some (([]:List Step),(1:Int))) ((idx a0 (1:Int)).bind λe2=>cond (e2 !=49) (some (([]:List Step),(1:Int))) ((mA k a0 (2:Int)).bind λr3=>cond (decide (r3.2<0)) (some (([]:List Step),(2:Int))) ((bO k r3.1 (0:Int) (200:Int)).bind λr4=>cond (!r4) (some (([]:List Step),(2:Int))) (iter (λu10 n10=>ff k (a0,r3.1) u10 n10 (λy6=>(mA k a0 y6.1).bind λr7=>cond (decide (r7.2<0)) (some (([]:List Step),(2:Int))) (cond (decide (0<=y6.1/\y6.1<=(a0.length:Int))) ((qn k ((a0.take y6.1.toNat).drop 0)).bind λr8=>cond (r7.1 !=r8) (some (([]:List Step),(3:Int))) (cond (r7.2 !=(a0.length:Int)) (some (([]:List Step),(3:Int))) (some (y6.2,(0:Int))))) none)) (λy9=>some (([]:List Step),y9))) k (r3.2,(0:Int),([]:List Step))))))))
def eA (k:Nat) (a0:List Int) (a1:List Int):Option (Bool):=
 cond (decide ((a0.length:Int)>=(a1.length:Int))) (cond (decide (0<=(a1.length:Int)/\(a1.length:Int)<=(a0.length:Int))) ((mU k ((a0.take ((a1.length:Int).toNat)).drop 0) a1).bind λr1=>some r1) none) (some false)
def dk {ρ:Type} (k:Nat) (p:List Int× List Int) (v:Int× Int× Bool× List Step) (next:(Int× Int× Bool× List Step)->Option ρ) (x1:(Int× Bool× List Step)->Option ρ):Option ρ:=
 cond (decide (v.1>0)) (cond (!v.2.2.1) ((dx k (⟨p.2,v.2.1,v.2.2.1⟩:Reader)).bind λr3=>cond (Nat.ble (v.2.2.2.length+1) aG) (next (i64.wrap (v.1-1),r3.2.1,r3.2.2,v.2.2.2++[r3.1])) none) (x1 (v.2.1,v.2.2.1,v.2.2.2))) (x1 (v.2.1,v.2.2.1,v.2.2.2))
def qt (k:Nat) (a0:List Int):Option (List Step× Int):=
 cond (decide ((a0.length:Int)>(20000:Int))) (some (([]:List Step),(4:Int))) ((eA k a0 [(84:Int),(49:Int)]).bind λr1=>cond (!r1) (some (([]:List Step),(1:Int))) ((cz k (⟨a0,(2:Int),false⟩:Reader) (200:Int)).bind λr2=>iter (λu7 n7=>dk k (a0,a0) u7 n7 (λy4=>(au k (⟨a0,y4.1,y4.2.1⟩:Reader)).bind λr5=>cond (r5.2.2) (some (([]:List Step),(2:Int))) (cond (decide (0<=y4.1/\y4.1<=(a0.length:Int))) ((lK k ((a0.take y4.1.toNat).drop 0)).bind λr6=>cond (r5.1 !=r6) (some (([]:List Step),(3:Int))) (cond (r5.2.1 !=(a0.length:Int)) (some (([]:List Step),(3:Int))) (some (y4.2.2,(0:Int))))) none))) k (r2.1,r2.2.1,r2.2.2,([]:List Step))))
end
end
set_option maxRecDepth 100000
set_option maxHeartbeats 4000000
section
noncomputable section
def mY {ρ:Type} (k:Nat) (p:List Int× Int× Int) (v:Int× List Int) (next:(Int× List Int)->Option ρ) (x2:(Int× List Int)->Option ρ):Option ρ:=
 cond (decide (v.1>127)) (cond (Nat.ble (v.2.length+[(u8.wrap (((BitVec.ofInt u8.bits (u8.wrap (v.1))||| BitVec.ofInt u8.bits (128:Int)).toNat:Int)))].length) aG) (next (v.1.fdiv (2^(min (7:Int).toNat i64.bits)),v.2++[(u8.wrap (((BitVec.ofInt u8.bits (u8.wrap (v.1))||| BitVec.ofInt u8.bits (128:Int)).toNat:Int)))])) none) (x2 (v.1,v.2))
def rT {ρ:Type} (k:Nat) (p:List Int× Int) (v:Int× List Int) (next:(Int× List Int)->Option ρ) (x0:(List Int)->Option ρ):Option ρ:=
 cond (decide (v.1<p.2)) ((idx p.1 v.1).bind λe1=>cond (decide (e1<0)) (iter (λu3 n3=>mY k (p.1,p.2,v.1) u3 n3 (λy2=>cond (Nat.ble (y2.2.length+[(u8.wrap (y2.1))].length) aG) (next (i64.wrap (v.1+1),y2.2++[(u8.wrap (y2.1))])) none)) k (i64.wrap ((i64.wrap ((-2:Int)*e1))-1),v.2)) (iter (λu5 n5=>mY k (p.1,p.2,v.1) u5 n5 (λy4=>cond (Nat.ble (y4.2.length+[(u8.wrap (y4.1))].length) aG) (next (i64.wrap (v.1+1),y4.2++[(u8.wrap (y4.1))])) none)) k (i64.wrap ((2:Int)*e1),v.2))) (x0 v.2)
def rU (k:Nat) (a1:List Int):Option (List Int):=
 iter (λu7 n7=>rT k (a1,(a1.length:Int)) u7 n7 (λy6=>some y6)) k ((0:Int),([]:List Int))
def mZ {ρ:Type} (k:Nat) (p:List Int× Int× Int) (v:Int× List Int) (next:(Int× List Int)->Option ρ) (x2:(Int× List Int)->Option ρ):Option ρ:=
 cond (decide (v.1>127)) (cond (Nat.ble (v.2.length+[(u8.wrap (((BitVec.ofInt u8.bits (u8.wrap (v.1))||| BitVec.ofInt u8.bits (128:Int)).toNat:Int)))].length) aG) (next (v.1.fdiv (2^(min (7:Int).toNat i64.bits)),v.2++[(u8.wrap (((BitVec.ofInt u8.bits (u8.wrap (v.1))||| BitVec.ofInt u8.bits (128:Int)).toNat:Int)))])) none) (x2 (v.1,v.2))
def jz {ρ:Type} (k:Nat) (p:List Int× Int) (v:Int× List Int) (next:(Int× List Int)->Option ρ) (x0:(List Int)->Option ρ):Option ρ:=
 cond (decide (v.1<p.2)) ((idx p.1 v.1).bind λe1=>cond (decide (e1<0)) (iter (λu3 n3=>mZ k (p.1,p.2,v.1) u3 n3 (λy2=>cond (Nat.ble (y2.2.length+[(u8.wrap (y2.1))].length) aG) (next (i64.wrap (v.1+1),y2.2++[(u8.wrap (y2.1))])) none)) k (i64.wrap ((i64.wrap ((-2:Int)*e1))-1),v.2)) (iter (λu5 n5=>mZ k (p.1,p.2,v.1) u5 n5 (λy4=>cond (Nat.ble (y4.2.length+[(u8.wrap (y4.1))].length) aG) (next (i64.wrap (v.1+1),y4.2++[(u8.wrap (y4.1))])) none)) k (i64.wrap ((2:Int)*e1),v.2))) (x0 v.2)
def fJ (k:Nat) (a0:List Int) (a1:List Int):Option (List Int):=
 iter (λu7 n7=>jz k (a1,(a1.length:Int)) u7 n7 (λy6=>some y6)) k ((0:Int),a0)
def vI (k:Nat) (a0:Step):Option (List Int× Bool):=
 cond (Nat.ble ([a0.input.sh.h,a0.input.sh.w,a0.input.sh.c,(a0.input.data.length:Int)].length+a0.input.data.length) aG) (cond (decide ((a0.data.length:Int)>(6000:Int))) (some (([]:List Int),false)) (cond (decide ((a0.input.data.length:Int)>(512:Int))) (some (([]:List Int),false)) ((aT k [a0.kind,a0.a,a0.b,(a0.data.length:Int)]).bind λr1=>cond (r1) (some (([]:List Int),false)) ((aT k ([a0.input.sh.h,a0.input.sh.w,a0.input.sh.c,(a0.input.data.length:Int)]++a0.input.data)).bind λr2=>cond (r2) (some (([]:List Int),false)) ((rU k [a0.kind,a0.a,a0.b,(a0.data.length:Int)]).bind λr3=>cond (Nat.ble (r3.length+a0.data.length) aG) ((fJ k (r3++a0.data) ([a0.input.sh.h,a0.input.sh.w,a0.input.sh.c,(a0.input.data.length:Int)]++a0.input.data)).bind λr4=>some (r4,true)) none))))) none
def gE {ρ:Type} (k:Nat) (p:List Step× Int) (v:Int× List Int) (next:(Int× List Int)->Option ρ) (x0:(List Int)->Option ρ) (dE:Bool->Option ρ):Option ρ:=
 cond (decide (v.1<p.2)) ((idx p.1 v.1).bind λe2=>(vI k e2).bind λr3=>cond (!r3.2) (dE false) (cond (Nat.ble (v.2.length+r3.1.length) aG) (next (i64.wrap (v.1+1),v.2++r3.1)) none)) (x0 v.2)
def vJ (k:Nat) (a0:List Step):Option (List Int× Bool):=
 cond (decide ((a0.length:Int)>(200:Int))) (some (([]:List Int),false)) ((fJ k [(84:Int),(49:Int)] [(a0.length:Int)]).bind λr1=>iter (λu8 n8=>gE k (a0,(a0.length:Int)) u8 n8 (λy4=>(lK k y4).bind λr5=>(fJ k y4 [r5]).bind λr6=>cond (decide ((r6.length:Int)>(20000:Int))) (some (([]:List Int),false)) (some (r6,true))) (λy7=>some (([]:List Int),y7))) k ((0:Int),r1))
end
end
set_option maxRecDepth 100000
section
noncomputable section
end
end
set_option maxRecDepth 100000
section
noncomputable section
def vK (k:Nat) (a0:aA):Option (aA):=
 (kV k a0.weights).bind λr1=>(kV k a0.pN).bind λr2=>some (⟨a0.kind,a0.out,a0.size,a0.step,a0.mult,a0.shift,a0.zero,r1,r2⟩:aA)
def kD (k:Nat) (a0:aA):Option (aA):=
 (bY k a0.weights).bind λr1=>(bY k a0.pN).bind λr2=>some (⟨a0.kind,a0.out,a0.size,a0.step,a0.mult,a0.shift,a0.zero,r1,r2⟩:aA)
def fy {ρ:Type} (k:Nat) (p:List aA× Int) (v:Int× List aA) (next:(Int× List aA)->Option ρ) (x0:(List aA)->Option ρ):Option ρ:=
 cond (decide (v.1<p.2)) ((idx p.1 v.1).bind λe1=>(kD k e1).bind λr2=>cond (Nat.ble (v.2.length+1) aG) (next (i64.wrap (v.1+1),v.2++[r2])) none) (x0 v.2)
def oO (k:Nat) (a0:List aA):Option (List aA):=
 iter (λu4 n4=>fy k (a0,(a0.length:Int)) u4 n4 (λy3=>some y3)) k ((0:Int),([]:List aA))
def la {ρ:Type} (k:Nat) (p:Int× Int× Int× List aA× Int× Int× Int× Int× Int× Int) (v:Int× List aA) (next:(Int× List aA)->Option ρ) (x0:(List aA)->Option ρ):Option ρ:=
 cond (decide (v.1<(p.2.2.2.1.length:Int))) ((idx p.2.2.2.1 v.1).bind λe1=>(vK k e1).bind λr2=>cond (Nat.ble (v.2.length+1) aG) (next (i64.wrap (v.1+1),v.2++[r2])) none) (x0 v.2)
def vL (k:Nat) (a0:Model):Option (Model):=
 iter (λu4 n4=>la k (a0.inp.h,a0.inp.w,a0.inp.c,a0.aF,(0:Int),(0:Int),(0:Int),a0.inp.h,a0.inp.w,a0.inp.c) u4 n4 (λy3=>some (⟨a0.inp,y3⟩:Model))) k ((0:Int),([]:List aA))
def py {ρ:Type} (k:Nat) (p:Int× Int× Int× List aA× Int× Int× Int× Int× List Int× Int× List Int) (v:Int× Int) (next:(Int× Int)->Option ρ) (x0:Int->Option ρ):Option ρ:=
 cond (decide (v.2<p.2.2.2.2.1)) (cond (decide (0<=v.2/\v.2<(p.2.2.2.2.2.2.2.2.2.2.length:Int))) ((p.2.2.2.2.2.2.2.2.2.2[v.2.toNat]?).bind λe6=>next (i64.wrap (v.1+e6),i64.wrap (v.2+1))) none) (x0 v.1)
def uw (k:Nat) (a0:Job):Option (Bool):=
 (ka k a0.model).bind λr1=>cond (!r1.2) (some false) ((bO k a0.at_ (0:Int) (a0.model.aF.length:Int)).bind λr2=>cond (!r2) (some false) ((j9 k a0.act).bind λr3=>cond (!r3) (some false) (cond (decide (0<=a0.at_/\a0.at_<(r1.1.length:Int))) ((r1.1[a0.at_.toNat]?).bind λe4=>cond (!(cond (a0.act.sh.h==e4.h) (cond (a0.act.sh.w==e4.w) (cond (a0.act.sh.c==e4.c) (true) false) false) false)) (some false) ((k7 k a0.model).bind λr5=>iter (λu8 n8=>py k (a0.model.inp.h,a0.model.inp.w,a0.model.inp.c,a0.model.aF,a0.at_,a0.act.sh.h,a0.act.sh.w,a0.act.sh.c,a0.act.data,a0.jQ,r5) u8 n8 (λy7=>some (a0.jQ==y7))) k ((0:Int),(0:Int)))) none)))
def sS (k:Nat) (a0:Model) (a1:az):Option (Job× Bool):=
 (vL k a0).bind λr1=>(rN k a1).bind λr2=>(uw k (⟨r1,(0:Int),r2,(0:Int)⟩:Job)).bind λr3=>cond (!r3) (some ((⟨(⟨(⟨(0:Int),(0:Int),(0:Int)⟩:Shape),([]:List aA)⟩:Model),(0:Int),(⟨(⟨(0:Int),(0:Int),(0:Int)⟩:Shape),([]:List Int)⟩:az),(0:Int)⟩:Job),false)) (some ((⟨r1,(0:Int),r2,(0:Int)⟩:Job),true))
def BD (k:Nat) (a0:Job):Option (Bool):=
 (mV k a0.model).bind λr1=>cond (r1) ((tP k a0.at_ (0:Int) (a0.model.aF.length:Int)).bind λr2=>cond (r2) ((mx k a0.act).bind λr3=>cond (r3) ((pn k a0.model).bind λr4=>cond (decide (0<=a0.at_/\a0.at_<(r4.length:Int))) ((r4[a0.at_.toNat]?).bind λe5=>cond (cond (a0.act.sh.h==e5.h) (cond (a0.act.sh.w==e5.w) (cond (a0.act.sh.c==e5.c) (true) false) false) false) ((k9 k a0.model).bind λr6=>cond (decide (0<=a0.at_/\a0.at_<=(r6.length:Int))) ((PK k (((r6).drop 0).take (a0.at_.toNat-0))).bind λr7=>some (a0.jQ==r7)) none) (some false)) none) (some false)) (some false)) (some false)
def kE (k:Nat) (a0:Model):Option (Model):=
 (oO k a0.aF).bind λr1=>some (⟨a0.inp,r1⟩:Model)
def nR (k:Nat) (a0:Job):Option (Job):=
 (kE k a0.model).bind λr1=>(jv k a0.act).bind λr2=>some (⟨r1,a0.at_,r2,a0.jQ⟩:Job)
def sT (k:Nat) (a0:Model) (a1:az):Option (Job× Bool):=
 (BD k (⟨a0,(0:Int),a1,(0:Int)⟩:Job)).bind λr1=>cond (!r1) (some ((⟨(⟨(⟨(0:Int),(0:Int),(0:Int)⟩:Shape),([]:List aA)⟩:Model),(0:Int),(⟨(⟨(0:Int),(0:Int),(0:Int)⟩:Shape),([]:List Int)⟩:az),(0:Int)⟩:Job),false)) ((nR k (⟨a0,(0:Int),a1,(0:Int)⟩:Job)).bind λr2=>some (r2,true))
end
end
set_option maxRecDepth 100000
section
noncomputable section
def vM (k:Nat) (a0:Job):Option (Job):=
 (vL k a0.model).bind λr1=>(rN k a0.act).bind λr2=>some (⟨r1,a0.at_,r2,a0.jQ⟩:Job)
def vN (k:Nat) (a0:Job):Option (Bool):=
 (uw k a0).bind λr1=>cond (r1) (some (a0.at_==(a0.model.aF.length:Int))) (some false)
def pz (k:Nat) (a0:Int) (a1:Int) (a2:Int):Option (Int):=
 cond (decide (a0<a1)) (some a1) (cond (decide (a1>a2)) (some a1) (cond (decide (a0>a2)) (some a2) (some a0)))
def BF (k:Nat) (a0:Int):Option (Int):=
 (pz k a0 (-128:Int) (127:Int)).bind λr1=>some r1
def oQ (k:Nat) (a0:Int):Option (Int):=
 (pz k a0 (-2147483648:Int) (2147483647:Int)).bind λr1=>some r1
def nS (k:Nat) (a0:Int) (a1:Int):Option (Int):=
 (oQ k a0).bind λr1=>(oQ k a1).bind λr2=>(oQ k (i64.wrap (r1+r2))).bind λr3=>some r3
def sU {ρ:Type} (k:Nat) (p:List Int× List Int) (v:Int× Int) (next:(Int× Int)->Option ρ) (x0:Int->Option ρ):Option ρ:=
 cond (decide (v.2<(p.1.length:Int))) (cond (decide (v.2<(p.2.length:Int))) ((idx p.1 v.2).bind λe1=>(BF k e1).bind λr2=>(idx p.2 v.2).bind λe3=>(BF k e3).bind λr4=>(nS k v.1 (i64.wrap (r2*r4))).bind λr5=>next (r5,i64.wrap (v.2+1))) (x0 v.1)) (x0 v.1)
def Fw (k:Nat) (a0:List Int) (a1:List Int):Option (Int):=
 iter (λu7 n7=>sU k (a0,a1) u7 n7 (λy6=>some y6)) k ((0:Int),(0:Int))
def vO (k:Nat) (a0:Int) (a1:Int):Option (Int):=
 cond (decide (a1=0)) none (cond (decide (a1=0)) none (cond (decide ((a0.tmod a1)<0)) (some (i64.wrap ((i64.wrap (a0.tdiv a1))-1))) (some (i64.wrap (a0.tdiv a1)))))
def vP (k:Nat) (a0:Int) (a1:Int):Option (Int):=
 (oQ k a0).bind λr1=>(oQ k a1).bind λr2=>(vO k (i64.wrap ((i64.wrap (r1*r2))+1073741824)) (2147483648:Int)).bind λr3=>(oQ k r3).bind λr4=>some r4
def nT (k:Nat) (a0:Int) (a1:Int):Option (Int):=
 (oQ k a0).bind λr1=>(pz k a1 (0:Int) (31:Int)).bind λr2=>cond (decide ((u64.wrap (r2))<0)) none (cond (decide (r1<0)) (cond (decide ((i64.wrap ((1:Int)*2^(min (u64.wrap (r2)).toNat i64.bits)))=0)) none (some (i64.wrap (0-(i64.wrap ((i64.wrap ((i64.wrap (0-r1))+(i64.wrap ((i64.wrap ((1:Int)*2^(min (u64.wrap (r2)).toNat i64.bits))).tdiv (2:Int))))).tdiv (i64.wrap ((1:Int)*2^(min (u64.wrap (r2)).toNat i64.bits))))))))) (cond (decide ((i64.wrap ((1:Int)*2^(min (u64.wrap (r2)).toNat i64.bits)))=0)) none (some (i64.wrap ((i64.wrap (r1+(i64.wrap ((i64.wrap ((1:Int)*2^(min (u64.wrap (r2)).toNat i64.bits))).tdiv (2:Int))))).tdiv (i64.wrap ((1:Int)*2^(min (u64.wrap (r2)).toNat i64.bits))))))))
def pA (k:Nat) (a0:Int) (a1:Int) (a2:Int) (a3:Int):Option (Int):=
 (vP k a0 a1).bind λr1=>(nT k r1 a2).bind λr2=>(BF k a3).bind λr3=>(BF k (i64.wrap (r2+r3))).bind λr4=>some r4
def BG (k:Nat) (a0:Shape) (a1:Int) (a2:Int) (a3:Int):Option (Int):=
 (kW k a0).bind λr1=>cond (!r1) (some (-1:Int)) ((bO k a1 (0:Int) (i64.wrap (a0.h-1))).bind λr2=>cond (!r2) (some (-1:Int)) ((bO k a2 (0:Int) (i64.wrap (a0.w-1))).bind λr3=>cond (!r3) (some (-1:Int)) ((bO k a3 (0:Int) (i64.wrap (a0.c-1))).bind λr4=>cond (!r4) (some (-1:Int)) (some (i64.wrap ((i64.wrap ((i64.wrap ((i64.wrap (a1*a0.w))+a2))*a0.c))+a3))))))
def qu (k:Nat) (a0:az) (a1:Int) (a2:Int) (a3:Int):Option (Int× Bool):=
 (BG k a0.sh a1 a2 a3).bind λr1=>(j9 k a0).bind λr2=>cond (!r2) (some ((0:Int),false)) (cond (decide (r1<0)) (some ((0:Int),false)) ((idx a0.data r1).bind λe3=>some (e3,true)))
def nU {ρ:Type} (k:Nat) (p:Int× Int× Int× Int× Int× Int× Int× List Int× Int× Int× Int× Int× Int× Int× Int× List Int× List Int) (v:Int× List Int) (next:(Int× List Int)->Option ρ) (x2:(List Int)->Option ρ):Option ρ:=
 cond (decide (v.1<p.2.2.2.2.2.2.2.2.2.2.1)) ((qu k (⟨(⟨p.2.2.2.2.1,p.2.2.2.2.2.1,p.2.2.2.2.2.2.1⟩:Shape),p.2.2.2.2.2.2.2.1⟩:az) (i64.wrap ((i64.wrap (p.1*p.2.2.2.2.2.2.2.2.2.2.2.1))+p.2.2.2.1)) (i64.wrap ((i64.wrap (p.2.1*p.2.2.2.2.2.2.2.2.2.2.2.1))+v.1)) p.2.2.1).bind λr1=>cond (Nat.ble (v.2.length+[r1.1].length) aG) (next (i64.wrap (v.1+1),v.2++[r1.1])) none) (x2 v.2)
def nV {ρ:Type} (k:Nat) (p:Int× Int× Int× Int× Int× Int× List Int× Int× Int× Int× Int× Int× Int× Int× List Int× List Int) (v:Int× List Int) (next:(Int× List Int)->Option ρ) (x0:(List Int)->Option ρ):Option ρ:=
 cond (decide (v.1<p.2.2.2.2.2.2.2.2.2.1)) (iter (λu3 n3=>nU k (p.1,p.2.1,p.2.2.1,v.1,p.2.2.2.1,p.2.2.2.2.1,p.2.2.2.2.2.1,p.2.2.2.2.2.2.1,p.2.2.2.2.2.2.2.1,p.2.2.2.2.2.2.2.2.1,p.2.2.2.2.2.2.2.2.2.1,p.2.2.2.2.2.2.2.2.2.2.1,p.2.2.2.2.2.2.2.2.2.2.2.1,p.2.2.2.2.2.2.2.2.2.2.2.2.1,p.2.2.2.2.2.2.2.2.2.2.2.2.2.1,p.2.2.2.2.2.2.2.2.2.2.2.2.2.2.1,p.2.2.2.2.2.2.2.2.2.2.2.2.2.2.2) u3 n3 (λy2=>next (i64.wrap (v.1+1),y2))) k ((0:Int),v.2)) (x0 v.2)
def m7 (k:Nat) (a0:az) (a1:aA) (a2:Int) (a3:Int) (a4:Int):Option (List Int):=
 iter (λu5 n5=>nV k (a2,a3,a4,a0.sh.h,a0.sh.w,a0.sh.c,a0.data,a1.kind,a1.out,a1.size,a1.step,a1.mult,a1.shift,a1.zero,a1.weights,a1.pN) u5 n5 (λy4=>some y4)) k ((0:Int),([]:List Int))
def nW {ρ:Type} (k:Nat) (p:Int× Int× Int× Int× Int× Int× Int× Int× List Int× Int× Int× Int× Int× Int× Int× Int× List Int× List Int× Int× Int× Int) (v:Int× Int) (next:(Int× Int)->Option ρ) (x5:Int->Option ρ):Option ρ:=
 cond (decide (v.2<p.2.2.2.2.2.2.2.2.2.2.2.2.2.2.2.2.2.2.2.2)) ((qu k (⟨(⟨p.2.2.2.2.2.1,p.2.2.2.2.2.2.1,p.2.2.2.2.2.2.2.1⟩:Shape),p.2.2.2.2.2.2.2.2.1⟩:az) (i64.wrap ((i64.wrap (p.1*p.2.2.2.2.2.2.2.2.2.2.2.2.1))+p.2.2.2.1)) (i64.wrap ((i64.wrap (p.2.1*p.2.2.2.2.2.2.2.2.2.2.2.2.1))+p.2.2.2.2.1)) v.2).bind λr6=>(idx p.2.2.2.2.2.2.2.2.2.2.2.2.2.2.2.2.1 (i64.wrap ((i64.wrap ((i64.wrap ((i64.wrap ((i64.wrap ((i64.wrap (p.2.2.1*p.2.2.2.2.2.2.2.2.2.2.2.1))+p.2.2.2.1))*p.2.2.2.2.2.2.2.2.2.2.2.1))+p.2.2.2.2.1))*p.2.2.2.2.2.2.2.2.2.2.2.2.2.2.2.2.2.2.2.2))+v.2))).bind λe7=>(nS k v.1 (i64.wrap (r6.1*e7))).bind λr8=>next (r8,i64.wrap (v.2+1))) (x5 v.1)
def nX {ρ:Type} (k:Nat) (p:Int× Int× Int× Int× Int× Int× Int× List Int× Int× Int× Int× Int× Int× Int× Int× List Int× List Int× Int× Int× Int) (v:Int× Int) (next:(Int× Int)->Option ρ) (x3:Int->Option ρ):Option ρ:=
 cond (decide (v.2<p.2.2.2.2.2.2.2.2.2.2.1)) (iter (λu10 n10=>nW k (p.1,p.2.1,p.2.2.1,p.2.2.2.1,v.2,p.2.2.2.2.1,p.2.2.2.2.2.1,p.2.2.2.2.2.2.1,p.2.2.2.2.2.2.2.1,p.2.2.2.2.2.2.2.2.1,p.2.2.2.2.2.2.2.2.2.1,p.2.2.2.2.2.2.2.2.2.2.1,p.2.2.2.2.2.2.2.2.2.2.2.1,p.2.2.2.2.2.2.2.2.2.2.2.2.1,p.2.2.2.2.2.2.2.2.2.2.2.2.2.1,p.2.2.2.2.2.2.2.2.2.2.2.2.2.2.1,p.2.2.2.2.2.2.2.2.2.2.2.2.2.2.2.1,p.2.2.2.2.2.2.2.2.2.2.2.2.2.2.2.2.1,p.2.2.2.2.2.2.2.2.2.2.2.2.2.2.2.2.2.1,p.2.2.2.2.2.2.2.2.2.2.2.2.2.2.2.2.2.2.1,p.2.2.2.2.2.2.2.2.2.2.2.2.2.2.2.2.2.2.2) u10 n10 (λy9=>next (y9,i64.wrap (v.2+1)))) k (v.1,(0:Int))) (x3 v.1)
def nY {ρ:Type} (k:Nat) (p:Int× Int× Int× Int× Int× Int× List Int× Int× Int× Int× Int× Int× Int× Int× List Int× List Int× Int× Int× Int) (v:Int× Int) (next:(Int× Int)->Option ρ) (x1:Int->Option ρ):Option ρ:=
 cond (decide (v.2<p.2.2.2.2.2.2.2.2.2.1)) (iter (λu12 n12=>nX k (p.1,p.2.1,p.2.2.1,v.2,p.2.2.2.1,p.2.2.2.2.1,p.2.2.2.2.2.1,p.2.2.2.2.2.2.1,p.2.2.2.2.2.2.2.1,p.2.2.2.2.2.2.2.2.1,p.2.2.2.2.2.2.2.2.2.1,p.2.2.2.2.2.2.2.2.2.2.1,p.2.2.2.2.2.2.2.2.2.2.2.1,p.2.2.2.2.2.2.2.2.2.2.2.2.1,p.2.2.2.2.2.2.2.2.2.2.2.2.2.1,p.2.2.2.2.2.2.2.2.2.2.2.2.2.2.1,p.2.2.2.2.2.2.2.2.2.2.2.2.2.2.2.1,p.2.2.2.2.2.2.2.2.2.2.2.2.2.2.2.2.1,p.2.2.2.2.2.2.2.2.2.2.2.2.2.2.2.2.2.1,p.2.2.2.2.2.2.2.2.2.2.2.2.2.2.2.2.2.2) u12 n12 (λy11=>next (y11,i64.wrap (v.2+1)))) k (v.1,(0:Int))) (x1 v.1)
def nZ {ρ:Type} (k:Nat) (p:List Int) (v:Int× Int) (next:(Int× Int)->Option ρ) (x7:Int->Option ρ):Option ρ:=
 cond (decide (v.2<(p.length:Int))) (cond (decide (0<=v.2/\v.2<(p.length:Int))) ((p[v.2.toNat]?).bind λe20=>cond (decide (e20>v.1)) (cond (decide (0<=v.2/\v.2<(p.length:Int))) ((p[v.2.toNat]?).bind λe21=>next (e21,i64.wrap (v.2+1))) none) (next (v.1,i64.wrap (v.2+1)))) none) (x7 v.1)
def oa {ρ:Type} (k:Nat) (p:List Int) (v:Int× Int) (next:(Int× Int)->Option ρ) (x9:Int->Option ρ):Option ρ:=
 cond (decide (v.2<(p.length:Int))) (cond (decide (0<=v.2/\v.2<(p.length:Int))) ((p[v.2.toNat]?).bind λe25=>next (i64.wrap (v.1+e25),i64.wrap (v.2+1))) none) (x9 v.1)
def vQ (k:Nat) (a0:az) (a1:aA) (a2:Int) (a3:Int) (a4:Int):Option (Int):=
 cond (a1.kind==0) ((ed k a0.sh).bind λr1=>cond (decide (0<=(i64.wrap ((i64.wrap (a4*r1))+r1))/\(i64.wrap ((i64.wrap (a4*r1))+r1))<=(a1.weights.length:Int))) (cond (decide (0<=(i64.wrap (a4*r1))/\(i64.wrap (a4*r1))<=((i64.wrap ((i64.wrap (a4*r1))+r1)).toNat:Int))) ((Fw k a0.data ((a1.weights.take ((i64.wrap ((i64.wrap (a4*r1))+r1)).toNat)).drop ((i64.wrap (a4*r1)).toNat))).bind λr2=>(idx a1.pN a4).bind λe3=>(nS k r2 e3).bind λr4=>(pA k r4 a1.mult a1.shift a1.zero).bind λr5=>some r5) none) none) (cond (a1.kind==1) (iter (λu17 n17=>nY k (a2,a3,a4,a0.sh.h,a0.sh.w,a0.sh.c,a0.data,a1.kind,a1.out,a1.size,a1.step,a1.mult,a1.shift,a1.zero,a1.weights,a1.pN,a0.sh.h,a0.sh.w,a0.sh.c) u17 n17 (λy13=>(idx a1.pN a4).bind λe14=>(nS k y13 e14).bind λr15=>(pA k r15 a1.mult a1.shift a1.zero).bind λr16=>some r16)) k ((0:Int),(0:Int))) (cond (a1.kind==2) ((m7 k a0 a1 a2 a3 a4).bind λr18=>cond (decide (0<=(0:Int)/\(0:Int)<(r18.length:Int))) ((r18[(0:Int).toNat]?).bind λe19=>iter (λu23 n23=>nZ k r18 u23 n23 (λy22=>some y22)) k (e19,(1:Int))) none) (cond (a1.kind==3) ((m7 k a0 a1 a2 a3 a4).bind λr24=>iter (λu27 n27=>oa k r24 u27 n27 (λy26=>cond (decide (y26<0)) (cond (decide ((i64.wrap ((2:Int)*(r24.length:Int)))=0)) none (some (i64.wrap (0-(i64.wrap ((i64.wrap ((i64.wrap ((-2:Int)*y26))+(r24.length:Int))).tdiv (i64.wrap ((2:Int)*(r24.length:Int))))))))) (cond (decide ((i64.wrap ((2:Int)*(r24.length:Int)))=0)) none (some (i64.wrap ((i64.wrap ((i64.wrap ((2:Int)*y26))+(r24.length:Int))).tdiv (i64.wrap ((2:Int)*(r24.length:Int))))))))) k ((0:Int),(0:Int))) (cond (a1.kind==4) ((qu k a0 a2 a3 a4).bind λr28=>cond (decide (r28.1<a1.zero)) (some a1.zero) (some r28.1)) ((idx a0.data a4).bind λe29=>some e29)))))
def lR {ρ:Type} (k:Nat) (p:Int× Int× Int× Int× Int× List Int× Int× Int× Int× Int× Int× Int× Int× List Int× List Int× Int× Int× Int× Int× Int× Int× Int× Int× Int) (v:Int× List Int) (next:(Int× List Int)->Option ρ) (x4:(List Int)->Option ρ):Option ρ:=
 cond (decide (v.1<p.2.2.2.2.2.2.2.2.2.2.2.2.2.2.2.2.2.2.2.2.1)) ((vQ k (⟨(⟨p.2.2.1,p.2.2.2.1,p.2.2.2.2.1⟩:Shape),p.2.2.2.2.2.1⟩:az) (⟨p.2.2.2.2.2.2.1,p.2.2.2.2.2.2.2.1,p.2.2.2.2.2.2.2.2.1,p.2.2.2.2.2.2.2.2.2.1,p.2.2.2.2.2.2.2.2.2.2.1,p.2.2.2.2.2.2.2.2.2.2.2.1,p.2.2.2.2.2.2.2.2.2.2.2.2.1,p.2.2.2.2.2.2.2.2.2.2.2.2.2.1,p.2.2.2.2.2.2.2.2.2.2.2.2.2.2.1⟩:aA) p.1 p.2.1 v.1).bind λr3=>cond (Nat.ble (v.2.length+[r3].length) aG) (next (i64.wrap (v.1+1),v.2++[r3])) none) (x4 v.2)
def lS {ρ:Type} (k:Nat) (p:Int× Int× Int× Int× List Int× Int× Int× Int× Int× Int× Int× Int× List Int× List Int× Int× Int× Int× Int× Int× Int× Int× Int× Int) (v:Int× List Int) (next:(Int× List Int)->Option ρ) (x2:(List Int)->Option ρ):Option ρ:=
 cond (decide (v.1<p.2.2.2.2.2.2.2.2.2.2.2.2.2.2.2.2.2.2.1)) (iter (λu5 n5=>lR k (p.1,v.1,p.2.1,p.2.2.1,p.2.2.2.1,p.2.2.2.2.1,p.2.2.2.2.2.1,p.2.2.2.2.2.2.1,p.2.2.2.2.2.2.2.1,p.2.2.2.2.2.2.2.2.1,p.2.2.2.2.2.2.2.2.2.1,p.2.2.2.2.2.2.2.2.2.2.1,p.2.2.2.2.2.2.2.2.2.2.2.1,p.2.2.2.2.2.2.2.2.2.2.2.2.1,p.2.2.2.2.2.2.2.2.2.2.2.2.2.1,p.2.2.2.2.2.2.2.2.2.2.2.2.2.2.1,p.2.2.2.2.2.2.2.2.2.2.2.2.2.2.2.1,p.2.2.2.2.2.2.2.2.2.2.2.2.2.2.2.2.1,p.2.2.2.2.2.2.2.2.2.2.2.2.2.2.2.2.2.1,p.2.2.2.2.2.2.2.2.2.2.2.2.2.2.2.2.2.2.1,p.2.2.2.2.2.2.2.2.2.2.2.2.2.2.2.2.2.2.2.1,p.2.2.2.2.2.2.2.2.2.2.2.2.2.2.2.2.2.2.2.2.1,p.2.2.2.2.2.2.2.2.2.2.2.2.2.2.2.2.2.2.2.2.2.1,p.2.2.2.2.2.2.2.2.2.2.2.2.2.2.2.2.2.2.2.2.2.2) u5 n5 (λy4=>next (i64.wrap (v.1+1),y4))) k ((0:Int),v.2)) (x2 v.2)
def lT {ρ:Type} (k:Nat) (p:Int× Int× Int× List Int× Int× Int× Int× Int× Int× Int× Int× List Int× List Int× Int× Int× Int× Int× Int× Int× Int× Int× Int) (v:Int× List Int) (next:(Int× List Int)->Option ρ) (x0:(List Int)->Option ρ):Option ρ:=
 cond (decide (v.1<p.2.2.2.2.2.2.2.2.2.2.2.2.2.2.2.2.1)) (iter (λu7 n7=>lS k (v.1,p.1,p.2.1,p.2.2.1,p.2.2.2.1,p.2.2.2.2.1,p.2.2.2.2.2.1,p.2.2.2.2.2.2.1,p.2.2.2.2.2.2.2.1,p.2.2.2.2.2.2.2.2.1,p.2.2.2.2.2.2.2.2.2.1,p.2.2.2.2.2.2.2.2.2.2.1,p.2.2.2.2.2.2.2.2.2.2.2.1,p.2.2.2.2.2.2.2.2.2.2.2.2.1,p.2.2.2.2.2.2.2.2.2.2.2.2.2.1,p.2.2.2.2.2.2.2.2.2.2.2.2.2.2.1,p.2.2.2.2.2.2.2.2.2.2.2.2.2.2.2.1,p.2.2.2.2.2.2.2.2.2.2.2.2.2.2.2.2.1,p.2.2.2.2.2.2.2.2.2.2.2.2.2.2.2.2.2.1,p.2.2.2.2.2.2.2.2.2.2.2.2.2.2.2.2.2.2.1,p.2.2.2.2.2.2.2.2.2.2.2.2.2.2.2.2.2.2.2.1,p.2.2.2.2.2.2.2.2.2.2.2.2.2.2.2.2.2.2.2.2.1,p.2.2.2.2.2.2.2.2.2.2.2.2.2.2.2.2.2.2.2.2.2) u7 n7 (λy6=>next (i64.wrap (v.1+1),y6))) k ((0:Int),v.2)) (x0 v.2)
def sV (k:Nat) (a0:az) (a1:aA):Option (az× Bool):=
 (j9 k a0).bind λr1=>cond (!r1) (some ((⟨(⟨(0:Int),(0:Int),(0:Int)⟩:Shape),([]:List Int)⟩:az),false)) ((my k a0.sh a1).bind λr2=>cond (!r2.2) (some ((⟨(⟨(0:Int),(0:Int),(0:Int)⟩:Shape),([]:List Int)⟩:az),false)) (iter (λu9 n9=>lT k (a0.sh.h,a0.sh.w,a0.sh.c,a0.data,a1.kind,a1.out,a1.size,a1.step,a1.mult,a1.shift,a1.zero,a1.weights,a1.pN,(0:Int),(0:Int),(0:Int),r2.1.h,r2.1.w,r2.1.c,r2.1.h,r2.1.w,r2.1.c) u9 n9 (λy8=>some ((⟨r2.1,y8⟩:az),true))) k ((0:Int),([]:List Int))))
def m8 {ρ:Type} (k:Nat) (p:List Int) (v:Int× List Int) (next:(Int× List Int)->Option ρ) (x0:(List Int)->Option ρ):Option ρ:=
 cond (decide (v.1<(p.length:Int))) (cond (decide (0<=v.1/\v.1<(p.length:Int))) ((p[v.1.toNat]?).bind λe3=>cond (Nat.ble (v.2.length+[e3].length) aG) (next (i64.wrap (v.1+1),v.2++[e3])) none) none) (x0 v.2)
def zX (k:Nat) (a0:Job):Option (List Int):=
 (uw k a0).bind λr1=>cond (!r1) (some ([]:List Int)) ((k7 k a0.model).bind λr2=>iter (λu5 n5=>m8 k r2 u5 n5 (λy4=>some y4)) k (a0.at_,([]:List Int)))
def sW (k:Nat) (a0:Job):Option (Int):=
 (zX k a0).bind λr1=>cond ((r1.length:Int)==(0:Int)) (some (0:Int)) (cond (decide (0<=(0:Int)/\(0:Int)<(r1.length:Int))) ((r1[(0:Int).toNat]?).bind λe2=>some e2) none)
def vR (k:Nat) (a0:Job):Option (Job× Bool):=
 (vM k a0).bind λr1=>(uw k a0).bind λr2=>cond (!r2) (some (r1,false)) ((vN k a0).bind λr3=>cond (r3) (some (r1,false)) ((idx a0.model.aF a0.at_).bind λe4=>(sV k a0.act e4).bind λr5=>(sW k a0).bind λr6=>some ((⟨r1.model,(i64.wrap (a0.at_+1)),r5.1,(i64.wrap (a0.jQ+r6))⟩:Job),true)))
def zY (k:Nat) (a0:Job):Option (List Int):=
 (BD k a0).bind λr1=>cond (!r1) (some ([]:List Int)) ((k9 k a0.model).bind λr2=>cond (decide (0<=a0.at_/\a0.at_<=(r2.length:Int))) (some (((r2).drop a0.at_.toNat).take (r2.length-a0.at_.toNat))) none)
def sX (k:Nat) (a0:Job):Option (Int):=
 (zY k a0).bind λr1=>cond ((r1.length:Int)==(0:Int)) (some (0:Int)) ((idx r1 (0:Int)).bind λe2=>some e2)
def M4 (k:Nat) (a0:Int) (a1:Int) (a2:Int):Option (Int):=
 some (if(if a2<a0 then a2 else a0)>a1 then(if a2<a0 then a2 else a0)else a1)
def BH (k:Nat) (a0:Int):Option (Int):=
 (M4 k a0 (-128:Int) (127:Int)).bind λr1=>some r1
def oR (k:Nat) (a0:Int):Option (Int):=
 (M4 k a0 (-2147483648:Int) (2147483647:Int)).bind λr1=>some r1
def vS (k:Nat) (a0:Int) (a1:Int):Option (Int):=
 (oR k a0).bind λr1=>(oR k a1).bind λr2=>(oR k (i64.wrap (r1+r2))).bind λr3=>some r3
def sY {ρ:Type} (k:Nat) (p:List Int× List Int× Int) (v:Int× Int) (next:(Int× Int)->Option ρ) (x0:Int->Option ρ):Option ρ:=
 cond (decide (v.2<p.2.2)) ((idx p.1 v.2).bind λe1=>(BH k e1).bind λr2=>(idx p.2.1 v.2).bind λe3=>(BH k e3).bind λr4=>(vS k v.1 (i64.wrap (r2*r4))).bind λr5=>next (r5,i64.wrap (v.2+1))) (x0 v.1)
def Fx (k:Nat) (a0:List Int) (a1:List Int):Option (Int):=
 iter (λu7 n7=>sY k (a0,a1,if(a1.length:Int)<(a0.length:Int)then(a1.length:Int)else(a0.length:Int)) u7 n7 (λy6=>some y6)) k ((0:Int),(0:Int))
def vT (k:Nat) (a0:Int) (a1:Int):Option (Int):=
 (oR k a0).bind λr1=>(oR k a1).bind λr2=>(oR k ((i64.wrap ((i64.wrap (r1*r2))+1073741824)).fdiv (2^(min (31:Int).toNat i64.bits)))).bind λr3=>some r3
def qv (k:Nat) (a0:Int) (a1:Int):Option (Int):=
 cond (decide (a0<0)) (none) (cond (decide ((i64.wrap ((2:Int)*a1))=0)) none (some (i64.wrap ((i64.wrap ((i64.wrap ((2:Int)*a0))+a1)).tdiv (i64.wrap ((2:Int)*a1))))))
def pB (k:Nat) (a0:Int) (a1:Int):Option (Int):=
 cond (decide (a0<0)) ((qv k (i64.wrap (0-a0)) a1).bind λr1=>some (i64.wrap (0-r1))) (cond (decide ((i64.wrap ((2:Int)*a1))=0)) none (some (i64.wrap ((i64.wrap ((i64.wrap ((2:Int)*a0))+a1)).tdiv (i64.wrap ((2:Int)*a1))))))
def oc (k:Nat) (a0:Int) (a1:Int):Option (Int):=
 (oR k a0).bind λr1=>(M4 k a1 (0:Int) (31:Int)).bind λr2=>cond (decide (r2<0)) none ((pB k r1 (i64.wrap ((1:Int)*2^(min r2.toNat i64.bits)))).bind λr3=>some r3)
def vU (k:Nat) (a0:Int) (a1:Int) (a2:Int) (a3:Int):Option (Int):=
 (vT k a0 a1).bind λr1=>(oc k r1 a2).bind λr2=>(BH k a3).bind λr3=>(BH k (i64.wrap (r2+r3))).bind λr4=>some r4
def gg (k:Nat) (a0:aA) (a1:List Int) (a2:Int):Option (Int):=
 cond (decide (0<=(i64.wrap ((i64.wrap (a2+1))*(a1.length:Int)))/\(i64.wrap ((i64.wrap (a2+1))*(a1.length:Int)))<=(a0.weights.length:Int))) (cond (decide (0<=(i64.wrap (a2*(a1.length:Int)))/\(i64.wrap (a2*(a1.length:Int)))<=((i64.wrap ((i64.wrap (a2+1))*(a1.length:Int))).toNat:Int))) ((Fx k a1 ((a0.weights.take ((i64.wrap ((i64.wrap (a2+1))*(a1.length:Int))).toNat)).drop ((i64.wrap (a2*(a1.length:Int))).toNat))).bind λr1=>(idx a0.pN a2).bind λe2=>(vS k r1 e2).bind λr3=>(vU k r3 a0.mult a0.shift a0.zero).bind λr4=>some r4) none) none
def jA (k:Nat) (a0:Shape) (a1:Int) (a2:Int) (a3:Int):Option (Int):=
 some (i64.wrap ((i64.wrap ((i64.wrap ((i64.wrap (a1*a0.w))+a2))*a0.c))+a3))
def er {ρ:Type} (k:Nat) (p:Int× Int× Int× Int× Int× Int× Int× Int× Int× Int× Int× Int× Int× Int× List Int× List Int× Int× Int× Int× List Int) (v:Int× List Int) (next:(Int× List Int)->Option ρ) (x2:(List Int)->Option ρ):Option ρ:=
 cond (decide (v.1<p.2.2.2.2.2.2.1)) ((jA k (⟨p.2.2.2.2.2.2.2.2.2.2.2.2.2.2.2.2.1,p.2.2.2.2.2.2.2.2.2.2.2.2.2.2.2.2.2.1,p.2.2.2.2.2.2.2.2.2.2.2.2.2.2.2.2.2.2.1⟩:Shape) (i64.wrap ((i64.wrap (p.1*p.2.2.2.2.2.2.2.2.2.2.1))+p.2.2.2.1)) (i64.wrap ((i64.wrap (p.2.1*p.2.2.2.2.2.2.2.2.2.2.1))+v.1)) (0:Int)).bind λr1=>cond (decide (p.2.2.1<0)) (cond (decide (0<=(i64.wrap (r1+p.2.2.2.2.2.2.2.2.2.2.2.2.2.2.2.2.2.2.1))/\(i64.wrap (r1+p.2.2.2.2.2.2.2.2.2.2.2.2.2.2.2.2.2.2.1))<=(p.2.2.2.2.2.2.2.2.2.2.2.2.2.2.2.2.2.2.2.length:Int))) (cond (decide (0<=r1/\r1<=((i64.wrap (r1+p.2.2.2.2.2.2.2.2.2.2.2.2.2.2.2.2.2.2.1)).toNat:Int))) (cond (Nat.ble (v.2.length+((p.2.2.2.2.2.2.2.2.2.2.2.2.2.2.2.2.2.2.2.take ((i64.wrap (r1+p.2.2.2.2.2.2.2.2.2.2.2.2.2.2.2.2.2.2.1)).toNat)).drop r1.toNat).length) aG) (next (i64.wrap (v.1+1),v.2++((p.2.2.2.2.2.2.2.2.2.2.2.2.2.2.2.2.2.2.2.take ((i64.wrap (r1+p.2.2.2.2.2.2.2.2.2.2.2.2.2.2.2.2.2.2.1)).toNat)).drop r1.toNat))) none) none) none) ((idx p.2.2.2.2.2.2.2.2.2.2.2.2.2.2.2.2.2.2.2 (i64.wrap (r1+p.2.2.1))).bind λe2=>cond (Nat.ble (v.2.length+[e2].length) aG) (next (i64.wrap (v.1+1),v.2++[e2])) none)) (x2 v.2)
def et {ρ:Type} (k:Nat) (p:Int× Int× Int× Int× Int× Int× Int× Int× Int× Int× Int× List Int× List Int× Int× Int× Int× List Int) (v:Int× List Int) (next:(Int× List Int)->Option ρ) (x0:(List Int)->Option ρ):Option ρ:=
 cond (decide (v.1<p.2.2.2.1)) (iter (λu4 n4=>er k (p.1,p.2.1,p.2.2.1,v.1,p.2.2.2.1,v.1,p.2.2.2.2.2.2.1,p.2.2.2.2.1,p.2.2.2.2.2.1,p.2.2.2.2.2.2.1,p.2.2.2.2.2.2.2.1,p.2.2.2.2.2.2.2.2.1,p.2.2.2.2.2.2.2.2.2.1,p.2.2.2.2.2.2.2.2.2.2.1,p.2.2.2.2.2.2.2.2.2.2.2.1,p.2.2.2.2.2.2.2.2.2.2.2.2.1,p.2.2.2.2.2.2.2.2.2.2.2.2.2.1,p.2.2.2.2.2.2.2.2.2.2.2.2.2.2.1,p.2.2.2.2.2.2.2.2.2.2.2.2.2.2.2.1,p.2.2.2.2.2.2.2.2.2.2.2.2.2.2.2.2) u4 n4 (λy3=>next (i64.wrap (v.1+1),y3))) k ((0:Int),v.2)) (x0 v.2)
def cS (k:Nat) (a0:aA) (a1:az) (a2:Int) (a3:Int) (a4:Int):Option (List Int):=
 iter (λu6 n6=>et k (a2,a3,a4,a0.size,a0.kind,a0.out,a0.size,a0.step,a0.mult,a0.shift,a0.zero,a0.weights,a0.pN,a1.sh.h,a1.sh.w,a1.sh.c,a1.data) u6 n6 (λy5=>some y5)) k ((0:Int),([]:List Int))
def eH {ρ:Type} (k:Nat) (p:List Int) (v:Int× Int) (next:(Int× Int)->Option ρ) (x0:Int->Option ρ):Option ρ:=
 cond (decide (v.2<(p.length:Int))) ((idx p v.2).bind λe2=>next (if e2>v.1 then e2 else v.1,i64.wrap (v.2+1))) (x0 v.1)
def fO (k:Nat) (a0:List Int):Option (Int):=
 cond (decide ((a0.length:Int)<(1:Int))) (none) ((idx a0 (0:Int)).bind λe1=>iter (λu4 n4=>eH k a0 u4 n4 (λy3=>some y3)) k (e1,(1:Int)))
def jB {ρ:Type} (k:Nat) (p:Int× Int× Int× Int× Int× Int× Int× Int× List Int× List Int× List Int) (v:Int× Int) (next:(Int× Int)->Option ρ) (x1:Int->Option ρ):Option ρ:=
 cond (decide (v.2<p.1)) (cond (decide (0<=v.2/\v.2<(p.2.2.2.2.2.2.2.2.2.2.length:Int))) ((p.2.2.2.2.2.2.2.2.2.2[v.2.toNat]?).bind λe7=>next (i64.wrap (v.1+e7),i64.wrap (v.2+1))) none) (x1 v.1)
def od (k:Nat) (a0:aA) (a1:az) (a2:Int) (a3:Int) (a4:Int):Option (Int):=
 cond (a0.kind==0) ((gg k a0 a1.data a4).bind λr1=>some r1) (cond (a0.kind==1) ((cS k a0 a1 a2 a3 (-1:Int)).bind λr2=>(gg k a0 r2 a4).bind λr3=>some r3) (cond (a0.kind==2) ((cS k a0 a1 a2 a3 a4).bind λr4=>(fO k r4).bind λr5=>some r5) (cond (a0.kind==3) ((cS k a0 a1 a2 a3 a4).bind λr6=>iter (λu10 n10=>jB k ((r6.length:Int),a0.kind,a0.out,a0.size,a0.step,a0.mult,a0.shift,a0.zero,a0.weights,a0.pN,r6) u10 n10 (λy8=>(pB k y8 (i64.wrap (a0.size*a0.size))).bind λr9=>some r9)) k ((0:Int),(0:Int))) (cond (a0.kind==4) ((jA k a1.sh a2 a3 a4).bind λr11=>(idx a1.data r11).bind λe12=>some (if a0.zero>e12 then a0.zero else e12)) ((idx a1.data a4).bind λe13=>some e13)))))
def lU {ρ:Type} (k:Nat) (p:Int× Int× Int× Int× Int× Int× Int× Int× Int× Int× List Int× Int× Int× Int× Int× Int× Int× Int× List Int× List Int× Int× Int× Int× Int× Int× Int× Int× Int× Int) (v:Int× List Int) (next:(Int× List Int)->Option ρ) (x4:(List Int)->Option ρ):Option ρ:=
 cond (decide (v.1<p.2.2.2.2.2.2.1)) ((od k (⟨p.2.2.2.2.2.2.2.2.2.2.2.1,p.2.2.2.2.2.2.2.2.2.2.2.2.1,p.2.2.2.2.2.2.2.2.2.2.2.2.2.1,p.2.2.2.2.2.2.2.2.2.2.2.2.2.2.1,p.2.2.2.2.2.2.2.2.2.2.2.2.2.2.2.1,p.2.2.2.2.2.2.2.2.2.2.2.2.2.2.2.2.1,p.2.2.2.2.2.2.2.2.2.2.2.2.2.2.2.2.2.1,p.2.2.2.2.2.2.2.2.2.2.2.2.2.2.2.2.2.2.1,p.2.2.2.2.2.2.2.2.2.2.2.2.2.2.2.2.2.2.2.1⟩:aA) (⟨(⟨p.2.2.2.2.2.2.2.1,p.2.2.2.2.2.2.2.2.1,p.2.2.2.2.2.2.2.2.2.1⟩:Shape),p.2.2.2.2.2.2.2.2.2.2.1⟩:az) p.1 p.2.1 v.1).bind λr3=>cond (Nat.ble (v.2.length+[r3].length) aG) (next (i64.wrap (v.1+1),v.2++[r3])) none) (x4 v.2)
def lV {ρ:Type} (k:Nat) (p:Int× Int× Int× Int× Int× Int× Int× List Int× Int× Int× Int× Int× Int× Int× Int× List Int× List Int× Int× Int× Int× Int× Int× Int× Int× Int× Int) (v:Int× List Int) (next:(Int× List Int)->Option ρ) (x2:(List Int)->Option ρ):Option ρ:=
 cond (decide (v.1<p.2.2.2.1)) (iter (λu5 n5=>lU k (p.1,v.1,p.2.1,p.2.2.1,p.2.2.2.1,v.1,p.2.2.2.2.2.2.2.2.2.2.2.2.2.2.2.2.2.2.2.2.2.2.1,p.2.2.2.2.1,p.2.2.2.2.2.1,p.2.2.2.2.2.2.1,p.2.2.2.2.2.2.2.1,p.2.2.2.2.2.2.2.2.1,p.2.2.2.2.2.2.2.2.2.1,p.2.2.2.2.2.2.2.2.2.2.1,p.2.2.2.2.2.2.2.2.2.2.2.1,p.2.2.2.2.2.2.2.2.2.2.2.2.1,p.2.2.2.2.2.2.2.2.2.2.2.2.2.1,p.2.2.2.2.2.2.2.2.2.2.2.2.2.2.1,p.2.2.2.2.2.2.2.2.2.2.2.2.2.2.2.1,p.2.2.2.2.2.2.2.2.2.2.2.2.2.2.2.2.1,p.2.2.2.2.2.2.2.2.2.2.2.2.2.2.2.2.2.1,p.2.2.2.2.2.2.2.2.2.2.2.2.2.2.2.2.2.2.1,p.2.2.2.2.2.2.2.2.2.2.2.2.2.2.2.2.2.2.2.1,p.2.2.2.2.2.2.2.2.2.2.2.2.2.2.2.2.2.2.2.2.1,p.2.2.2.2.2.2.2.2.2.2.2.2.2.2.2.2.2.2.2.2.2.1,p.2.2.2.2.2.2.2.2.2.2.2.2.2.2.2.2.2.2.2.2.2.2.1,p.2.2.2.2.2.2.2.2.2.2.2.2.2.2.2.2.2.2.2.2.2.2.2.1,p.2.2.2.2.2.2.2.2.2.2.2.2.2.2.2.2.2.2.2.2.2.2.2.2.1,p.2.2.2.2.2.2.2.2.2.2.2.2.2.2.2.2.2.2.2.2.2.2.2.2.2) u5 n5 (λy4=>next (i64.wrap (v.1+1),y4))) k ((0:Int),v.2)) (x2 v.2)
def lW {ρ:Type} (k:Nat) (p:Int× Int× Int× Int× List Int× Int× Int× Int× Int× Int× Int× Int× List Int× List Int× Int× Int× Int× Int× Int× Int× Int× Int× Int) (v:Int× List Int) (next:(Int× List Int)->Option ρ) (x0:(List Int)->Option ρ):Option ρ:=
 cond (decide (v.1<p.1)) (iter (λu7 n7=>lV k (v.1,p.1,v.1,p.2.2.2.2.2.2.2.2.2.2.2.2.2.2.2.2.2.2.1,p.2.1,p.2.2.1,p.2.2.2.1,p.2.2.2.2.1,p.2.2.2.2.2.1,p.2.2.2.2.2.2.1,p.2.2.2.2.2.2.2.1,p.2.2.2.2.2.2.2.2.1,p.2.2.2.2.2.2.2.2.2.1,p.2.2.2.2.2.2.2.2.2.2.1,p.2.2.2.2.2.2.2.2.2.2.2.1,p.2.2.2.2.2.2.2.2.2.2.2.2.1,p.2.2.2.2.2.2.2.2.2.2.2.2.2.1,p.2.2.2.2.2.2.2.2.2.2.2.2.2.2.1,p.2.2.2.2.2.2.2.2.2.2.2.2.2.2.2.1,p.2.2.2.2.2.2.2.2.2.2.2.2.2.2.2.2.1,p.2.2.2.2.2.2.2.2.2.2.2.2.2.2.2.2.2.1,p.2.2.2.2.2.2.2.2.2.2.2.2.2.2.2.2.2.2.1,p.2.2.2.2.2.2.2.2.2.2.2.2.2.2.2.2.2.2.2.1,p.2.2.2.2.2.2.2.2.2.2.2.2.2.2.2.2.2.2.2.2.1,p.2.2.2.2.2.2.2.2.2.2.2.2.2.2.2.2.2.2.2.2.2.1,p.2.2.2.2.2.2.2.2.2.2.2.2.2.2.2.2.2.2.2.2.2.2) u7 n7 (λy6=>next (i64.wrap (v.1+1),y6))) k ((0:Int),v.2)) (x0 v.2)
def sZ (k:Nat) (a0:az) (a1:aA):Option (az× Bool):=
 (mz k a0.sh a1).bind λr1=>cond (!r1.2) (some ((⟨(⟨(0:Int),(0:Int),(0:Int)⟩:Shape),([]:List Int)⟩:az),false)) ((mx k a0).bind λr2=>cond (!r2) (some ((⟨(⟨(0:Int),(0:Int),(0:Int)⟩:Shape),([]:List Int)⟩:az),false)) (iter (λu9 n9=>lW k (r1.1.h,a0.sh.h,a0.sh.w,a0.sh.c,a0.data,a1.kind,a1.out,a1.size,a1.step,a1.mult,a1.shift,a1.zero,a1.weights,a1.pN,(0:Int),(0:Int),(0:Int),r1.1.h,r1.1.w,r1.1.c,r1.1.h,r1.1.w,r1.1.c) u9 n9 (λy8=>some ((⟨r1.1,y8⟩:az),true))) k ((0:Int),([]:List Int))))
end
end
set_option maxRecDepth 100000
set_option maxHeartbeats 4000000
section
noncomputable section
end
end
set_option maxRecDepth 100000
section
noncomputable section
def lb {ρ:Type} (k:Nat) (p:Int× Int× Int× List Task× Int× Int× Int× Int× Int× Int× Int× Int× Int× Int× Int× Int× Int× Int× Int× Int× Int× Int) (v:Int× List Task) (next:(Int× List Task)->Option ρ) (x0:(List Task)->Option ρ):Option ρ:=
 cond (decide (v.1<(p.2.2.2.1.length:Int))) ((idx p.2.2.2.1 v.1).bind λe1=>(kV k e1.av).bind λr2=>cond (Nat.ble (v.2.length+1) aG) (next (i64.wrap (v.1+1),v.2++[(⟨e1.id,r2,e1.at_,e1.due,e1.born⟩:Task)])) none) (x0 v.2)
def m9 (k:Nat) (a0:ak):Option (ak):=
 iter (λu4 n4=>lb k (a0.now,a0.ai,a0.age,a0.tasks,a0.run,a0.left,a0.turns,a0.next,(0:Int),(0:Int),(0:Int),(0:Int),(0:Int),(0:Int),(0:Int),a0.now,a0.ai,a0.age,a0.run,a0.left,a0.turns,a0.next) u4 n4 (λy3=>some (⟨a0.now,a0.ai,a0.age,y3,a0.run,a0.left,a0.turns,a0.next⟩:ak))) k ((0:Int),([]:List Task))
def ld (k:Nat) (a0:Int):Option (Bool):=
 (bO k a0 (0:Int) (1000000:Int)).bind λr1=>some r1
def qw {ρ:Type} (k:Nat) (p:Int× List Int× Int× Int× Int) (v:Int) (next:Int->Option ρ) (x0:Unit->Option ρ) (dE:Bool->Option ρ):Option ρ:=
 cond (decide (v<(p.2.1.length:Int))) ((idx p.2.1 v).bind λe6=>(bO k e6 (1:Int) (1000:Int)).bind λr7=>cond (!r7) (dE false) (next (i64.wrap (v+1)))) (x0 ())
def vV (k:Nat) (a0:Task):Option (Bool):=
 (bO k a0.id (1:Int) (1000000:Int)).bind λr1=>cond (!r1) (some false) ((bO k (a0.av.length:Int) (1:Int) (6:Int)).bind λr2=>cond (!r2) (some false) ((bO k a0.at_ (0:Int) (i64.wrap ((a0.av.length:Int)-(1:Int)))).bind λr3=>cond (!r3) (some false) ((ld k a0.due).bind λr4=>cond (!r4) (some false) ((ld k a0.born).bind λr5=>cond (!r5) (some false) (iter (λu10 n10=>qw k (a0.id,a0.av,a0.at_,a0.due,a0.born) u10 n10 (λy8=>some true) (λy9=>some y9)) k (0:Int))))))
def s4 {ρ:Type} (k:Nat) (p:Int× Int× Int× Int× List Task× Int× Int× Int× Int) (v:Int) (next:Int->Option ρ) (x0:Unit->Option ρ) (dE:Int->Option ρ):Option ρ:=
 cond (decide (v<(p.2.2.2.2.1.length:Int))) ((idx p.2.2.2.2.1 v).bind λe1=>cond (e1.id==p.1) (dE v) (next (i64.wrap (v+1)))) (x0 ())
def lL (k:Nat) (a0:ak) (a1:Int):Option (Int):=
 iter (λu4 n4=>s4 k (a1,a0.now,a0.ai,a0.age,a0.tasks,a0.run,a0.left,a0.turns,a0.next) u4 n4 (λy2=>some (-1:Int)) (λy3=>some y3)) k (0:Int)
def oe {ρ:Type} (k:Nat) (p:Int× Int× Int× List Task× Int× Int× Int× Int) (v:Int) (next:Int->Option ρ) (x0:Unit->Option ρ) (dE:Bool->Option ρ):Option ρ:=
 cond (decide (v<(p.2.2.2.1.length:Int))) ((idx p.2.2.2.1 v).bind λe6=>(vV k e6).bind λr7=>cond (!r7) (dE false) (cond (decide (e6.id>=p.2.2.2.2.2.2.2)) (dE false) (cond (decide (e6.born>p.1)) (dE false) (cond (decide (v>0)) ((idx p.2.2.2.1 (i64.wrap (v-1))).bind λe8=>cond (decide (e8.id>=e6.id)) (dE false) (next (i64.wrap (v+1)))) (next (i64.wrap (v+1))))))) (x0 ())
def fA (k:Nat) (a0:ak):Option (Bool):=
 (ld k a0.now).bind λr1=>cond (!r1) (some false) ((bO k a0.ai (0:Int) (1000:Int)).bind λr2=>cond (!r2) (some false) ((bO k a0.age (0:Int) (20:Int)).bind λr3=>cond (!r3) (some false) (cond (decide ((a0.tasks.length:Int)>(12:Int))) (some false) ((ld k a0.turns).bind λr4=>cond (!r4) (some false) ((bO k a0.next (1:Int) (1000000:Int)).bind λr5=>cond (!r5) (some false) (iter (λu16 n16=>oe k (a0.now,a0.ai,a0.age,a0.tasks,a0.run,a0.left,a0.turns,a0.next) u16 n16 (λy9=>cond (a0.run==0) (some (a0.left==0)) ((lL k a0 a0.run).bind λr10=>cond (decide (r10>=0)) ((idx a0.tasks r10).bind λe11=>(idx a0.tasks r10).bind λe12=>(idx e11.av e12.at_).bind λe13=>(bO k a0.left (1:Int) e13).bind λr14=>some r14) (some false))) (λy15=>some y15)) k (0:Int)))))))
def na {ρ:Type} (k:Nat) (p:Int× Int× Int× List Task× Int× Int× Int× Int) (v:Int× List Int) (next:(Int× List Int)->Option ρ) (x0:(List Int)->Option ρ):Option ρ:=
 cond (decide (v.1<(p.2.2.2.1.length:Int))) ((idx p.2.2.2.1 v.1).bind λe2=>cond (decide (e2.due<=p.1)) ((idx p.2.2.2.1 v.1).bind λe3=>cond (Nat.ble (v.2.length+[e3.id].length) aG) (next (i64.wrap (v.1+1),v.2++[e3.id])) none) (next (i64.wrap (v.1+1),v.2))) (x0 v.2)
def zZ (k:Nat) (a0:ak):Option (List Int):=
 (fA k a0).bind λr1=>cond (!r1) (some ([]:List Int)) (iter (λu5 n5=>na k (a0.now,a0.ai,a0.age,a0.tasks,a0.run,a0.left,a0.turns,a0.next) u5 n5 (λy4=>some y4)) k ((0:Int),([]:List Int)))
def jC {ρ:Type} (k:Nat) (p:Int× Int× Int× Int× List Task× Int× Int× Int× Int× Int× List Int× Int× Int× Int) (v:Int× Int) (next:(Int× Int)->Option ρ) (x0:Int->Option ρ):Option ρ:=
 cond (decide (v.2<(p.2.2.2.2.2.2.2.2.2.2.1.length:Int))) ((idx p.2.2.2.2.2.2.2.2.2.2.1 v.2).bind λe4=>next (i64.wrap (v.1+e4),i64.wrap (v.2+1))) (x0 v.1)
def s5 (k:Nat) (a0:ak) (a1:Int):Option (Int):=
 (lL k a0 a1).bind λr1=>(fA k a0).bind λr2=>cond (!r2) (some (-1:Int)) (cond (decide (r1<0)) (some (-1:Int)) ((idx a0.tasks r1).bind λe3=>iter (λu7 n7=>jC k (a1,a0.now,a0.ai,a0.age,a0.tasks,a0.run,a0.left,a0.turns,a0.next,e3.id,e3.av,e3.at_,e3.due,e3.born) u7 n7 (λy5=>cond (a0.run==a1) ((idx e3.av e3.at_).bind λe6=>some (i64.wrap ((i64.wrap (y5-e6))+a0.left))) (some y5))) k ((0:Int),e3.at_)))
def jD {ρ:Type} (k:Nat) (p:Int× Int× Int× Int× List Task× Int× Int× Int× Int) (v:Int× Int) (next:(Int× Int)->Option ρ) (x0:Int->Option ρ):Option ρ:=
 cond (decide (v.2<(p.2.2.2.2.1.length:Int))) ((idx p.2.2.2.2.1 v.2).bind λe2=>cond (decide (e2.due<=p.1)) ((idx p.2.2.2.2.1 v.2).bind λe3=>(s5 k (⟨p.2.1,p.2.2.1,p.2.2.2.1,p.2.2.2.2.1,p.2.2.2.2.2.1,p.2.2.2.2.2.2.1,p.2.2.2.2.2.2.2.1,p.2.2.2.2.2.2.2.2⟩:ak) e3.id).bind λr4=>next (i64.wrap (v.1+r4),i64.wrap (v.2+1))) (next (v.1,i64.wrap (v.2+1)))) (x0 v.1)
def s6 (k:Nat) (a0:ak) (a1:Int):Option (Int):=
 (fA k a0).bind λr1=>cond (!r1) (some (-1:Int)) (iter (λu6 n6=>jD k (a1,a0.now,a0.ai,a0.age,a0.tasks,a0.run,a0.left,a0.turns,a0.next) u6 n6 (λy5=>some y5)) k ((0:Int),(0:Int)))
def vW (k:Nat) (a0:ak) (a1:Int):Option (Int):=
 (fA k a0).bind λr1=>cond (!r1) (some (-1:Int)) ((lL k a0 a0.run).bind λr2=>cond (decide (r2>=0)) ((idx a0.tasks r2).bind λe3=>cond (decide (e3.due>a1)) (some a0.left) (some (0:Int))) (some (0:Int)))
def qx {ρ:Type} (k:Nat) (p:Int× Int× Int× List Task× Int× Int× Int× Int) (v:Int) (next:Int->Option ρ) (x0:Unit->Option ρ) (dE:Bool->Option ρ):Option ρ:=
 cond (decide (v<(p.2.2.2.1.length:Int))) ((idx p.2.2.2.1 v).bind λe3=>(s6 k (⟨p.1,p.2.1,p.2.2.1,p.2.2.2.1,p.2.2.2.2.1,p.2.2.2.2.2.1,p.2.2.2.2.2.2.1,p.2.2.2.2.2.2.2⟩:ak) e3.due).bind λr4=>(vW k (⟨p.1,p.2.1,p.2.2.1,p.2.2.2.1,p.2.2.2.2.1,p.2.2.2.2.2.1,p.2.2.2.2.2.2.1,p.2.2.2.2.2.2.2⟩:ak) e3.due).bind λr5=>cond (decide ((i64.wrap ((i64.wrap (r4+r5))+p.2.1))>(i64.wrap (e3.due-p.1)))) (dE false) (next (i64.wrap (v+1)))) (x0 ())
def Aa (k:Nat) (a0:ak):Option (Bool):=
 (fA k a0).bind λr1=>cond (!r1) (some false) ((zZ k a0).bind λr2=>cond (decide ((r2.length:Int)>(0:Int))) (some false) (iter (λu8 n8=>qx k (a0.now,a0.ai,a0.age,a0.tasks,a0.run,a0.left,a0.turns,a0.next) u8 n8 (λy6=>some true) (λy7=>some y7)) k (0:Int)))
def Fy (k:Nat) (a0:ak) (a1:List Int) (a2:Int):Option (ak× Int× Int):=
 (m9 k a0).bind λr1=>(kV k a1).bind λr2=>(fA k a0).bind λr3=>cond (!r3) (some (r1,(0:Int),(1:Int))) ((vV k (⟨a0.next,r2,(0:Int),a2,a0.now⟩:Task)).bind λr4=>cond (!r4) (some (r1,(0:Int),(1:Int))) (cond ((a0.tasks.length:Int)==(12:Int)) (some (r1,(0:Int),(2:Int))) (cond (a0.next==1000000) (some (r1,(0:Int),(2:Int))) (cond (Nat.ble (r1.tasks.length+1) aG) ((Aa k (⟨r1.now,r1.ai,r1.age,(r1.tasks++[(⟨a0.next,r2,(0:Int),a2,a0.now⟩:Task)]),r1.run,r1.left,r1.turns,(i64.wrap (a0.next+1))⟩:ak)).bind λr5=>cond (!r5) ((m9 k a0).bind λr6=>some (r6,(0:Int),(3:Int))) (some ((⟨r1.now,r1.ai,r1.age,(r1.tasks++[(⟨a0.next,r2,(0:Int),a2,a0.now⟩:Task)]),r1.run,r1.left,r1.turns,(i64.wrap (a0.next+1))⟩:ak),a0.next,(0:Int)))) none))))
def fB {ρ:Type} (k:Nat) (p:List Task× Int× Int× Int× Int× Int× Int× Int× Int× Int× Int× Int× Int× Int× Int× Int) (v:Int× List Task) (next:(Int× List Task)->Option ρ) (x0:(List Task)->Option ρ):Option ρ:=
 cond (decide (v.1<p.2.1)) ((idx p.1 v.1).bind λe1=>(bY k e1.av).bind λr2=>cond (Nat.ble (v.2.length+1) aG) (next (i64.wrap (v.1+1),v.2++[(⟨e1.id,r2,e1.at_,e1.due,e1.born⟩:Task)])) none) (x0 v.2)
def gi (k:Nat) (a0:ak):Option (ak):=
 iter (λu4 n4=>fB k (a0.tasks,(a0.tasks.length:Int),a0.now,a0.ai,a0.age,a0.run,a0.left,a0.turns,a0.next,(0:Int),(0:Int),(0:Int),(0:Int),(0:Int),(0:Int),(0:Int)) u4 n4 (λy3=>some (⟨a0.now,a0.ai,a0.age,y3,a0.run,a0.left,a0.turns,a0.next⟩:ak))) k ((0:Int),([]:List Task))
def oh (k:Nat) (a0:Int):Option (Bool):=
 (tP k a0 (0:Int) (1000000:Int)).bind λr1=>some r1
def uy (k:Nat) (a0:Int):Option (Bool):=
 (tP k a0 (1:Int) (1000:Int)).bind λr1=>some (!r1)
def bD {ρ:Type} (k:Nat) (p:List Int× Int) (v:Int) (next:Int->Option ρ) (x0:Unit->Option ρ) (dE:Int->Option ρ):Option ρ:=
 cond (decide (v<p.2)) ((idx p.1 v).bind λe1=>(uy k e1).bind λr2=>cond (r2) (dE v) (next (i64.wrap (v+1)))) (x0 ())
def cG (k:Nat) (a0:List Int):Option (Int):=
 iter (λu5 n5=>bD k (a0,(a0.length:Int)) u5 n5 (λy3=>some (-1:Int)) (λy4=>some y4)) k (0:Int)
def cj (k:Nat) (a0:List Int):Option (Bool):=
 (cG k a0).bind λr1=>some (decide (r1>=0))
def vX (k:Nat) (a0:Task):Option (Bool):=
 (tP k a0.id (1:Int) (1000000:Int)).bind λr1=>cond (r1) ((tP k (a0.av.length:Int) (1:Int) (6:Int)).bind λr2=>cond (r2) ((cj k a0.av).bind λr3=>cond (!r3) ((tP k a0.at_ (0:Int) (i64.wrap ((a0.av.length:Int)-(1:Int)))).bind λr4=>cond (r4) ((oh k a0.due).bind λr5=>cond (r5) ((oh k a0.born).bind λr6=>some r6) (some false)) (some false)) (some false)) (some false)) (some false)
def fP {ρ:Type} (k:Nat) (p:List Task× Int× Int× Int× Int× List Task× Int× Int× Int× Int) (v:Int) (next:Int->Option ρ) (x0:Unit->Option ρ) (dE:Bool->Option ρ):Option ρ:=
 cond (decide (v<p.2.1)) ((idx p.1 v).bind λe1=>(vX k e1).bind λr2=>cond (!r2) (dE false) (cond (decide (e1.id>=p.2.2.2.2.2.2.2.2.2)) (dE false) (cond (decide (e1.born>p.2.2.1)) (dE false) (cond (decide (v>0)) ((idx p.2.2.2.2.2.1 (i64.wrap (v-1))).bind λe3=>cond (decide (e3.id>=e1.id)) (dE false) (next (i64.wrap (v+1)))) (next (i64.wrap (v+1))))))) (x0 ())
def iE (k:Nat) (a0:ak):Option (Bool):=
 iter (λu6 n6=>fP k (a0.tasks,(a0.tasks.length:Int),a0.now,a0.ai,a0.age,a0.tasks,a0.run,a0.left,a0.turns,a0.next) u6 n6 (λy4=>some (decide ((a0.tasks.length:Int)<=(12:Int)))) (λy5=>some y5)) k (0:Int)
def kg (k:Nat) (a0:Task) (Fz:Int):Option (Bool):=
 cond (decide (Fz=Fz)) (some (a0.id==Fz)) none
def bX {ρ:Type} (k:Nat) (p:List Task× Int× Int) (v:Int) (next:Int->Option ρ) (x0:Unit->Option ρ) (dE:Int->Option ρ):Option ρ:=
 cond (decide (v<p.2.1)) ((idx p.1 v).bind λe1=>(kg k e1 p.2.2).bind λr2=>cond (r2) (dE v) (next (i64.wrap (v+1)))) (x0 ())
def dt (k:Nat) (a0:List Task) (dD:Int):Option (Int):=
 iter (λu5 n5=>bX k (a0,(a0.length:Int),dD) u5 n5 (λy3=>cond (decide (dD=dD)) (some (-1:Int)) none) (λy4=>cond (decide (dD=dD)) (some y4) none)) k (0:Int)
def dz (k:Nat) (a0:ak) (a1:Int):Option (Int):=
 (dt k a0.tasks a1).bind λr1=>some r1
def nc (k:Nat) (a0:ak):Option (Bool):=
 (oh k a0.now).bind λr1=>cond (!r1) (some false) ((tP k a0.ai (0:Int) (1000:Int)).bind λr2=>cond (!r2) (some false) ((tP k a0.age (0:Int) (20:Int)).bind λr3=>cond (!r3) (some false) ((oh k a0.turns).bind λr4=>cond (!r4) (some false) ((tP k a0.next (1:Int) (1000000:Int)).bind λr5=>cond (!r5) (some false) ((iE k a0).bind λr6=>cond (!r6) (some false) ((dz k a0 a0.run).bind λr7=>cond (a0.run==0) (cond (a0.run==0) (some (a0.left==0)) (some false)) (cond (decide (r7<0)) (cond (a0.run==0) (some (a0.left==0)) (some false)) ((idx a0.tasks r7).bind λe8=>(idx a0.tasks r7).bind λe9=>(idx e8.av e9.at_).bind λe10=>(tP k a0.left (1:Int) e10).bind λr11=>some r11))))))))
def dm (k:Nat) (a0:ak) (a1:Task):Option (Bool):=
 some (decide (a1.due<=a0.now))
def kF (k:Nat) (a0:ak) (a1:Task):Option (Int):=
 cond (decide (0<=a1.at_/\a1.at_<=(a1.av.length:Int))) ((PK k ((a1.av.take a1.av.length).drop a1.at_.toNat)).bind λr1=>cond (a0.run==a1.id) ((idx a1.av a1.at_).bind λe2=>some (i64.wrap (r1+(i64.wrap (a0.left-e2))))) (some r1)) none
def fC {ρ:Type} (k:Nat) (p:Int× List Task× Int× Int× Int× Int× List Task× Int× Int× Int× Int) (v:Int× Int) (next:(Int× Int)->Option ρ) (x0:Int->Option ρ):Option ρ:=
 cond (decide (v.2<p.2.2.1)) ((idx p.2.1 v.2).bind λe1=>cond (decide (e1.due<=p.1)) ((kF k (⟨p.2.2.2.1,p.2.2.2.2.1,p.2.2.2.2.2.1,p.2.2.2.2.2.2.1,p.2.2.2.2.2.2.2.1,p.2.2.2.2.2.2.2.2.1,p.2.2.2.2.2.2.2.2.2.1,p.2.2.2.2.2.2.2.2.2.2⟩:ak) e1).bind λr2=>next (i64.wrap (v.1+r2),i64.wrap (v.2+1))) (next (v.1,i64.wrap (v.2+1)))) (x0 v.1)
def kG (k:Nat) (a0:ak) (a1:Int):Option (Int):=
 iter (λu4 n4=>fC k (a1,a0.tasks,(a0.tasks.length:Int),a0.now,a0.ai,a0.age,a0.tasks,a0.run,a0.left,a0.turns,a0.next) u4 n4 (λy3=>some y3)) k ((0:Int),(0:Int))
def lX (k:Nat) (a0:ak) (a1:Int):Option (Int):=
 (dz k a0 a0.run).bind λr1=>cond (decide (r1>=0)) ((idx a0.tasks r1).bind λe2=>cond (decide (e2.due>a1)) (some a0.left) (some (0:Int))) (some (0:Int))
def lY (k:Nat) (a0:Task) (a1:ak):Option (Bool):=
 (dm k a1 a0).bind λr1=>cond (r1) (cond (decide (a1.now=a1.now)) (cond (decide (a1.ai=a1.ai)) (cond (decide (a1.age=a1.age)) (cond (decide (a1.tasks=a1.tasks)) (cond (decide (a1.run=a1.run)) (cond (decide (a1.left=a1.left)) (cond (decide (a1.turns=a1.turns)) (cond (decide (a1.next=a1.next)) (some true) none) none) none) none) none) none) none) none) ((kG k a1 a0.due).bind λr2=>(lX k a1 a0.due).bind λr3=>cond (decide (a1.now=a1.now)) (cond (decide (a1.ai=a1.ai)) (cond (decide (a1.age=a1.age)) (cond (decide (a1.tasks=a1.tasks)) (cond (decide (a1.run=a1.run)) (cond (decide (a1.left=a1.left)) (cond (decide (a1.turns=a1.turns)) (cond (decide (a1.next=a1.next)) (some (decide ((i64.wrap ((i64.wrap (r2+r3))+a1.ai))>(i64.wrap (a0.due-a1.now))))) none) none) none) none) none) none) none) none)
def bS {ρ:Type} (k:Nat) (p:List Task× Int× Int× Int× Int× List Task× Int× Int× Int× Int) (v:Int) (next:Int->Option ρ) (x0:Unit->Option ρ) (dE:Int->Option ρ):Option ρ:=
 cond (decide (v<p.2.1)) ((idx p.1 v).bind λe1=>(lY k e1 (⟨p.2.2.1,p.2.2.2.1,p.2.2.2.2.1,p.2.2.2.2.2.1,p.2.2.2.2.2.2.1,p.2.2.2.2.2.2.2.1,p.2.2.2.2.2.2.2.2.1,p.2.2.2.2.2.2.2.2.2⟩:ak)).bind λr2=>cond (r2) (dE v) (next (i64.wrap (v+1)))) (x0 ())
def di (k:Nat) (a0:List Task) (eM:ak):Option (Int):=
 iter (λu5 n5=>bS k (a0,(a0.length:Int),eM.now,eM.ai,eM.age,eM.tasks,eM.run,eM.left,eM.turns,eM.next) u5 n5 (λy3=>cond (decide (eM.now=eM.now)) (cond (decide (eM.ai=eM.ai)) (cond (decide (eM.age=eM.age)) (cond (decide (eM.tasks=eM.tasks)) (cond (decide (eM.run=eM.run)) (cond (decide (eM.left=eM.left)) (cond (decide (eM.turns=eM.turns)) (cond (decide (eM.next=eM.next)) (some (-1:Int)) none) none) none) none) none) none) none) none) (λy4=>cond (decide (eM.now=eM.now)) (cond (decide (eM.ai=eM.ai)) (cond (decide (eM.age=eM.age)) (cond (decide (eM.tasks=eM.tasks)) (cond (decide (eM.run=eM.run)) (cond (decide (eM.left=eM.left)) (cond (decide (eM.turns=eM.turns)) (cond (decide (eM.next=eM.next)) (some y4) none) none) none) none) none) none) none) none)) k (0:Int)
def cT (k:Nat) (a0:List Task) (eM:ak):Option (Bool):=
 (di k a0 eM).bind λr1=>cond (decide (eM.now=eM.now)) (cond (decide (eM.ai=eM.ai)) (cond (decide (eM.age=eM.age)) (cond (decide (eM.tasks=eM.tasks)) (cond (decide (eM.run=eM.run)) (cond (decide (eM.left=eM.left)) (cond (decide (eM.turns=eM.turns)) (cond (decide (eM.next=eM.next)) (some (decide (r1>=0))) none) none) none) none) none) none) none) none
def Ab (k:Nat) (a0:ak):Option (Bool):=
 (nc k a0).bind λr1=>cond (r1) ((cT k a0.tasks a0).bind λr2=>some (!r2)) (some false)
def FA (k:Nat) (a0:ak) (a1:List Int) (a2:Int):Option (ak× Int× Int):=
 (bY k a1).bind λr1=>(gi k a0).bind λr2=>(nc k a0).bind λr3=>cond (!r3) (some (r2,(0:Int),(1:Int))) ((vX k (⟨a0.next,r1,(0:Int),a2,a0.now⟩:Task)).bind λr4=>cond (!r4) (some (r2,(0:Int),(1:Int))) (cond ((a0.tasks.length:Int)==(12:Int)) (some (r2,(0:Int),(2:Int))) (cond (a0.next==1000000) (some (r2,(0:Int),(2:Int))) ((gi k a0).bind λr5=>cond (Nat.ble (r5.tasks.length+1) aG) ((Ab k (⟨r5.now,r5.ai,r5.age,(r5.tasks++[(⟨a0.next,r1,(0:Int),a2,a0.now⟩:Task)]),r5.run,r5.left,r5.turns,(i64.wrap (r5.next+1))⟩:ak)).bind λr6=>cond (!r6) (some (r2,(0:Int),(3:Int))) (some ((⟨r5.now,r5.ai,r5.age,(r5.tasks++[(⟨a0.next,r1,(0:Int),a2,a0.now⟩:Task)]),r5.run,r5.left,r5.turns,(i64.wrap (r5.next+1))⟩:ak),a0.next,(0:Int)))) none))))
end
end
set_option maxRecDepth 100000
section
noncomputable section
def iA {ρ:Type} (k:Nat) (p:Int× Int× Int× Int× Int× Int× Int× Int× List dY) (v:Int× List dY) (next:(Int× List dY)->Option ρ) (x0:(List dY)->Option ρ):Option ρ:=
 cond (decide (v.1<(p.2.2.2.2.2.2.2.2.length:Int))) (cond (decide (0<=v.1/\v.1<(p.2.2.2.2.2.2.2.2.length:Int))) ((p.2.2.2.2.2.2.2.2[v.1.toNat]?).bind λe1=>cond (e1.id !=p.1) (cond (decide (0<=v.1/\v.1<(p.2.2.2.2.2.2.2.2.length:Int))) ((p.2.2.2.2.2.2.2.2[v.1.toNat]?).bind λe2=>cond (Nat.ble (v.2.length+[e2].length) aG) (next (i64.wrap (v.1+1),v.2++[e2])) none) none) (next (i64.wrap (v.1+1),v.2))) none) (x0 v.2)
def gF (k:Nat) (ke:Int) (lD:Int) (lE:Int) (pL:List dY) (BI:Int) (FB:Int) (xE:Int) (om:Int) (a1:Int):Option (List dY):=
 iter (λu4 n4=>iA k (a1,ke,lD,lE,BI,FB,xE,om,pL) u4 n4 (λy3=>cond (decide (ke=ke)) (cond (decide (lD=lD)) (cond (decide (lE=lE)) (cond (decide (BI=BI)) (cond (decide (FB=FB)) (cond (decide (xE=xE)) (cond (decide (om=om)) (some y3) none) none) none) none) none) none) none)) k ((0:Int),([]:List dY))
def lf (k:Nat) (a0:ak) (a1:Int):Option (ak× Bool):=
 (m9 k a0).bind λr1=>(fA k a0).bind λr2=>cond (!r2) (some (r1,false)) ((lL k a0 a1).bind λr3=>cond (decide (r3<0)) (some (r1,false)) ((lJ r1.tasks).bind λy4=>(gF k r1.now r1.ai r1.age y4 r1.run r1.left r1.turns r1.next a1).bind λr5=>cond (j8 r5) ((qS r1.tasks r5).bind λz6=>cond (r1.run==a1) (some ((⟨r1.now,r1.ai,r1.age,z6,(0:Int),(0:Int),r1.turns,r1.next⟩:ak),true)) (some ((⟨r1.now,r1.ai,r1.age,z6,r1.run,r1.left,r1.turns,r1.next⟩:ak),true))) none))
def eB (k:Nat) (a0:dY) (Fz:Int):Option (Bool):=
 cond (decide (Fz=Fz)) (some (a0.id==Fz)) none
def bT {ρ:Type} (k:Nat) (p:List dY× Int× Int) (v:Int) (next:Int->Option ρ) (x0:Unit->Option ρ) (dE:Int->Option ρ):Option ρ:=
 cond (decide (v<p.2.1)) ((idx p.1 v).bind λe1=>(eB k e1 p.2.2).bind λr2=>cond (r2) (dE v) (next (i64.wrap (v+1)))) (x0 ())
def cc (k:Nat) (a0:List dY) (dD:Int):Option (Int):=
 iter (λu5 n5=>bT k (a0,(a0.length:Int),dD) u5 n5 (λy3=>cond (decide (dD=dD)) (some (-1:Int)) none) (λy4=>cond (decide (dD=dD)) (some y4) none)) k (0:Int)
def aZ {ρ:Type} (k:Nat) (p:Int) (v:Int× Int× List dY) (next:(Int× Int× List dY)->Option ρ) (x0:(Int× List dY)->Option ρ):Option ρ:=
 cond (decide (v.2.1<(v.2.2.length:Int))) (cond (decide (0<=v.2.1/\v.2.1<(v.2.2.length:Int))) ((v.2.2[v.2.1.toNat]?).bind λe2=>(eB k e2 p).bind λr3=>cond (!r3) (cond (decide (0<=v.1/\v.1<(v.2.2.length:Int))) (next (i64.wrap (v.1+1),i64.wrap (v.2.1+1),v.2.2.set v.1.toNat e2)) none) (next (v.1,i64.wrap (v.2.1+1),v.2.2))) none) (x0 (v.1,v.2.2))
def bz (k:Nat) (a0:List dY) (dD:Int):Option (List dY):=
 (cc k a0 dD).bind λr1=>cond (r1==(-1:Int)) (cond (decide (dD=dD)) (some a0) none) (iter (λu5 n5=>aZ k dD u5 n5 (λy4=>cond (decide (0<=y4.1/\y4.1<=(y4.2.length:Int))) (cond (decide (0<=y4.1/\y4.1<=(((y4.2).take y4.1.toNat++List.replicate (y4.2.length-y4.1.toNat) (⟨(0:Int),(0:Nat),(0:Int),(0:Int),(0:Int)⟩:dY)++(y4.2).drop (y4.1.toNat+(y4.2.length-y4.1.toNat))).length:Int))) (cond (decide (dD=dD)) (some (((y4.2).take y4.1.toNat++List.replicate (y4.2.length-y4.1.toNat) (⟨(0:Int),(0:Nat),(0:Int),(0:Int),(0:Int)⟩:dY)++(y4.2).drop (y4.1.toNat+(y4.2.length-y4.1.toNat))).take (y4.1.toNat-0))) none) none) none)) k (r1,i64.wrap (r1+1),a0))
def dN (k:Nat) (ke:Int) (lD:Int) (lE:Int) (pL:List dY) (BI:Int) (FB:Int) (xE:Int) (om:Int) (a1:Int):Option (List dY× Int× Int):=
 (bz k pL a1).bind λr1=>cond (BI==a1) (cond (decide (ke=ke)) (cond (decide (lD=lD)) (cond (decide (lE=lE)) (cond (decide (xE=xE)) (cond (decide (om=om)) (some (r1,(0:Int),(0:Int))) none) none) none) none) none) (cond (decide (ke=ke)) (cond (decide (lD=lD)) (cond (decide (lE=lE)) (cond (decide (xE=xE)) (cond (decide (om=om)) (some (r1,BI,FB)) none) none) none) none) none)
end
end
end Go.Proofs.Ev
