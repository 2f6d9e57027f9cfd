/- Typed functions and what holds of them: part 1. -/
import Derived.Test.YtpiopmjbcadfbaaGreatEvK6
import Derived.Test.YtpiopmjbcadfbaaGreatEvK7
set_option linter.unusedVariables false
set_option linter.unusedSimpArgs false
set_option linter.unusedSectionVars false
namespace Go.Proofs.Ev
set_option maxRecDepth 100000
section
noncomputable section
def s3 (k:Nat) (a0:List Int) (a1:Int):Option (Int):=
 cond (decide ((IntKind.i64.wrap (a1-(a0.length:Int)))<(0:Int))) (some (-1:Int)) (some (IntKind.i64.wrap (a1-(a0.length:Int))))
def uQ (k:Nat) (a0:av) (a1:Int):Option (Int):=
 (s3 k a0.data a1).bind λr1=>cond (decide (r1<(0:Int))) (some (-1:Int)) (some r1)
def xG (k:Nat) (a0:Shape):Option (Shape):=
 some a0
def nZ {ρ:Type} (k:Nat) (p:List Int) (v:Int× List Int) (next:(Int× List Int)->Option ρ) (x0:(List Int)->Option ρ):Option ρ:=
 cond (decide (v.1<(p.length:Int))) ((idx p v.1).bind λe1=>cond (decide (0<=v.1/\v.1<(v.2.length:Int))) (next (IntKind.i64.wrap (v.1+(1:Int)),v.2.set v.1.toNat e1)) none) (x0 v.2)
def s4 (k:Nat) (a0:List Int):Option (List Int):=
 cond (decide (0<=(a0.length:Int)/\(a0.length:Int)<=(a0.length:Int)/\(a0.length:Int)<=(aT:Int))) (iter (λu3 n3=>nZ k a0 u3 n3 (λy2=>some y2)) k ((0:Int),List.replicate ((a0.length:Int).toNat) (0:Int))) none
def qw (k:Nat) (a0:av):Option (av):=
 (xG k a0.sh).bind λr1=>(s4 k a0.data).bind λr2=>some (⟨r1,r2⟩:av)
def jH {ρ:Type} (k:Nat) (p:List Int) (v:Int× List Int) (next:(Int× List Int)->Option ρ) (x0:(List Int)->Option ρ):Option ρ:=
 cond (decide (v.1<(p.length:Int))) ((idx p v.1).bind λe1=>cond (Nat.ble (v.2.length+[e1].length) aT) (next (IntKind.i64.wrap (v.1+(1:Int)),v.2++[e1])) none) (x0 v.2)
def jI (k:Nat) (a0:List Int):Option (List Int):=
 iter (λu3 n3=>jH k a0 u3 n3 (λy2=>some y2)) k ((0:Int),([]:List Int))
def nc (k:Nat) (a0:av):Option (av):=
 (jI k a0.data).bind λr1=>some (⟨a0.sh,r1⟩:av)
def cf (k:Nat) (a0:Int) (a1:Int) (a2:Int):Option (Bool):=
 cond (decide (a1<=a0)) (some (decide (a0<=a2))) (some false)
def jJ (k:Nat) (a0:Shape):Option (Bool):=
 (cf k a0.h (1:Int) (8:Int)).bind λr1=>cond (r1) ((cf k a0.w (1:Int) (8:Int)).bind λr2=>cond (r2) ((cf k a0.c (1:Int) (8:Int)).bind λr3=>some r3) (some false)) (some false)
def dy (k:Nat) (a0:Shape):Option (Int):=
 (jJ k a0).bind λr1=>cond (!r1) (some (0:Int)) (some (IntKind.i64.wrap ((IntKind.i64.wrap (a0.h*a0.w))*a0.c)))
def gB (k:Nat) (a0:Int):Option (Bool):=
 (cf k a0 (-128:Int) (127:Int)).bind λr1=>some r1
def ku {ρ:Type} (k:Nat) (p:Int× Int× Int× List Int) (v:Int) (next:Int->Option ρ) (x0:Unit->Option ρ) (xret:Bool->Option ρ):Option ρ:=
 cond (decide (v<(p.2.2.2.length:Int))) ((idx p.2.2.2 v).bind λe3=>(gB k e3).bind λr4=>cond (!r4) (xret false) (next (IntKind.i64.wrap (v+(1:Int))))) (x0 ())
def kY (k:Nat) (a0:av):Option (Bool):=
 (jJ k a0.sh).bind λr1=>cond (!r1) (some false) ((dy k a0.sh).bind λr2=>cond ((a0.data.length:Int) !=r2) (some false) (iter (λu7 n7=>ku k (a0.sh.h,a0.sh.w,a0.sh.c,a0.data) u7 n7 (λy5=>some true) (λy6=>some y6)) k (0:Int)))
def bS (k:Nat) (a0:List Int):Option (List Int):=
 cond (isNil a0) (both (some ([]:List Int)) (cond (Nat.ble (([]:List Int).length+a0.length) aT) (some (([]:List Int)++a0)) none)) (cond (Nat.ble (([]:List Int).length+a0.length) aT) (some (([]:List Int)++a0)) none)
def fM (k:Nat) (a0:av):Option (av):=
 (bS k a0.data).bind λr1=>some (⟨a0.sh,r1⟩:av)
def rr (k:Nat) (a0:Int) (a1:Int) (a2:Int):Option (Bool):=
 cond (decide (a1<=a0)) (some (decide (a0<=a2))) (some false)
def nd (k:Nat) (a0:Shape):Option (Bool):=
 (rr k a0.h (1:Int) (8:Int)).bind λr1=>cond (r1) ((rr k a0.w (1:Int) (8:Int)).bind λr2=>cond (r2) ((rr k a0.c (1:Int) (8:Int)).bind λr3=>some r3) (some false)) (some false)
def jq (k:Nat) (a0:Shape):Option (Int):=
 (nd k a0).bind λr1=>cond (!r1) (some (0:Int)) (some (IntKind.i64.wrap ((IntKind.i64.wrap (a0.h*a0.w))*a0.c)))
def oa (k:Nat) (a0:Int):Option (Bool):=
 (rr k a0 (-128:Int) (127:Int)).bind λr1=>some (!r1)
def aI {ρ:Type} (k:Nat) (p:List Int× Int) (v:Int) (next:Int->Option ρ) (x0:Unit->Option ρ) (xret:Int->Option ρ):Option ρ:=
 cond (decide (v<p.2)) ((idx p.1 v).bind λe1=>(oa k e1).bind λr2=>cond (r2) (xret v) (next (IntKind.i64.wrap (v+(1:Int))))) (x0 ())
def bz (k:Nat) (a0:List Int):Option (Int):=
 iter (λu5 n5=>aI k (a0,(a0.length:Int)) u5 n5 (λy3=>some (-1:Int)) (λy4=>some y4)) k (0:Int)
def ba (k:Nat) (a0:List Int):Option (Bool):=
 (bz k a0).bind λr1=>some (decide (r1>=(0:Int)))
def ng (k:Nat) (a0:List Int):Option (Bool):=
 (ba k a0).bind λr1=>some (!r1)
def nh (k:Nat) (a0:av):Option (Bool):=
 (nd k a0.sh).bind λr1=>cond (r1) ((jq k a0.sh).bind λr2=>cond ((a0.data.length:Int)==r2) ((ng k a0.data).bind λr3=>some r3) (some false)) (some false)
def xH (k:Nat) (a0:Shape) (a1:Shape):Option (Bool):=
 cond (a0.h !=a1.h) (some false) (cond (a0.w !=a1.w) (some false) (cond (a0.c !=a1.c) (some false) (some true)))
def xI {ρ:Type} (k:Nat) (p:List Int× List Int) (v:Int) (next:Int->Option ρ) (x0:Unit->Option ρ) (xret:Bool->Option ρ):Option ρ:=
 cond (decide (v<(p.1.length:Int))) ((idx p.1 v).bind λe1=>(idx p.2 v).bind λe2=>cond (e1 !=e2) (xret false) (next (IntKind.i64.wrap (v+(1:Int))))) (x0 ())
def oc (k:Nat) (a0:List Int) (a1:List Int):Option (Bool):=
 cond ((a0.length:Int) !=(a1.length:Int)) (some false) (iter (λu5 n5=>xI k (a0,a1) u5 n5 (λy3=>some true) (λy4=>some y4)) k (0:Int))
def uR (k:Nat) (a0:av) (a1:av):Option (Bool):=
 (xH k a0.sh a1.sh).bind λr1=>cond (!r1) (some false) ((oc k a0.data a1.data).bind λr2=>cond (!r2) (some false) (some true))
def fv {ρ:Type} (k:Nat) (p:Unit) (v:Int× Int× List Int) (next:(Int× Int× List Int)->Option ρ) (x0:(Int× List Int)->Option ρ):Option ρ:=
 cond (decide (v.2.1<(v.2.2.length:Int))) (cond (decide (0<=v.2.1/\v.2.1<(v.2.2.length:Int))) (next (IntKind.i64.wrap (v.1+(1:Int)),IntKind.i64.wrap (v.2.1+(1:Int)),v.2.2.set v.2.1.toNat v.1)) none) (x0 (v.1,v.2.2))
def kv (k:Nat) (a0:List Int) (a1:Int):Option (Int× List Int):=
 iter (λu2 n2=>fv k () u2 n2 (λy1=>some (y1.1,y1.2))) k (a1,(0:Int),a0)
def iw {ρ:Type} (k:Nat) (p:List Int) (v:Int× Int) (next:(Int× Int)->Option ρ) (x0:Int->Option ρ) (xret:Int->Option ρ):Option ρ:=
 cond (decide (v.2<(p.length:Int))) ((idx p v.2).bind λe1=>cond (e1 !=v.1) (xret (-1:Int)) (next (IntKind.i64.wrap (v.1+(1:Int)),IntKind.i64.wrap (v.2+(1:Int))))) (x0 v.1)
def ni (k:Nat) (a0:List Int) (a1:Int):Option (Int):=
 iter (λu4 n4=>iw k a0 u4 n4 (λy2=>some y2) (λy3=>some y3)) k (a1,(0:Int))
def pK (k:Nat) (a0:List Int) (a1:Int):Option (Int):=
 cond (decide ((IntKind.i64.wrap (a1-(a0.length:Int)))<(0:Int))) (some (-1:Int)) (some (IntKind.i64.wrap (a1-(a0.length:Int))))
def wj (k:Nat) (a0:Step) (a1:Int):Option (Int):=
 (pK k a0.data a1).bind λr1=>cond (decide (r1<(0:Int))) (some (-1:Int)) ((uQ k a0.input r1).bind λr2=>cond (decide (r2<(0:Int))) (some (-1:Int)) (some r2))
def l5 {ρ:Type} (k:Nat) (p:List Int) (v:Int× List Int) (next:(Int× List Int)->Option ρ) (x0:(List Int)->Option ρ):Option ρ:=
 cond (decide (v.1<(p.length:Int))) ((idx p v.1).bind λe1=>cond (decide (0<=v.1/\v.1<(v.2.length:Int))) (next (IntKind.i64.wrap (v.1+(1:Int)),v.2.set v.1.toNat e1)) none) (x0 v.2)
def pL (k:Nat) (a0:List Int):Option (List Int):=
 cond (decide (0<=(a0.length:Int)/\(a0.length:Int)<=(a0.length:Int)/\(a0.length:Int)<=(aT:Int))) (iter (λu3 n3=>l5 k a0 u3 n3 (λy2=>some y2)) k ((0:Int),List.replicate ((a0.length:Int).toNat) (0:Int))) none
def s5 (k:Nat) (a0:Step):Option (Step):=
 (pL k a0.data).bind λr1=>(qw k a0.input).bind λr2=>some (⟨a0.kind,a0.a,a0.b,r1,r2⟩:Step)
def od (k:Nat) (a0:List Int) (a1:List Int):Option (Bool):=
 some ((bytesOf a0)==(bytesOf a1))
def vx {ρ:Type} (k:Nat) (p:List Int× List Int) (v:Int) (next:Int->Option ρ) (x0:Unit->Option ρ) (xret:Bool->Option ρ):Option ρ:=
 cond (decide (v<(p.1.length:Int))) ((idx p.1 v).bind λe1=>(idx p.2 v).bind λe2=>cond (e1 !=e2) (xret false) (next (IntKind.i64.wrap (v+(1:Int))))) (x0 ())
def s6 (k:Nat) (a0:List Int) (a1:List Int):Option (Bool):=
 cond ((a0.length:Int) !=(a1.length:Int)) (some false) (iter (λu5 n5=>vx k (a0,a1) u5 n5 (λy3=>some true) (λy4=>some y4)) k (0:Int))
def wm (k:Nat) (a0:Step) (a1:Step):Option (Bool):=
 cond (a0.kind !=a1.kind) (some false) (cond (a0.a !=a1.a) (some false) (cond (a0.b !=a1.b) (some false) ((s6 k a0.data a1.data).bind λr1=>cond (!r1) (some false) ((uR k a0.input a1.input).bind λr2=>cond (!r2) (some false) (some true)))))
def jK {ρ:Type} (k:Nat) (p:List Step) (v:Int× Int) (next:(Int× Int)->Option ρ) (x0:Int->Option ρ) (xret:Int->Option ρ):Option ρ:=
 cond (decide (v.2<(p.length:Int))) ((idx p v.2).bind λe1=>(wj k e1 v.1).bind λr2=>cond (decide (r2<(0:Int))) (xret (-1:Int)) (next (r2,IntKind.i64.wrap (v.2+(1:Int))))) (x0 v.1)
def xJ (k:Nat) (a0:List Step) (a1:Int):Option (Int):=
 cond (decide ((IntKind.i64.wrap (a1-(a0.length:Int)))<(0:Int))) (some (-1:Int)) (iter (λu5 n5=>jK k a0 u5 n5 (λy3=>some y3) (λy4=>some y4)) k (IntKind.i64.wrap (a1-(a0.length:Int)),(0:Int)))
def jL {ρ:Type} (k:Nat) (p:List Step) (v:Int× List Step) (next:(Int× List Step)->Option ρ) (x0:(List Step)->Option ρ):Option ρ:=
 cond (decide (v.1<(p.length:Int))) ((idx p v.1).bind λe1=>(s5 k e1).bind λr2=>cond (decide (0<=v.1/\v.1<(v.2.length:Int))) (next (IntKind.i64.wrap (v.1+(1:Int)),v.2.set v.1.toNat r2)) none) (x0 v.2)
def nj (k:Nat) (a0:List Step):Option (List Step):=
 cond (decide (0<=(a0.length:Int)/\(a0.length:Int)<=(a0.length:Int)/\(a0.length:Int)<=(aT:Int))) (iter (λu4 n4=>jL k a0 u4 n4 (λy3=>some y3)) k ((0:Int),List.replicate ((a0.length:Int).toNat) (⟨(0:Int),(0:Int),(0:Int),([]:List Int),(⟨(⟨(0:Int),(0:Int),(0:Int)⟩:Shape),([]:List Int)⟩:av)⟩:Step))) none
def jM {ρ:Type} (k:Nat) (p:List Step× List Step) (v:Int) (next:Int->Option ρ) (x0:Unit->Option ρ) (xret:Bool->Option ρ):Option ρ:=
 cond (decide (v<(p.1.length:Int))) ((idx p.1 v).bind λe1=>(idx p.2 v).bind λe2=>(wm k e1 e2).bind λr3=>cond (!r3) (xret false) (next (IntKind.i64.wrap (v+(1:Int))))) (x0 ())
def xK (k:Nat) (a0:List Step) (a1:List Step):Option (Bool):=
 cond ((a0.length:Int) !=(a1.length:Int)) (some false) (iter (λu6 n6=>jM k (a0,a1) u6 n6 (λy4=>some true) (λy5=>some y5)) k (0:Int))
end
end
set_option maxRecDepth 100000
section
noncomputable section
end
end
set_option maxRecDepth 100000
section
noncomputable section
def eQ {ρ:Type} (k:Nat) (p:Unit) (v:Int× Int× List Int) (next:(Int× Int× List Int)->Option ρ) (x0:(Int× List Int)->Option ρ):Option ρ:=
 cond (decide (v.2.1<(v.2.2.length:Int))) (cond (decide (0<=v.2.1/\v.2.1<(v.2.2.length:Int))) (next (IntKind.i64.wrap (v.1+(1:Int)),IntKind.i64.wrap (v.2.1+(1:Int)),v.2.2.set v.2.1.toNat (IntKind.u8.wrap (v.1)))) none) (x0 (v.1,v.2.2))
def mK (k:Nat) (a0:List Int) (a1:Int):Option (Int× List Int):=
 iter (λu2 n2=>eQ k () u2 n2 (λy1=>some (y1.1,y1.2))) k (a1,(0:Int),a0)
def eR {ρ:Type} (k:Nat) (p:Unit) (v:Int× Int× List Step) (next:(Int× Int× List Step)->Option ρ) (x0:(Int× List Step)->Option ρ):Option ρ:=
 cond (decide (v.2.1<(v.2.2.length:Int))) (cond (decide (0<=v.2.1/\v.2.1<(v.2.2.length:Int))) ((v.2.2[v.2.1.toNat]?).bind λe1=>cond (decide (0<=v.2.1/\v.2.1<((v.2.2.set v.2.1.toNat (⟨v.1,e1.a,e1.b,e1.data,e1.input⟩:Step)).length:Int))) (((v.2.2.set v.2.1.toNat (⟨v.1,e1.a,e1.b,e1.data,e1.input⟩:Step))[v.2.1.toNat]?).bind λe2=>cond (decide (0<=v.2.1/\v.2.1<(((v.2.2.set v.2.1.toNat (⟨v.1,e1.a,e1.b,e1.data,e1.input⟩:Step)).set v.2.1.toNat (⟨e2.kind,(IntKind.i64.wrap (v.1+(1:Int))),e2.b,e2.data,e2.input⟩:Step)).length:Int))) ((((v.2.2.set v.2.1.toNat (⟨v.1,e1.a,e1.b,e1.data,e1.input⟩:Step)).set v.2.1.toNat (⟨e2.kind,(IntKind.i64.wrap (v.1+(1:Int))),e2.b,e2.data,e2.input⟩:Step))[v.2.1.toNat]?).bind λe3=>cond (decide (0<=v.2.1/\v.2.1<((((v.2.2.set v.2.1.toNat (⟨v.1,e1.a,e1.b,e1.data,e1.input⟩:Step)).set v.2.1.toNat (⟨e2.kind,(IntKind.i64.wrap (v.1+(1:Int))),e2.b,e2.data,e2.input⟩:Step)).set v.2.1.toNat (⟨e3.kind,e3.a,(IntKind.i64.wrap ((IntKind.i64.wrap (v.1+(1:Int)))+(1:Int))),e3.data,e3.input⟩:Step)).length:Int))) (((((v.2.2.set v.2.1.toNat (⟨v.1,e1.a,e1.b,e1.data,e1.input⟩:Step)).set v.2.1.toNat (⟨e2.kind,(IntKind.i64.wrap (v.1+(1:Int))),e2.b,e2.data,e2.input⟩:Step)).set v.2.1.toNat (⟨e3.kind,e3.a,(IntKind.i64.wrap ((IntKind.i64.wrap (v.1+(1:Int)))+(1:Int))),e3.data,e3.input⟩:Step))[v.2.1.toNat]?).bind λe4=>(mK k e4.data (IntKind.i64.wrap ((IntKind.i64.wrap ((IntKind.i64.wrap (v.1+(1:Int)))+(1:Int)))+(1:Int)))).bind λr5=>cond (decide (0<=v.2.1/\v.2.1<(((((v.2.2.set v.2.1.toNat (⟨v.1,e1.a,e1.b,e1.data,e1.input⟩:Step)).set v.2.1.toNat (⟨e2.kind,(IntKind.i64.wrap (v.1+(1:Int))),e2.b,e2.data,e2.input⟩:Step)).set v.2.1.toNat (⟨e3.kind,e3.a,(IntKind.i64.wrap ((IntKind.i64.wrap (v.1+(1:Int)))+(1:Int))),e3.data,e3.input⟩:Step)).set v.2.1.toNat (⟨e4.kind,e4.a,e4.b,r5.2,e4.input⟩:Step)).length:Int))) ((((((v.2.2.set v.2.1.toNat (⟨v.1,e1.a,e1.b,e1.data,e1.input⟩:Step)).set v.2.1.toNat (⟨e2.kind,(IntKind.i64.wrap (v.1+(1:Int))),e2.b,e2.data,e2.input⟩:Step)).set v.2.1.toNat (⟨e3.kind,e3.a,(IntKind.i64.wrap ((IntKind.i64.wrap (v.1+(1:Int)))+(1:Int))),e3.data,e3.input⟩:Step)).set v.2.1.toNat (⟨e4.kind,e4.a,e4.b,r5.2,e4.input⟩:Step))[v.2.1.toNat]?).bind λe6=>cond (decide (0<=v.2.1/\v.2.1<((((((v.2.2.set v.2.1.toNat (⟨v.1,e1.a,e1.b,e1.data,e1.input⟩:Step)).set v.2.1.toNat (⟨e2.kind,(IntKind.i64.wrap (v.1+(1:Int))),e2.b,e2.data,e2.input⟩:Step)).set v.2.1.toNat (⟨e3.kind,e3.a,(IntKind.i64.wrap ((IntKind.i64.wrap (v.1+(1:Int)))+(1:Int))),e3.data,e3.input⟩:Step)).set v.2.1.toNat (⟨e4.kind,e4.a,e4.b,r5.2,e4.input⟩:Step)).set v.2.1.toNat (⟨e6.kind,e6.a,e6.b,e6.data,(⟨(⟨r5.1,e6.input.sh.w,e6.input.sh.c⟩:Shape),e6.input.data⟩:av)⟩:Step)).length:Int))) (((((((v.2.2.set v.2.1.toNat (⟨v.1,e1.a,e1.b,e1.data,e1.input⟩:Step)).set v.2.1.toNat (⟨e2.kind,(IntKind.i64.wrap (v.1+(1:Int))),e2.b,e2.data,e2.input⟩:Step)).set v.2.1.toNat (⟨e3.kind,e3.a,(IntKind.i64.wrap ((IntKind.i64.wrap (v.1+(1:Int)))+(1:Int))),e3.data,e3.input⟩:Step)).set v.2.1.toNat (⟨e4.kind,e4.a,e4.b,r5.2,e4.input⟩:Step)).set v.2.1.toNat (⟨e6.kind,e6.a,e6.b,e6.data,(⟨(⟨r5.1,e6.input.sh.w,e6.input.sh.c⟩:Shape),e6.input.data⟩:av)⟩:Step))[v.2.1.toNat]?).bind λe7=>cond (decide (0<=v.2.1/\v.2.1<(((((((v.2.2.set v.2.1.toNat (⟨v.1,e1.a,e1.b,e1.data,e1.input⟩:Step)).set v.2.1.toNat (⟨e2.kind,(IntKind.i64.wrap (v.1+(1:Int))),e2.b,e2.data,e2.input⟩:Step)).set v.2.1.toNat (⟨e3.kind,e3.a,(IntKind.i64.wrap ((IntKind.i64.wrap (v.1+(1:Int)))+(1:Int))),e3.data,e3.input⟩:Step)).set v.2.1.toNat (⟨e4.kind,e4.a,e4.b,r5.2,e4.input⟩:Step)).set v.2.1.toNat (⟨e6.kind,e6.a,e6.b,e6.data,(⟨(⟨r5.1,e6.input.sh.w,e6.input.sh.c⟩:Shape),e6.input.data⟩:av)⟩:Step)).set v.2.1.toNat (⟨e7.kind,e7.a,e7.b,e7.data,(⟨(⟨e7.input.sh.h,(IntKind.i64.wrap (r5.1+(1:Int))),e7.input.sh.c⟩:Shape),e7.input.data⟩:av)⟩:Step)).length:Int))) ((((((((v.2.2.set v.2.1.toNat (⟨v.1,e1.a,e1.b,e1.data,e1.input⟩:Step)).set v.2.1.toNat (⟨e2.kind,(IntKind.i64.wrap (v.1+(1:Int))),e2.b,e2.data,e2.input⟩:Step)).set v.2.1.toNat (⟨e3.kind,e3.a,(IntKind.i64.wrap ((IntKind.i64.wrap (v.1+(1:Int)))+(1:Int))),e3.data,e3.input⟩:Step)).set v.2.1.toNat (⟨e4.kind,e4.a,e4.b,r5.2,e4.input⟩:Step)).set v.2.1.toNat (⟨e6.kind,e6.a,e6.b,e6.data,(⟨(⟨r5.1,e6.input.sh.w,e6.input.sh.c⟩:Shape),e6.input.data⟩:av)⟩:Step)).set v.2.1.toNat (⟨e7.kind,e7.a,e7.b,e7.data,(⟨(⟨e7.input.sh.h,(IntKind.i64.wrap (r5.1+(1:Int))),e7.input.sh.c⟩:Shape),e7.input.data⟩:av)⟩:Step))[v.2.1.toNat]?).bind λe8=>cond (decide (0<=v.2.1/\v.2.1<((((((((v.2.2.set v.2.1.toNat (⟨v.1,e1.a,e1.b,e1.data,e1.input⟩:Step)).set v.2.1.toNat (⟨e2.kind,(IntKind.i64.wrap (v.1+(1:Int))),e2.b,e2.data,e2.input⟩:Step)).set v.2.1.toNat (⟨e3.kind,e3.a,(IntKind.i64.wrap ((IntKind.i64.wrap (v.1+(1:Int)))+(1:Int))),e3.data,e3.input⟩:Step)).set v.2.1.toNat (⟨e4.kind,e4.a,e4.b,r5.2,e4.input⟩:Step)).set v.2.1.toNat (⟨e6.kind,e6.a,e6.b,e6.data,(⟨(⟨r5.1,e6.input.sh.w,e6.input.sh.c⟩:Shape),e6.input.data⟩:av)⟩:Step)).set v.2.1.toNat (⟨e7.kind,e7.a,e7.b,e7.data,(⟨(⟨e7.input.sh.h,(IntKind.i64.wrap (r5.1+(1:Int))),e7.input.sh.c⟩:Shape),e7.input.data⟩:av)⟩:Step)).set v.2.1.toNat (⟨e8.kind,e8.a,e8.b,e8.data,(⟨(⟨e8.input.sh.h,e8.input.sh.w,(IntKind.i64.wrap ((IntKind.i64.wrap (r5.1+(1:Int)))+(1:Int)))⟩:Shape),e8.input.data⟩:av)⟩:Step)).length:Int))) (((((((((v.2.2.set v.2.1.toNat (⟨v.1,e1.a,e1.b,e1.data,e1.input⟩:Step)).set v.2.1.toNat (⟨e2.kind,(IntKind.i64.wrap (v.1+(1:Int))),e2.b,e2.data,e2.input⟩:Step)).set v.2.1.toNat (⟨e3.kind,e3.a,(IntKind.i64.wrap ((IntKind.i64.wrap (v.1+(1:Int)))+(1:Int))),e3.data,e3.input⟩:Step)).set v.2.1.toNat (⟨e4.kind,e4.a,e4.b,r5.2,e4.input⟩:Step)).set v.2.1.toNat (⟨e6.kind,e6.a,e6.b,e6.data,(⟨(⟨r5.1,e6.input.sh.w,e6.input.sh.c⟩:Shape),e6.input.data⟩:av)⟩:Step)).set v.2.1.toNat (⟨e7.kind,e7.a,e7.b,e7.data,(⟨(⟨e7.input.sh.h,(IntKind.i64.wrap (r5.1+(1:Int))),e7.input.sh.c⟩:Shape),e7.input.data⟩:av)⟩:Step)).set v.2.1.toNat (⟨e8.kind,e8.a,e8.b,e8.data,(⟨(⟨e8.input.sh.h,e8.input.sh.w,(IntKind.i64.wrap ((IntKind.i64.wrap (r5.1+(1:Int)))+(1:Int)))⟩:Shape),e8.input.data⟩:av)⟩:Step))[v.2.1.toNat]?).bind λe9=>(kv k e9.input.data (IntKind.i64.wrap ((IntKind.i64.wrap ((IntKind.i64.wrap (r5.1+(1:Int)))+(1:Int)))+(1:Int)))).bind λr10=>next (r10.1,IntKind.i64.wrap (v.2.1+(1:Int)),(((((((v.2.2.set v.2.1.toNat (⟨v.1,e1.a,e1.b,e1.data,e1.input⟩:Step)).set v.2.1.toNat (⟨e2.kind,(IntKind.i64.wrap (v.1+(1:Int))),e2.b,e2.data,e2.input⟩:Step)).set v.2.1.toNat (⟨e3.kind,e3.a,(IntKind.i64.wrap ((IntKind.i64.wrap (v.1+(1:Int)))+(1:Int))),e3.data,e3.input⟩:Step)).set v.2.1.toNat (⟨e4.kind,e4.a,e4.b,r5.2,e4.input⟩:Step)).set v.2.1.toNat (⟨e6.kind,e6.a,e6.b,e6.data,(⟨(⟨r5.1,e6.input.sh.w,e6.input.sh.c⟩:Shape),e6.input.data⟩:av)⟩:Step)).set v.2.1.toNat (⟨e7.kind,e7.a,e7.b,e7.data,(⟨(⟨e7.input.sh.h,(IntKind.i64.wrap (r5.1+(1:Int))),e7.input.sh.c⟩:Shape),e7.input.data⟩:av)⟩:Step)).set v.2.1.toNat (⟨e8.kind,e8.a,e8.b,e8.data,(⟨(⟨e8.input.sh.h,e8.input.sh.w,(IntKind.i64.wrap ((IntKind.i64.wrap (r5.1+(1:Int)))+(1:Int)))⟩:Shape),e8.input.data⟩:av)⟩:Step)).set v.2.1.toNat (⟨e9.kind,e9.a,e9.b,e9.data,(⟨e9.input.sh,r10.2⟩:av)⟩:Step))) none) none) none) none) none) none) none) none) (x0 (v.1,v.2.2))
def mL (k:Nat) (a0:List Step) (a1:Int):Option (Int× List Step):=
 iter (λu12 n12=>eR k () u12 n12 (λy11=>some (y11.1,y11.2))) k (a1,(0:Int),a0)
def jr {ρ:Type} (k:Nat) (p:List Int) (v:Int× Int) (next:(Int× Int)->Option ρ) (x0:Int->Option ρ) (xret:Int->Option ρ):Option ρ:=
 cond (decide (v.2<(p.length:Int))) ((idx p v.2).bind λe1=>cond (e1 !=(IntKind.u8.wrap (v.1))) (xret (-1:Int)) (next (IntKind.i64.wrap (v.1+(1:Int)),IntKind.i64.wrap (v.2+(1:Int))))) (x0 v.1)
def xL (k:Nat) (a0:List Int) (a1:Int):Option (Int):=
 iter (λu4 n4=>jr k a0 u4 n4 (λy2=>some y2) (λy3=>some y3)) k (a1,(0:Int))
def jt {ρ:Type} (k:Nat) (p:List Step) (v:Int× Int) (next:(Int× Int)->Option ρ) (x0:Int->Option ρ) (xret:Int->Option ρ):Option ρ:=
 cond (decide (v.2<(p.length:Int))) ((idx p v.2).bind λe1=>cond (e1.kind !=v.1) (xret (-1:Int)) ((idx p v.2).bind λe2=>cond (e2.a !=(IntKind.i64.wrap (v.1+(1:Int)))) (xret (-1:Int)) ((idx p v.2).bind λe3=>cond (e3.b !=(IntKind.i64.wrap ((IntKind.i64.wrap (v.1+(1:Int)))+(1:Int)))) (xret (-1:Int)) ((idx p v.2).bind λe4=>(xL k e4.data (IntKind.i64.wrap ((IntKind.i64.wrap ((IntKind.i64.wrap (v.1+(1:Int)))+(1:Int)))+(1:Int)))).bind λr5=>cond (decide (r5<(0:Int))) (xret (-1:Int)) ((idx p v.2).bind λe6=>cond (e6.input.sh.h !=r5) (xret (-1:Int)) ((idx p v.2).bind λe7=>cond (e7.input.sh.w !=(IntKind.i64.wrap (r5+(1:Int)))) (xret (-1:Int)) ((idx p v.2).bind λe8=>cond (e8.input.sh.c !=(IntKind.i64.wrap ((IntKind.i64.wrap (r5+(1:Int)))+(1:Int)))) (xret (-1:Int)) ((idx p v.2).bind λe9=>(ni k e9.input.data (IntKind.i64.wrap ((IntKind.i64.wrap ((IntKind.i64.wrap (r5+(1:Int)))+(1:Int)))+(1:Int)))).bind λr10=>cond (decide (r10<(0:Int))) (xret (-1:Int)) (next (r10,IntKind.i64.wrap (v.2+(1:Int)))))))))))) (x0 v.1)
def Gc (k:Nat) (a0:List Step) (a1:Int):Option (Int):=
 iter (λu13 n13=>jt k a0 u13 n13 (λy11=>some y11) (λy12=>some y12)) k (a1,(0:Int))
def fZ {ρ:Type} (k:Nat) (p:Int× Int× Int× Int× Int× Int× Int× List Int× List Int) (v:Int) (next:Int->Option ρ) (x0:Unit->Option ρ) (xret:Bool->Option ρ):Option ρ:=
 cond (decide (v<(p.2.2.2.2.2.2.2.2.length:Int))) ((idx p.2.2.2.2.2.2.2.2 v).bind λe7=>(cf k e7 (-1000000:Int) (1000000:Int)).bind λr8=>cond (!r8) (xret false) (next (IntKind.i64.wrap (v+(1:Int))))) (x0 ())
def gd {ρ:Type} (k:Nat) (p:Int× Int× Int× Int× Int× Int× Int× List Int× List Int) (v:Int) (next:Int->Option ρ) (x2:Unit->Option ρ) (xret:Bool->Option ρ):Option ρ:=
 cond (decide (v<(p.2.2.2.2.2.2.2.1.length:Int))) ((idx p.2.2.2.2.2.2.2.1 v).bind λe10=>(gB k e10).bind λr11=>cond (!r11) (xret false) (next (IntKind.i64.wrap (v+(1:Int))))) (x2 ())
def qx (k:Nat) (a0:ax) (a1:Bool) (a2:Bool):Option (Bool):=
 cond (a1) ((cf k a0.size (1:Int) (3:Int)).bind λr1=>cond (!r1) (some false) ((cf k a0.step (1:Int) (2:Int)).bind λr2=>cond (!r2) (some false) (cond (a2) ((cf k a0.out (1:Int) (8:Int)).bind λr3=>cond (!r3) (some false) ((cf k a0.mult (0:Int) (2147483647:Int)).bind λr4=>cond (!r4) (some false) ((cf k a0.shift (0:Int) (31:Int)).bind λr5=>cond (!r5) (some false) ((gB k a0.zero).bind λr6=>cond (!r6) (some false) (cond ((a0.mR.length:Int) !=a0.out) (some false) (iter (λu16 n16=>fZ k (a0.kind,a0.out,a0.size,a0.step,a0.mult,a0.shift,a0.zero,a0.weights,a0.mR) u16 n16 (λy9=>iter (λu14 n14=>gd k (a0.kind,a0.out,a0.size,a0.step,a0.mult,a0.shift,a0.zero,a0.weights,a0.mR) u14 n14 (λy12=>some true) (λy13=>some y13)) k (0:Int)) (λy15=>some y15)) k (0:Int))))))) (cond (a0.out !=(0:Int)) (some false) (cond (a0.mult !=(0:Int)) (some false) (cond (a0.shift !=(0:Int)) (some false) (cond (decide ((a0.weights.length:Int)>(0:Int))) (some false) (cond (decide ((a0.mR.length:Int)>(0:Int))) (some false) (cond (a0.kind==(4:Int)) ((gB k a0.zero).bind λr17=>some r17) (some (a0.zero==(0:Int)))))))))))) (cond (a0.size !=(0:Int)) (some false) (cond (a0.step !=(0:Int)) (some false) (cond (a2) ((cf k a0.out (1:Int) (8:Int)).bind λr18=>cond (!r18) (some false) ((cf k a0.mult (0:Int) (2147483647:Int)).bind λr19=>cond (!r19) (some false) ((cf k a0.shift (0:Int) (31:Int)).bind λr20=>cond (!r20) (some false) ((gB k a0.zero).bind λr21=>cond (!r21) (some false) (cond ((a0.mR.length:Int) !=a0.out) (some false) (iter (λu31 n31=>fZ k (a0.kind,a0.out,a0.size,a0.step,a0.mult,a0.shift,a0.zero,a0.weights,a0.mR) u31 n31 (λy24=>iter (λu29 n29=>gd k (a0.kind,a0.out,a0.size,a0.step,a0.mult,a0.shift,a0.zero,a0.weights,a0.mR) u29 n29 (λy27=>some true) (λy28=>some y28)) k (0:Int)) (λy30=>some y30)) k (0:Int))))))) (cond (a0.out !=(0:Int)) (some false) (cond (a0.mult !=(0:Int)) (some false) (cond (a0.shift !=(0:Int)) (some false) (cond (decide ((a0.weights.length:Int)>(0:Int))) (some false) (cond (decide ((a0.mR.length:Int)>(0:Int))) (some false) (cond (a0.kind==(4:Int)) ((gB k a0.zero).bind λr32=>some r32) (some (a0.zero==(0:Int))))))))))))
def kZ (k:Nat) (a0:Shape) (a1:ax):Option (Shape× Bool):=
 (jJ k a0).bind λr1=>cond (!r1) (some ((⟨(0:Int),(0:Int),(0:Int)⟩:Shape),false)) ((cf k a1.kind (0:Int) (5:Int)).bind λr2=>cond (!r2) (some ((⟨(0:Int),(0:Int),(0:Int)⟩:Shape),false)) ((cf k a1.kind (1:Int) (3:Int)).bind λr3=>(qx k a1 r3 (decide (a1.kind<=(1:Int)))).bind λr4=>cond (!r4) (some ((⟨(0:Int),(0:Int),(0:Int)⟩:Shape),false)) (cond (r3) (cond (decide (a1.size>a0.h)) (some ((⟨(0:Int),(0:Int),(0:Int)⟩:Shape),false)) (cond (decide (a1.size>a0.w)) (some ((⟨(0:Int),(0:Int),(0:Int)⟩:Shape),false)) (cond (decide (a1.step=0)) none (cond (decide (a1.step=0)) none (cond (a1.kind==(0:Int)) ((dy k a0).bind λr5=>cond (decide (r5>(64:Int))) (some ((⟨(0:Int),(0:Int),(0:Int)⟩:Shape),false)) ((dy k a0).bind λr6=>cond ((a1.weights.length:Int) !=(IntKind.i64.wrap (a1.out*r6))) (some ((⟨(0:Int),(0:Int),(0:Int)⟩:Shape),false)) (some ((⟨(1:Int),(1:Int),a1.out⟩:Shape),true)))) (cond (a1.kind==(1:Int)) (cond ((a1.weights.length:Int) !=(IntKind.i64.wrap ((IntKind.i64.wrap ((IntKind.i64.wrap (a1.out*a1.size))*a1.size))*a0.c))) (some ((⟨(0:Int),(0:Int),(0:Int)⟩:Shape),false)) (cond (decide ((a1.weights.length:Int)>(600:Int))) (some ((⟨(0:Int),(0:Int),(0:Int)⟩:Shape),false)) (some ((⟨(IntKind.i64.wrap ((IntKind.i64.wrap ((IntKind.i64.wrap (a0.h-a1.size)).tdiv a1.step))+(1:Int))),(IntKind.i64.wrap ((IntKind.i64.wrap ((IntKind.i64.wrap (a0.w-a1.size)).tdiv a1.step))+(1:Int))),a1.out⟩:Shape),true)))) (cond (a1.kind==(5:Int)) ((dy k a0).bind λr7=>cond (decide (r7>(8:Int))) (some ((⟨(0:Int),(0:Int),(0:Int)⟩:Shape),false)) ((dy k a0).bind λr8=>some ((⟨(1:Int),(1:Int),r8⟩:Shape),true))) (some ((⟨(IntKind.i64.wrap ((IntKind.i64.wrap ((IntKind.i64.wrap (a0.h-a1.size)).tdiv a1.step))+(1:Int))),(IntKind.i64.wrap ((IntKind.i64.wrap ((IntKind.i64.wrap (a0.w-a1.size)).tdiv a1.step))+(1:Int))),a0.c⟩:Shape),true))))))))) (cond (a1.kind==(0:Int)) ((dy k a0).bind λr9=>cond (decide (r9>(64:Int))) (some ((⟨(0:Int),(0:Int),(0:Int)⟩:Shape),false)) ((dy k a0).bind λr10=>cond ((a1.weights.length:Int) !=(IntKind.i64.wrap (a1.out*r10))) (some ((⟨(0:Int),(0:Int),(0:Int)⟩:Shape),false)) (some ((⟨(1:Int),(1:Int),a1.out⟩:Shape),true)))) (cond (a1.kind==(1:Int)) (cond ((a1.weights.length:Int) !=(IntKind.i64.wrap ((IntKind.i64.wrap ((IntKind.i64.wrap (a1.out*a1.size))*a1.size))*a0.c))) (some ((⟨(0:Int),(0:Int),(0:Int)⟩:Shape),false)) (cond (decide ((a1.weights.length:Int)>(600:Int))) (some ((⟨(0:Int),(0:Int),(0:Int)⟩:Shape),false)) (some ((⟨a0.h,a0.w,a1.out⟩:Shape),true)))) (cond (a1.kind==(5:Int)) ((dy k a0).bind λr11=>cond (decide (r11>(8:Int))) (some ((⟨(0:Int),(0:Int),(0:Int)⟩:Shape),false)) ((dy k a0).bind λr12=>some ((⟨(1:Int),(1:Int),r12⟩:Shape),true))) (some (a0,true))))))))
def gC {ρ:Type} (k:Nat) (p:Int× Int× Int× List ax) (v:Int× List Shape) (next:(Int× List Shape)->Option ρ) (x0:(List Shape)->Option ρ) (xret:Bool->Option ρ):Option ρ:=
 cond (decide (v.1<(p.2.2.2.length:Int))) (cond (decide (0<=v.1/\v.1<(v.2.length:Int))) ((v.2[v.1.toNat]?).bind λe3=>(idx p.2.2.2 v.1).bind λe4=>(kZ k e3 e4).bind λr5=>cond (!r5.2) (xret false) (cond (Nat.ble (v.2.length+[r5.1].length) aT) (next (IntKind.i64.wrap (v.1+(1:Int)),v.2++[r5.1])) none)) none) (x0 v.2)
def je (k:Nat) (a0:Model):Option (List Shape× Bool):=
 (jJ k a0.inp).bind λr1=>cond (!r1) (some (([]:List Shape),false)) ((cf k (a0.aB.length:Int) (1:Int) (6:Int)).bind λr2=>cond (!r2) (some (([]:List Shape),false)) (iter (λu8 n8=>gC k (a0.inp.h,a0.inp.w,a0.inp.c,a0.aB) u8 n8 (λy6=>some (y6,true)) (λy7=>some (([]:List Shape),y7))) k ((0:Int),[a0.inp])))
def pM (k:Nat) (a0:Model):Option (Bool):=
 (je k a0).bind λr1=>some r1.2
def wo (k:Nat) (a0:Shape) (a1:ax):Option (Int):=
 (kZ k a0 a1).bind λr1=>cond (!r1.2) (some (0:Int)) ((dy k a0).bind λr2=>cond (a1.kind==(0:Int)) ((dy k r1.1).bind λr3=>(dy k a0).bind λr4=>some (IntKind.i64.wrap ((1:Int)+(IntKind.i64.wrap ((IntKind.i64.wrap (r3*r4)).tdiv (16:Int)))))) (cond (a1.kind==(1:Int)) ((dy k r1.1).bind λr5=>some (IntKind.i64.wrap ((1:Int)+(IntKind.i64.wrap ((IntKind.i64.wrap ((IntKind.i64.wrap ((IntKind.i64.wrap (r5*a1.size))*a1.size))*a0.c)).tdiv (16:Int)))))) (cond (a1.kind==(2:Int)) ((dy k r1.1).bind λr6=>some (IntKind.i64.wrap ((1:Int)+(IntKind.i64.wrap ((IntKind.i64.wrap ((IntKind.i64.wrap (r6*a1.size))*a1.size)).tdiv (16:Int)))))) (cond (a1.kind==(3:Int)) ((dy k r1.1).bind λr7=>some (IntKind.i64.wrap ((1:Int)+(IntKind.i64.wrap ((IntKind.i64.wrap ((IntKind.i64.wrap (r7*a1.size))*a1.size)).tdiv (16:Int)))))) (some (IntKind.i64.wrap ((1:Int)+(IntKind.i64.wrap (r2.tdiv (16:Int))))))))))
def jN {ρ:Type} (k:Nat) (p:Int× Int× Int× List ax× List Shape) (v:Int× List Int) (next:(Int× List Int)->Option ρ) (x0:(List Int)->Option ρ):Option ρ:=
 cond (decide (v.1<(p.2.2.2.1.length:Int))) (cond (decide (0<=v.1/\v.1<(p.2.2.2.2.length:Int))) ((p.2.2.2.2[v.1.toNat]?).bind λe2=>(idx p.2.2.2.1 v.1).bind λe3=>(wo k e2 e3).bind λr4=>cond (Nat.ble (v.2.length+[r4].length) aT) (next (IntKind.i64.wrap (v.1+(1:Int)),v.2++[r4])) none) none) (x0 v.2)
def jO (k:Nat) (a0:Model):Option (List Int):=
 (je k a0).bind λr1=>cond (!r1.2) (some ([]:List Int)) (iter (λu6 n6=>jN k (a0.inp.h,a0.inp.w,a0.inp.c,a0.aB,r1.1) u6 n6 (λy5=>some y5)) k ((0:Int),([]:List Int)))
def gD {ρ:Type} (k:Nat) (p:List Int) (v:Int× Int) (next:(Int× Int)->Option ρ) (x0:Int->Option ρ):Option ρ:=
 cond (decide (v.2<(p.length:Int))) (cond (decide (0<=v.2/\v.2<(p.length:Int))) ((p[v.2.toNat]?).bind λe2=>next (IntKind.i64.wrap (v.1+e2),IntKind.i64.wrap (v.2+(1:Int)))) none) (x0 v.1)
def oe (k:Nat) (a0:Model):Option (Int):=
 (jO k a0).bind λr1=>iter (λu4 n4=>gD k r1 u4 n4 (λy3=>some y3)) k ((0:Int),(0:Int))
def eS (k:Nat) (a0:ax):Option (Bool):=
 cond (a0.size==(0:Int)) (some (a0.step==(0:Int))) (some false)
def gN (k:Nat) (a0:Int):Option (Bool):=
 (rr k a0 (-1000000:Int) (1000000:Int)).bind λr1=>some (!r1)
def aE {ρ:Type} (k:Nat) (p:List Int× Int) (v:Int) (next:Int->Option ρ) (x0:Unit->Option ρ) (xret:Int->Option ρ):Option ρ:=
 cond (decide (v<p.2)) ((idx p.1 v).bind λe1=>(gN k e1).bind λr2=>cond (r2) (xret v) (next (IntKind.i64.wrap (v+(1:Int))))) (x0 ())
def aW (k:Nat) (a0:List Int):Option (Int):=
 iter (λu5 n5=>aE k (a0,(a0.length:Int)) u5 n5 (λy3=>some (-1:Int)) (λy4=>some y4)) k (0:Int)
def aJ (k:Nat) (a0:List Int):Option (Bool):=
 (aW k a0).bind λr1=>some (decide (r1>=(0:Int)))
def fw (k:Nat) (a0:ax) (a1:Int):Option (Bool):=
 (rr k a0.out (1:Int) (8:Int)).bind λr1=>cond (r1) ((rr k a0.mult (0:Int) (2147483647:Int)).bind λr2=>cond (r2) ((rr k a0.shift (0:Int) (31:Int)).bind λr3=>cond (r3) ((rr k a0.zero (-128:Int) (127:Int)).bind λr4=>cond (r4) (cond ((a0.weights.length:Int)==(IntKind.i64.wrap (a0.out*a1))) ((ng k a0.weights).bind λr5=>cond (r5) (cond ((a0.mR.length:Int)==a0.out) ((aJ k a0.mR).bind λr6=>some (!r6)) (some false)) (some false)) (some false)) (some false)) (some false)) (some false)) (some false)
def dU (k:Nat) (a0:ax) (a1:Shape):Option (Bool):=
 (rr k a0.size (1:Int) (if a1.w<(if a1.h<(3:Int)then a1.h else(3:Int))then a1.w else(if a1.h<(3:Int)then a1.h else(3:Int)))).bind λr1=>cond (r1) ((rr k a0.step (1:Int) (2:Int)).bind λr2=>some r2) (some false)
def eT (k:Nat) (a0:ax) (a1:Shape) (a2:Int):Option (Shape):=
 cond (decide (a0.step=0)) none (cond (decide (a0.step=0)) none (some (⟨(IntKind.i64.wrap ((IntKind.i64.wrap ((IntKind.i64.wrap (a1.h-a0.size)).tdiv a0.step))+(1:Int))),(IntKind.i64.wrap ((IntKind.i64.wrap ((IntKind.i64.wrap (a1.w-a0.size)).tdiv a0.step))+(1:Int))),a2⟩:Shape)))
def eB (k:Nat) (a0:ax):Option (Bool):=
 cond (a0.out==(0:Int)) (cond (a0.mult==(0:Int)) (cond (a0.shift==(0:Int)) (cond ((a0.weights.length:Int)==(0:Int)) (some ((a0.mR.length:Int)==(0:Int))) (some false)) (some false)) (some false)) (some false)
def k6 (k:Nat) (a0:Shape) (a1:ax):Option (Shape× Bool):=
 (nd k a0).bind λr1=>cond (!r1) (some ((⟨(0:Int),(0:Int),(0:Int)⟩:Shape),false)) ((jq k a0).bind λr2=>cond (a1.kind==(0:Int)) (cond (decide (r2<=(64:Int))) ((eS k a1).bind λr3=>cond (r3) ((fw k a1 r2).bind λr4=>cond (r4) (some ((⟨(1:Int),(1:Int),a1.out⟩:Shape),true)) (some ((⟨(0:Int),(0:Int),(0:Int)⟩:Shape),false))) (some ((⟨(0:Int),(0:Int),(0:Int)⟩:Shape),false))) (some ((⟨(0:Int),(0:Int),(0:Int)⟩:Shape),false))) (cond (a1.kind==(1:Int)) ((dU k a1 a0).bind λr5=>cond (r5) (cond (decide ((a1.weights.length:Int)<=(600:Int))) ((fw k a1 (IntKind.i64.wrap ((IntKind.i64.wrap (a1.size*a1.size))*a0.c))).bind λr6=>cond (r6) ((eT k a1 a0 a1.out).bind λr7=>some (r7,true)) (some ((⟨(0:Int),(0:Int),(0:Int)⟩:Shape),false))) (some ((⟨(0:Int),(0:Int),(0:Int)⟩:Shape),false))) (some ((⟨(0:Int),(0:Int),(0:Int)⟩:Shape),false))) (cond (a1.kind==(2:Int)) ((dU k a1 a0).bind λr8=>cond (r8) ((eB k a1).bind λr9=>cond (r9) (cond (a1.zero==(0:Int)) ((eT k a1 a0 a0.c).bind λr10=>some (r10,true)) (some ((⟨(0:Int),(0:Int),(0:Int)⟩:Shape),false))) (some ((⟨(0:Int),(0:Int),(0:Int)⟩:Shape),false))) (some ((⟨(0:Int),(0:Int),(0:Int)⟩:Shape),false))) (cond (a1.kind==(3:Int)) ((dU k a1 a0).bind λr11=>cond (r11) ((eB k a1).bind λr12=>cond (r12) (cond (a1.zero==(0:Int)) ((eT k a1 a0 a0.c).bind λr13=>some (r13,true)) (some ((⟨(0:Int),(0:Int),(0:Int)⟩:Shape),false))) (some ((⟨(0:Int),(0:Int),(0:Int)⟩:Shape),false))) (some ((⟨(0:Int),(0:Int),(0:Int)⟩:Shape),false))) (cond (a1.kind==(4:Int)) ((eS k a1).bind λr14=>cond (r14) ((eB k a1).bind λr15=>cond (r15) ((rr k a1.zero (-128:Int) (127:Int)).bind λr16=>cond (r16) (some (a0,true)) (some ((⟨(0:Int),(0:Int),(0:Int)⟩:Shape),false))) (some ((⟨(0:Int),(0:Int),(0:Int)⟩:Shape),false))) (some ((⟨(0:Int),(0:Int),(0:Int)⟩:Shape),false))) (cond (a1.kind==(5:Int)) ((eS k a1).bind λr17=>cond (r17) ((eB k a1).bind λr18=>cond (r18) (cond (a1.zero==(0:Int)) (cond (decide (r2<=(8:Int))) (some ((⟨(1:Int),(1:Int),r2⟩:Shape),true)) (some ((⟨(0:Int),(0:Int),(0:Int)⟩:Shape),false))) (some ((⟨(0:Int),(0:Int),(0:Int)⟩:Shape),false))) (some ((⟨(0:Int),(0:Int),(0:Int)⟩:Shape),false))) (some ((⟨(0:Int),(0:Int),(0:Int)⟩:Shape),false))) (some ((⟨(0:Int),(0:Int),(0:Int)⟩:Shape),false))))))))
def eU {ρ:Type} (k:Nat) (p:List ax× Int) (v:Int× List Shape× Int× Int× Int) (next:(Int× List Shape× Int× Int× Int)->Option ρ) (x0:(List Shape)->Option ρ) (xret:Bool->Option ρ):Option ρ:=
 cond (decide (v.1<p.2)) ((idx p.1 v.1).bind λe1=>(k6 k (⟨v.2.2.1,v.2.2.2.1,v.2.2.2.2⟩:Shape) e1).bind λr2=>cond (!r2.2) (xret false) (cond (Nat.ble (v.2.1.length+[r2.1].length) aT) (next (IntKind.i64.wrap (v.1+(1:Int)),v.2.1++[r2.1],r2.1.h,r2.1.w,r2.1.c)) none)) (x0 v.2.1)
def gE (k:Nat) (a0:Model):Option (List Shape× Bool):=
 iter (λu5 n5=>eU k (a0.aB,(a0.aB.length:Int)) u5 n5 (λy3=>some (y3,true)) (λy4=>some (([]:List Shape),y4))) k ((0:Int),[a0.inp],a0.inp.h,a0.inp.w,a0.inp.c)
def ly (k:Nat) (a0:Model):Option (Bool):=
 (rr k (a0.aB.length:Int) (1:Int) (6:Int)).bind λr1=>cond (!r1) (some false) ((gE k a0).bind λr2=>some r2.2)
def nk (k:Nat) (a0:Model):Option (List Shape):=
 (ly k a0).bind λr1=>cond (!r1) (some ([]:List Shape)) ((gE k a0).bind λr2=>some r2.1)
def wq (k:Nat) (a0:Shape) (a1:ax):Option (Int):=
 (k6 k a0 a1).bind λr1=>cond (!r1.2) (some (0:Int)) ((jq k a0).bind λr2=>cond (a1.kind==(0:Int)) ((jq k r1.1).bind λr3=>some (IntKind.i64.wrap ((1:Int)+(IntKind.i64.wrap ((IntKind.i64.wrap (r2*r3)).tdiv (16:Int)))))) (cond (a1.kind==(1:Int)) ((jq k r1.1).bind λr4=>some (IntKind.i64.wrap ((1:Int)+(IntKind.i64.wrap ((IntKind.i64.wrap ((IntKind.i64.wrap ((IntKind.i64.wrap (r4*a1.size))*a1.size))*a0.c)).tdiv (16:Int)))))) (cond (a1.kind==(2:Int)) ((jq k r1.1).bind λr5=>some (IntKind.i64.wrap ((1:Int)+(IntKind.i64.wrap ((IntKind.i64.wrap ((IntKind.i64.wrap (r5*a1.size))*a1.size)).tdiv (16:Int)))))) (cond (a1.kind==(3:Int)) ((jq k r1.1).bind λr6=>some (IntKind.i64.wrap ((1:Int)+(IntKind.i64.wrap ((IntKind.i64.wrap ((IntKind.i64.wrap (r6*a1.size))*a1.size)).tdiv (16:Int)))))) (some (IntKind.i64.wrap ((1:Int)+(IntKind.i64.wrap (r2.tdiv (16:Int))))))))))
def jP {ρ:Type} (k:Nat) (p:Int× Int× Int× Int× List ax× List Shape) (v:Int× List Int) (next:(Int× List Int)->Option ρ) (x0:(List Int)->Option ρ):Option ρ:=
 cond (decide (v.1<p.1)) (cond (decide (0<=v.1/\v.1<(p.2.2.2.2.2.length:Int))) ((p.2.2.2.2.2[v.1.toNat]?).bind λe2=>cond (decide (v.1<(p.2.2.2.2.1.length:Int))) ((idx p.2.2.2.2.1 v.1).bind λe3=>(wq k e2 e3).bind λr4=>cond (Nat.ble (v.2.length+[r4].length) aT) (next (IntKind.i64.wrap (v.1+(1:Int)),v.2++[r4])) none) (next (IntKind.i64.wrap (v.1+(1:Int)),v.2))) none) (x0 v.2)
def jQ (k:Nat) (a0:Model):Option (List Int):=
 (nk k a0).bind λr1=>iter (λu6 n6=>jP k ((r1.length:Int),a0.inp.h,a0.inp.w,a0.inp.c,a0.aB,r1) u6 n6 (λy5=>some y5)) k ((0:Int),([]:List Int))
def s7 {ρ:Type} (k:Nat) (p:List Int× Int) (v:Int× Int) (next:(Int× Int)->Option ρ) (x0:Int->Option ρ):Option ρ:=
 cond (decide (v.2<p.2)) ((idx p.1 v.2).bind λe1=>next (IntKind.i64.wrap (v.1+e1),IntKind.i64.wrap (v.2+(1:Int)))) (x0 v.1)
def Lc (k:Nat) (a0:List Int):Option (Int):=
 iter (λu3 n3=>s7 k (a0,(a0.length:Int)) u3 n3 (λy2=>some y2)) k ((0:Int),(0:Int))
def oh (k:Nat) (a0:Model):Option (Int):=
 (jQ k a0).bind λr1=>(Lc k r1).bind λr2=>some r2
end
end
set_option maxRecDepth 100000
section
noncomputable section
def s8 (k:Nat) (a0:ax):Option (ax):=
 (jI k a0.weights).bind λr1=>(jI k a0.mR).bind λr2=>some (⟨a0.kind,a0.out,a0.size,a0.step,a0.mult,a0.shift,a0.zero,r1,r2⟩:ax)
def ju (k:Nat) (a0:ax):Option (ax):=
 (bS k a0.weights).bind λr1=>(bS k a0.mR).bind λr2=>some (⟨a0.kind,a0.out,a0.size,a0.step,a0.mult,a0.shift,a0.zero,r1,r2⟩:ax)
def eV {ρ:Type} (k:Nat) (p:List ax× Int) (v:Int× List ax) (next:(Int× List ax)->Option ρ) (x0:(List ax)->Option ρ):Option ρ:=
 cond (decide (v.1<p.2)) ((idx p.1 v.1).bind λe1=>(ju k e1).bind λr2=>cond (Nat.ble (v.2.length+1) aT) (next (IntKind.i64.wrap (v.1+(1:Int)),v.2++[r2])) none) (x0 v.2)
def mM (k:Nat) (a0:List ax):Option (List ax):=
 iter (λu4 n4=>eV k (a0,(a0.length:Int)) u4 n4 (λy3=>some y3)) k ((0:Int),([]:List ax))
def jR {ρ:Type} (k:Nat) (p:Int× Int× Int× List ax× Int× Int× Int× Int× Int× Int) (v:Int× List ax) (next:(Int× List ax)->Option ρ) (x0:(List ax)->Option ρ):Option ρ:=
 cond (decide (v.1<(p.2.2.2.1.length:Int))) ((idx p.2.2.2.1 v.1).bind λe1=>(s8 k e1).bind λr2=>cond (Nat.ble (v.2.length+1) aT) (next (IntKind.i64.wrap (v.1+(1:Int)),v.2++[r2])) none) (x0 v.2)
def pN (k:Nat) (a0:Model):Option (Model):=
 iter (λu4 n4=>jR k (a0.inp.h,a0.inp.w,a0.inp.c,a0.aB,(0:Int),(0:Int),(0:Int),a0.inp.h,a0.inp.w,a0.inp.c) u4 n4 (λy3=>some (⟨a0.inp,y3⟩:Model))) k ((0:Int),([]:List ax))
def nm {ρ:Type} (k:Nat) (p:Int× Int× Int× List ax× Int× Int× Int× Int× List Int× Int× List Int) (v:Int× Int) (next:(Int× Int)->Option ρ) (x0:Int->Option ρ):Option ρ:=
 cond (decide (v.2<p.2.2.2.2.1)) (cond (decide (0<=v.2/\v.2<(p.2.2.2.2.2.2.2.2.2.2.length:Int))) ((p.2.2.2.2.2.2.2.2.2.2[v.2.toNat]?).bind λe6=>next (IntKind.i64.wrap (v.1+e6),IntKind.i64.wrap (v.2+(1:Int)))) none) (x0 v.1)
def rS (k:Nat) (a0:Job):Option (Bool):=
 (je k a0.model).bind λr1=>cond (!r1.2) (some false) ((cf k a0.at_ (0:Int) (a0.model.aB.length:Int)).bind λr2=>cond (!r2) (some false) ((kY k a0.act).bind λr3=>cond (!r3) (some false) (cond (decide (0<=a0.at_/\a0.at_<(r1.1.length:Int))) ((r1.1[a0.at_.toNat]?).bind λe4=>cond (!(cond (a0.act.sh.h==e4.h) (cond (a0.act.sh.w==e4.w) (cond (a0.act.sh.c==e4.c) (true) false) false) false)) (some false) ((jO k a0.model).bind λr5=>iter (λu8 n8=>nm k (a0.model.inp.h,a0.model.inp.w,a0.model.inp.c,a0.model.aB,a0.at_,a0.act.sh.h,a0.act.sh.w,a0.act.sh.c,a0.act.data,a0.iL,r5) u8 n8 (λy7=>some (a0.iL==y7))) k ((0:Int),(0:Int)))) none)))
def qy (k:Nat) (a0:Model) (a1:av):Option (Job× Bool):=
 (pN k a0).bind λr1=>(nc k a1).bind λr2=>(rS k (⟨r1,(0:Int),r2,(0:Int)⟩:Job)).bind λr3=>cond (!r3) (some ((⟨(⟨(⟨(0:Int),(0:Int),(0:Int)⟩:Shape),([]:List ax)⟩:Model),(0:Int),(⟨(⟨(0:Int),(0:Int),(0:Int)⟩:Shape),([]:List Int)⟩:av),(0:Int)⟩:Job),false)) (some ((⟨r1,(0:Int),r2,(0:Int)⟩:Job),true))
def xM (k:Nat) (a0:Job):Option (Bool):=
 (ly k a0.model).bind λr1=>cond (r1) ((rr k a0.at_ (0:Int) (a0.model.aB.length:Int)).bind λr2=>cond (r2) ((nh k a0.act).bind λr3=>cond (r3) ((nk k a0.model).bind λr4=>cond (decide (0<=a0.at_/\a0.at_<(r4.length:Int))) ((r4[a0.at_.toNat]?).bind λe5=>cond (cond (a0.act.sh.h==e5.h) (cond (a0.act.sh.w==e5.w) (cond (a0.act.sh.c==e5.c) (true) false) false) false) ((jQ k a0.model).bind λr6=>cond (decide (0<=a0.at_/\a0.at_<=(r6.length:Int))) ((Lc k (((r6).drop 0).take (a0.at_.toNat-0))).bind λr7=>some (a0.iL==r7)) none) (some false)) none) (some false)) (some false)) (some false)
def gF (k:Nat) (a0:Model):Option (Model):=
 (mM k a0.aB).bind λr1=>some (⟨a0.inp,r1⟩:Model)
def l6 (k:Nat) (a0:Job):Option (Job):=
 (gF k a0.model).bind λr1=>(fM k a0.act).bind λr2=>some (⟨r1,a0.at_,r2,a0.iL⟩:Job)
def qz (k:Nat) (a0:Model) (a1:av):Option (Job× Bool):=
 (xM k (⟨a0,(0:Int),a1,(0:Int)⟩:Job)).bind λr1=>cond (!r1) (some ((⟨(⟨(⟨(0:Int),(0:Int),(0:Int)⟩:Shape),([]:List ax)⟩:Model),(0:Int),(⟨(⟨(0:Int),(0:Int),(0:Int)⟩:Shape),([]:List Int)⟩:av),(0:Int)⟩:Job),false)) ((l6 k (⟨a0,(0:Int),a1,(0:Int)⟩:Job)).bind λr2=>some (r2,true))
end
end
set_option maxRecDepth 100000
section
noncomputable section
def s9 (k:Nat) (a0:Job):Option (Job):=
 (pN k a0.model).bind λr1=>(nc k a0.act).bind λr2=>some (⟨r1,a0.at_,r2,a0.iL⟩:Job)
def ta (k:Nat) (a0:Job):Option (Bool):=
 (rS k a0).bind λr1=>cond (r1) (some (a0.at_==(a0.model.aB.length:Int))) (some false)
def np (k:Nat) (a0:Int) (a1:Int) (a2:Int):Option (Int):=
 cond (decide (a0<a1)) (some a1) (cond (decide (a1>a2)) (some a1) (cond (decide (a0>a2)) (some a2) (some a0)))
def xN (k:Nat) (a0:Int):Option (Int):=
 (np k a0 (-128:Int) (127:Int)).bind λr1=>some r1
def mN (k:Nat) (a0:Int):Option (Int):=
 (np k a0 (-2147483648:Int) (2147483647:Int)).bind λr1=>some r1
def l7 (k:Nat) (a0:Int) (a1:Int):Option (Int):=
 (mN k a0).bind λr1=>(mN k a1).bind λr2=>(mN k (IntKind.i64.wrap (r1+r2))).bind λr3=>some r3
def qA {ρ:Type} (k:Nat) (p:List Int× List Int) (v:Int× Int) (next:(Int× Int)->Option ρ) (x0:Int->Option ρ):Option ρ:=
 cond (decide (v.2<(p.1.length:Int))) (cond (decide (v.2<(p.2.length:Int))) ((idx p.1 v.2).bind λe1=>(xN k e1).bind λr2=>(idx p.2 v.2).bind λe3=>(xN k e3).bind λr4=>(l7 k v.1 (IntKind.i64.wrap (r2*r4))).bind λr5=>next (r5,IntKind.i64.wrap (v.2+(1:Int)))) (x0 v.1)) (x0 v.1)
def Ch (k:Nat) (a0:List Int) (a1:List Int):Option (Int):=
 iter (λu7 n7=>qA k (a0,a1) u7 n7 (λy6=>some y6)) k ((0:Int),(0:Int))
def tb (k:Nat) (a0:Int) (a1:Int):Option (Int):=
 cond (decide (a1=0)) none (cond (decide (a1=0)) none (cond (decide ((a0.tmod a1)<(0:Int))) (some (IntKind.i64.wrap ((IntKind.i64.wrap (a0.tdiv a1))-(1:Int)))) (some (IntKind.i64.wrap (a0.tdiv a1)))))
def tc (k:Nat) (a0:Int) (a1:Int):Option (Int):=
 (mN k a0).bind λr1=>(mN k a1).bind λr2=>(tb k (IntKind.i64.wrap ((IntKind.i64.wrap (r1*r2))+(1073741824:Int))) (2147483648:Int)).bind λr3=>(mN k r3).bind λr4=>some r4
def l8 (k:Nat) (a0:Int) (a1:Int):Option (Int):=
 (mN k a0).bind λr1=>(np k a1 (0:Int) (31:Int)).bind λr2=>cond (decide ((IntKind.u64.wrap (r2))<0)) none (cond (decide (r1<(0:Int))) (cond (decide ((IntKind.i64.wrap ((1:Int)*2^(min (IntKind.u64.wrap (r2)).toNat IntKind.i64.bits)))=0)) none (some (IntKind.i64.wrap (0-(IntKind.i64.wrap ((IntKind.i64.wrap ((IntKind.i64.wrap (0-r1))+(IntKind.i64.wrap ((IntKind.i64.wrap ((1:Int)*2^(min (IntKind.u64.wrap (r2)).toNat IntKind.i64.bits))).tdiv (2:Int))))).tdiv (IntKind.i64.wrap ((1:Int)*2^(min (IntKind.u64.wrap (r2)).toNat IntKind.i64.bits))))))))) (cond (decide ((IntKind.i64.wrap ((1:Int)*2^(min (IntKind.u64.wrap (r2)).toNat IntKind.i64.bits)))=0)) none (some (IntKind.i64.wrap ((IntKind.i64.wrap (r1+(IntKind.i64.wrap ((IntKind.i64.wrap ((1:Int)*2^(min (IntKind.u64.wrap (r2)).toNat IntKind.i64.bits))).tdiv (2:Int))))).tdiv (IntKind.i64.wrap ((1:Int)*2^(min (IntKind.u64.wrap (r2)).toNat IntKind.i64.bits))))))))
def nq (k:Nat) (a0:Int) (a1:Int) (a2:Int) (a3:Int):Option (Int):=
 (tc k a0 a1).bind λr1=>(l8 k r1 a2).bind λr2=>(xN k a3).bind λr3=>(xN k (IntKind.i64.wrap (r2+r3))).bind λr4=>some r4
def xO (k:Nat) (a0:Shape) (a1:Int) (a2:Int) (a3:Int):Option (Int):=
 (jJ k a0).bind λr1=>cond (!r1) (some (-1:Int)) ((cf k a1 (0:Int) (IntKind.i64.wrap (a0.h-(1:Int)))).bind λr2=>cond (!r2) (some (-1:Int)) ((cf k a2 (0:Int) (IntKind.i64.wrap (a0.w-(1:Int)))).bind λr3=>cond (!r3) (some (-1:Int)) ((cf k a3 (0:Int) (IntKind.i64.wrap (a0.c-(1:Int)))).bind λr4=>cond (!r4) (some (-1:Int)) (some (IntKind.i64.wrap ((IntKind.i64.wrap ((IntKind.i64.wrap ((IntKind.i64.wrap (a1*a0.w))+a2))*a0.c))+a3))))))
def om (k:Nat) (a0:av) (a1:Int) (a2:Int) (a3:Int):Option (Int× Bool):=
 (xO k a0.sh a1 a2 a3).bind λr1=>(kY k a0).bind λr2=>cond (!r2) (some ((0:Int),false)) (cond (decide (r1<(0:Int))) (some ((0:Int),false)) ((idx a0.data r1).bind λe3=>some (e3,true)))
def l9 {ρ:Type} (k:Nat) (p:Int× Int× Int× Int× Int× Int× Int× List Int× Int× Int× Int× Int× Int× Int× Int× List Int× List Int) (v:Int× List Int) (next:(Int× List Int)->Option ρ) (x2:(List Int)->Option ρ):Option ρ:=
 cond (decide (v.1<p.2.2.2.2.2.2.2.2.2.2.1)) ((om k (⟨(⟨p.2.2.2.2.1,p.2.2.2.2.2.1,p.2.2.2.2.2.2.1⟩:Shape),p.2.2.2.2.2.2.2.1⟩:av) (IntKind.i64.wrap ((IntKind.i64.wrap (p.1*p.2.2.2.2.2.2.2.2.2.2.2.1))+p.2.2.2.1)) (IntKind.i64.wrap ((IntKind.i64.wrap (p.2.1*p.2.2.2.2.2.2.2.2.2.2.2.1))+v.1)) p.2.2.1).bind λr1=>cond (Nat.ble (v.2.length+[r1.1].length) aT) (next (IntKind.i64.wrap (v.1+(1:Int)),v.2++[r1.1])) none) (x2 v.2)
def ma {ρ:Type} (k:Nat) (p:Int× Int× Int× Int× Int× Int× List Int× Int× Int× Int× Int× Int× Int× Int× List Int× List Int) (v:Int× List Int) (next:(Int× List Int)->Option ρ) (x0:(List Int)->Option ρ):Option ρ:=
 cond (decide (v.1<p.2.2.2.2.2.2.2.2.2.1)) (iter (λu3 n3=>l9 k (p.1,p.2.1,p.2.2.1,v.1,p.2.2.2.1,p.2.2.2.2.1,p.2.2.2.2.2.1,p.2.2.2.2.2.2.1,p.2.2.2.2.2.2.2.1,p.2.2.2.2.2.2.2.2.1,p.2.2.2.2.2.2.2.2.2.1,p.2.2.2.2.2.2.2.2.2.2.1,p.2.2.2.2.2.2.2.2.2.2.2.1,p.2.2.2.2.2.2.2.2.2.2.2.2.1,p.2.2.2.2.2.2.2.2.2.2.2.2.2.1,p.2.2.2.2.2.2.2.2.2.2.2.2.2.2.1,p.2.2.2.2.2.2.2.2.2.2.2.2.2.2.2) u3 n3 (λy2=>next (IntKind.i64.wrap (v.1+(1:Int)),y2))) k ((0:Int),v.2)) (x0 v.2)
def lz (k:Nat) (a0:av) (a1:ax) (a2:Int) (a3:Int) (a4:Int):Option (List Int):=
 iter (λu5 n5=>ma k (a2,a3,a4,a0.sh.h,a0.sh.w,a0.sh.c,a0.data,a1.kind,a1.out,a1.size,a1.step,a1.mult,a1.shift,a1.zero,a1.weights,a1.mR) u5 n5 (λy4=>some y4)) k ((0:Int),([]:List Int))
def mb {ρ:Type} (k:Nat) (p:Int× Int× Int× Int× Int× Int× Int× Int× List Int× Int× Int× Int× Int× Int× Int× Int× List Int× List Int× Int× Int× Int) (v:Int× Int) (next:(Int× Int)->Option ρ) (x5:Int->Option ρ):Option ρ:=
 cond (decide (v.2<p.2.2.2.2.2.2.2.2.2.2.2.2.2.2.2.2.2.2.2.2)) ((om k (⟨(⟨p.2.2.2.2.2.1,p.2.2.2.2.2.2.1,p.2.2.2.2.2.2.2.1⟩:Shape),p.2.2.2.2.2.2.2.2.1⟩:av) (IntKind.i64.wrap ((IntKind.i64.wrap (p.1*p.2.2.2.2.2.2.2.2.2.2.2.2.1))+p.2.2.2.1)) (IntKind.i64.wrap ((IntKind.i64.wrap (p.2.1*p.2.2.2.2.2.2.2.2.2.2.2.2.1))+p.2.2.2.2.1)) v.2).bind λr6=>(idx p.2.2.2.2.2.2.2.2.2.2.2.2.2.2.2.2.1 (IntKind.i64.wrap ((IntKind.i64.wrap ((IntKind.i64.wrap ((IntKind.i64.wrap ((IntKind.i64.wrap ((IntKind.i64.wrap (p.2.2.1*p.2.2.2.2.2.2.2.2.2.2.2.1))+p.2.2.2.1))*p.2.2.2.2.2.2.2.2.2.2.2.1))+p.2.2.2.2.1))*p.2.2.2.2.2.2.2.2.2.2.2.2.2.2.2.2.2.2.2.2))+v.2))).bind λe7=>(l7 k v.1 (IntKind.i64.wrap (r6.1*e7))).bind λr8=>next (r8,IntKind.i64.wrap (v.2+(1:Int)))) (x5 v.1)
def md {ρ:Type} (k:Nat) (p:Int× Int× Int× Int× Int× Int× Int× List Int× Int× Int× Int× Int× Int× Int× Int× List Int× List Int× Int× Int× Int) (v:Int× Int) (next:(Int× Int)->Option ρ) (x3:Int->Option ρ):Option ρ:=
 cond (decide (v.2<p.2.2.2.2.2.2.2.2.2.2.1)) (iter (λu10 n10=>mb k (p.1,p.2.1,p.2.2.1,p.2.2.2.1,v.2,p.2.2.2.2.1,p.2.2.2.2.2.1,p.2.2.2.2.2.2.1,p.2.2.2.2.2.2.2.1,p.2.2.2.2.2.2.2.2.1,p.2.2.2.2.2.2.2.2.2.1,p.2.2.2.2.2.2.2.2.2.2.1,p.2.2.2.2.2.2.2.2.2.2.2.1,p.2.2.2.2.2.2.2.2.2.2.2.2.1,p.2.2.2.2.2.2.2.2.2.2.2.2.2.1,p.2.2.2.2.2.2.2.2.2.2.2.2.2.2.1,p.2.2.2.2.2.2.2.2.2.2.2.2.2.2.2.1,p.2.2.2.2.2.2.2.2.2.2.2.2.2.2.2.2.1,p.2.2.2.2.2.2.2.2.2.2.2.2.2.2.2.2.2.1,p.2.2.2.2.2.2.2.2.2.2.2.2.2.2.2.2.2.2.1,p.2.2.2.2.2.2.2.2.2.2.2.2.2.2.2.2.2.2.2) u10 n10 (λy9=>next (y9,IntKind.i64.wrap (v.2+(1:Int))))) k (v.1,(0:Int))) (x3 v.1)
def mf {ρ:Type} (k:Nat) (p:Int× Int× Int× Int× Int× Int× List Int× Int× Int× Int× Int× Int× Int× Int× List Int× List Int× Int× Int× Int) (v:Int× Int) (next:(Int× Int)->Option ρ) (x1:Int->Option ρ):Option ρ:=
 cond (decide (v.2<p.2.2.2.2.2.2.2.2.2.1)) (iter (λu12 n12=>md k (p.1,p.2.1,p.2.2.1,v.2,p.2.2.2.1,p.2.2.2.2.1,p.2.2.2.2.2.1,p.2.2.2.2.2.2.1,p.2.2.2.2.2.2.2.1,p.2.2.2.2.2.2.2.2.1,p.2.2.2.2.2.2.2.2.2.1,p.2.2.2.2.2.2.2.2.2.2.1,p.2.2.2.2.2.2.2.2.2.2.2.1,p.2.2.2.2.2.2.2.2.2.2.2.2.1,p.2.2.2.2.2.2.2.2.2.2.2.2.2.1,p.2.2.2.2.2.2.2.2.2.2.2.2.2.2.1,p.2.2.2.2.2.2.2.2.2.2.2.2.2.2.2.1,p.2.2.2.2.2.2.2.2.2.2.2.2.2.2.2.2.1,p.2.2.2.2.2.2.2.2.2.2.2.2.2.2.2.2.2.1,p.2.2.2.2.2.2.2.2.2.2.2.2.2.2.2.2.2.2) u12 n12 (λy11=>next (y11,IntKind.i64.wrap (v.2+(1:Int))))) k (v.1,(0:Int))) (x1 v.1)
def mg {ρ:Type} (k:Nat) (p:List Int) (v:Int× Int) (next:(Int× Int)->Option ρ) (x7:Int->Option ρ):Option ρ:=
 cond (decide (v.2<(p.length:Int))) (cond (decide (0<=v.2/\v.2<(p.length:Int))) ((p[v.2.toNat]?).bind λe20=>cond (decide (e20>v.1)) (cond (decide (0<=v.2/\v.2<(p.length:Int))) ((p[v.2.toNat]?).bind λe21=>next (e21,IntKind.i64.wrap (v.2+(1:Int)))) none) (next (v.1,IntKind.i64.wrap (v.2+(1:Int))))) none) (x7 v.1)
def mi {ρ:Type} (k:Nat) (p:List Int) (v:Int× Int) (next:(Int× Int)->Option ρ) (x9:Int->Option ρ):Option ρ:=
 cond (decide (v.2<(p.length:Int))) (cond (decide (0<=v.2/\v.2<(p.length:Int))) ((p[v.2.toNat]?).bind λe25=>next (IntKind.i64.wrap (v.1+e25),IntKind.i64.wrap (v.2+(1:Int)))) none) (x9 v.1)
def tf (k:Nat) (a0:av) (a1:ax) (a2:Int) (a3:Int) (a4:Int):Option (Int):=
 cond (a1.kind==(0:Int)) ((dy k a0.sh).bind λr1=>cond (decide (0<=(IntKind.i64.wrap ((IntKind.i64.wrap (a4*r1))+r1))/\(IntKind.i64.wrap ((IntKind.i64.wrap (a4*r1))+r1))<=(a1.weights.length:Int))) (cond (decide (0<=(IntKind.i64.wrap (a4*r1))/\(IntKind.i64.wrap (a4*r1))<=((IntKind.i64.wrap ((IntKind.i64.wrap (a4*r1))+r1)).toNat:Int))) ((Ch k a0.data ((a1.weights.take ((IntKind.i64.wrap ((IntKind.i64.wrap (a4*r1))+r1)).toNat)).drop ((IntKind.i64.wrap (a4*r1)).toNat))).bind λr2=>(idx a1.mR a4).bind λe3=>(l7 k r2 e3).bind λr4=>(nq k r4 a1.mult a1.shift a1.zero).bind λr5=>some r5) none) none) (cond (a1.kind==(1:Int)) (iter (λu17 n17=>mf k (a2,a3,a4,a0.sh.h,a0.sh.w,a0.sh.c,a0.data,a1.kind,a1.out,a1.size,a1.step,a1.mult,a1.shift,a1.zero,a1.weights,a1.mR,a0.sh.h,a0.sh.w,a0.sh.c) u17 n17 (λy13=>(idx a1.mR a4).bind λe14=>(l7 k y13 e14).bind λr15=>(nq k r15 a1.mult a1.shift a1.zero).bind λr16=>some r16)) k ((0:Int),(0:Int))) (cond (a1.kind==(2:Int)) ((lz k a0 a1 a2 a3 a4).bind λr18=>cond (decide (0<=(0:Int)/\(0:Int)<(r18.length:Int))) ((r18[(0:Int).toNat]?).bind λe19=>iter (λu23 n23=>mg k r18 u23 n23 (λy22=>some y22)) k (e19,(1:Int))) none) (cond (a1.kind==(3:Int)) ((lz k a0 a1 a2 a3 a4).bind λr24=>iter (λu27 n27=>mi k r24 u27 n27 (λy26=>cond (decide (y26<(0:Int))) (cond (decide ((IntKind.i64.wrap ((2:Int)*(r24.length:Int)))=0)) none (some (IntKind.i64.wrap (0-(IntKind.i64.wrap ((IntKind.i64.wrap ((IntKind.i64.wrap ((-2:Int)*y26))+(r24.length:Int))).tdiv (IntKind.i64.wrap ((2:Int)*(r24.length:Int))))))))) (cond (decide ((IntKind.i64.wrap ((2:Int)*(r24.length:Int)))=0)) none (some (IntKind.i64.wrap ((IntKind.i64.wrap ((IntKind.i64.wrap ((2:Int)*y26))+(r24.length:Int))).tdiv (IntKind.i64.wrap ((2:Int)*(r24.length:Int))))))))) k ((0:Int),(0:Int))) (cond (a1.kind==(4:Int)) ((om k a0 a2 a3 a4).bind λr28=>cond (decide (r28.1<a1.zero)) (some a1.zero) (some r28.1)) ((idx a0.data a4).bind λe29=>some e29)))))
def ky {ρ:Type} (k:Nat) (p:Int× Int× Int× Int× Int× List Int× Int× Int× Int× Int× Int× Int× Int× List Int× List Int× Int× Int× Int× Int× Int× Int× Int× Int× Int) (v:Int× List Int) (next:(Int× List Int)->Option ρ) (x4:(List Int)->Option ρ):Option ρ:=
 cond (decide (v.1<p.2.2.2.2.2.2.2.2.2.2.2.2.2.2.2.2.2.2.2.2.1)) ((tf k (⟨(⟨p.2.2.1,p.2.2.2.1,p.2.2.2.2.1⟩:Shape),p.2.2.2.2.2.1⟩:av) (⟨p.2.2.2.2.2.2.1,p.2.2.2.2.2.2.2.1,p.2.2.2.2.2.2.2.2.1,p.2.2.2.2.2.2.2.2.2.1,p.2.2.2.2.2.2.2.2.2.2.1,p.2.2.2.2.2.2.2.2.2.2.2.1,p.2.2.2.2.2.2.2.2.2.2.2.2.1,p.2.2.2.2.2.2.2.2.2.2.2.2.2.1,p.2.2.2.2.2.2.2.2.2.2.2.2.2.2.1⟩:ax) p.1 p.2.1 v.1).bind λr3=>cond (Nat.ble (v.2.length+[r3].length) aT) (next (IntKind.i64.wrap (v.1+(1:Int)),v.2++[r3])) none) (x4 v.2)
def kz {ρ:Type} (k:Nat) (p:Int× Int× Int× Int× List Int× Int× Int× Int× Int× Int× Int× Int× List Int× List Int× Int× Int× Int× Int× Int× Int× Int× Int× Int) (v:Int× List Int) (next:(Int× List Int)->Option ρ) (x2:(List Int)->Option ρ):Option ρ:=
 cond (decide (v.1<p.2.2.2.2.2.2.2.2.2.2.2.2.2.2.2.2.2.2.1)) (iter (λu5 n5=>ky k (p.1,v.1,p.2.1,p.2.2.1,p.2.2.2.1,p.2.2.2.2.1,p.2.2.2.2.2.1,p.2.2.2.2.2.2.1,p.2.2.2.2.2.2.2.1,p.2.2.2.2.2.2.2.2.1,p.2.2.2.2.2.2.2.2.2.1,p.2.2.2.2.2.2.2.2.2.2.1,p.2.2.2.2.2.2.2.2.2.2.2.1,p.2.2.2.2.2.2.2.2.2.2.2.2.1,p.2.2.2.2.2.2.2.2.2.2.2.2.2.1,p.2.2.2.2.2.2.2.2.2.2.2.2.2.2.1,p.2.2.2.2.2.2.2.2.2.2.2.2.2.2.2.1,p.2.2.2.2.2.2.2.2.2.2.2.2.2.2.2.2.1,p.2.2.2.2.2.2.2.2.2.2.2.2.2.2.2.2.2.1,p.2.2.2.2.2.2.2.2.2.2.2.2.2.2.2.2.2.2.1,p.2.2.2.2.2.2.2.2.2.2.2.2.2.2.2.2.2.2.2.1,p.2.2.2.2.2.2.2.2.2.2.2.2.2.2.2.2.2.2.2.2.1,p.2.2.2.2.2.2.2.2.2.2.2.2.2.2.2.2.2.2.2.2.2.1,p.2.2.2.2.2.2.2.2.2.2.2.2.2.2.2.2.2.2.2.2.2.2) u5 n5 (λy4=>next (IntKind.i64.wrap (v.1+(1:Int)),y4))) k ((0:Int),v.2)) (x2 v.2)
def kA {ρ:Type} (k:Nat) (p:Int× Int× Int× List Int× Int× Int× Int× Int× Int× Int× Int× List Int× List Int× Int× Int× Int× Int× Int× Int× Int× Int× Int) (v:Int× List Int) (next:(Int× List Int)->Option ρ) (x0:(List Int)->Option ρ):Option ρ:=
 cond (decide (v.1<p.2.2.2.2.2.2.2.2.2.2.2.2.2.2.2.2.1)) (iter (λu7 n7=>kz k (v.1,p.1,p.2.1,p.2.2.1,p.2.2.2.1,p.2.2.2.2.1,p.2.2.2.2.2.1,p.2.2.2.2.2.2.1,p.2.2.2.2.2.2.2.1,p.2.2.2.2.2.2.2.2.1,p.2.2.2.2.2.2.2.2.2.1,p.2.2.2.2.2.2.2.2.2.2.1,p.2.2.2.2.2.2.2.2.2.2.2.1,p.2.2.2.2.2.2.2.2.2.2.2.2.1,p.2.2.2.2.2.2.2.2.2.2.2.2.2.1,p.2.2.2.2.2.2.2.2.2.2.2.2.2.2.1,p.2.2.2.2.2.2.2.2.2.2.2.2.2.2.2.1,p.2.2.2.2.2.2.2.2.2.2.2.2.2.2.2.2.1,p.2.2.2.2.2.2.2.2.2.2.2.2.2.2.2.2.2.1,p.2.2.2.2.2.2.2.2.2.2.2.2.2.2.2.2.2.2.1,p.2.2.2.2.2.2.2.2.2.2.2.2.2.2.2.2.2.2.2.1,p.2.2.2.2.2.2.2.2.2.2.2.2.2.2.2.2.2.2.2.2.1,p.2.2.2.2.2.2.2.2.2.2.2.2.2.2.2.2.2.2.2.2.2) u7 n7 (λy6=>next (IntKind.i64.wrap (v.1+(1:Int)),y6))) k ((0:Int),v.2)) (x0 v.2)
def qB (k:Nat) (a0:av) (a1:ax):Option (av× Bool):=
 (kY k a0).bind λr1=>cond (!r1) (some ((⟨(⟨(0:Int),(0:Int),(0:Int)⟩:Shape),([]:List Int)⟩:av),false)) ((kZ k a0.sh a1).bind λr2=>cond (!r2.2) (some ((⟨(⟨(0:Int),(0:Int),(0:Int)⟩:Shape),([]:List Int)⟩:av),false)) (iter (λu9 n9=>kA k (a0.sh.h,a0.sh.w,a0.sh.c,a0.data,a1.kind,a1.out,a1.size,a1.step,a1.mult,a1.shift,a1.zero,a1.weights,a1.mR,(0:Int),(0:Int),(0:Int),r2.1.h,r2.1.w,r2.1.c,r2.1.h,r2.1.w,r2.1.c) u9 n9 (λy8=>some ((⟨r2.1,y8⟩:av),true))) k ((0:Int),([]:List Int))))
def lA {ρ:Type} (k:Nat) (p:List Int) (v:Int× List Int) (next:(Int× List Int)->Option ρ) (x0:(List Int)->Option ρ):Option ρ:=
 cond (decide (v.1<(p.length:Int))) (cond (decide (0<=v.1/\v.1<(p.length:Int))) ((p[v.1.toNat]?).bind λe3=>cond (Nat.ble (v.2.length+[e3].length) aT) (next (IntKind.i64.wrap (v.1+(1:Int)),v.2++[e3])) none) none) (x0 v.2)
def wu (k:Nat) (a0:Job):Option (List Int):=
 (rS k a0).bind λr1=>cond (!r1) (some ([]:List Int)) ((jO k a0.model).bind λr2=>iter (λu5 n5=>lA k r2 u5 n5 (λy4=>some y4)) k (a0.at_,([]:List Int)))
def qC (k:Nat) (a0:Job):Option (Int):=
 (wu k a0).bind λr1=>cond ((r1.length:Int)==(0:Int)) (some (0:Int)) (cond (decide (0<=(0:Int)/\(0:Int)<(r1.length:Int))) ((r1[(0:Int).toNat]?).bind λe2=>some e2) none)
def tj (k:Nat) (a0:Job):Option (Job× Bool):=
 (s9 k a0).bind λr1=>(rS k a0).bind λr2=>cond (!r2) (some (r1,false)) ((ta k a0).bind λr3=>cond (r3) (some (r1,false)) ((idx a0.model.aB a0.at_).bind λe4=>(qB k a0.act e4).bind λr5=>(qC k a0).bind λr6=>some ((⟨r1.model,(IntKind.i64.wrap (a0.at_+(1:Int))),r5.1,(IntKind.i64.wrap (a0.iL+r6))⟩:Job),true)))
def wv (k:Nat) (a0:Job):Option (List Int):=
 (xM k a0).bind λr1=>cond (!r1) (some ([]:List Int)) ((jQ k a0.model).bind λr2=>cond (decide (0<=a0.at_/\a0.at_<=(r2.length:Int))) (some (((r2).drop a0.at_.toNat).take (r2.length-a0.at_.toNat))) none)
def qD (k:Nat) (a0:Job):Option (Int):=
 (wv k a0).bind λr1=>cond ((r1.length:Int)==(0:Int)) (some (0:Int)) ((idx r1 (0:Int)).bind λe2=>some e2)
def I4 (k:Nat) (a0:Int) (a1:Int) (a2:Int):Option (Int):=
 some (if(if a2<a0 then a2 else a0)>a1 then(if a2<a0 then a2 else a0)else a1)
def xP (k:Nat) (a0:Int):Option (Int):=
 (I4 k a0 (-128:Int) (127:Int)).bind λr1=>some r1
def mO (k:Nat) (a0:Int):Option (Int):=
 (I4 k a0 (-2147483648:Int) (2147483647:Int)).bind λr1=>some r1
def tl (k:Nat) (a0:Int) (a1:Int):Option (Int):=
 (mO k a0).bind λr1=>(mO k a1).bind λr2=>(mO k (IntKind.i64.wrap (r1+r2))).bind λr3=>some r3
def qE {ρ:Type} (k:Nat) (p:List Int× List Int× Int) (v:Int× Int) (next:(Int× Int)->Option ρ) (x0:Int->Option ρ):Option ρ:=
 cond (decide (v.2<p.2.2)) ((idx p.1 v.2).bind λe1=>(xP k e1).bind λr2=>(idx p.2.1 v.2).bind λe3=>(xP k e3).bind λr4=>(tl k v.1 (IntKind.i64.wrap (r2*r4))).bind λr5=>next (r5,IntKind.i64.wrap (v.2+(1:Int)))) (x0 v.1)
def Ci (k:Nat) (a0:List Int) (a1:List Int):Option (Int):=
 iter (λu7 n7=>qE k (a0,a1,if(a1.length:Int)<(a0.length:Int)then(a1.length:Int)else(a0.length:Int)) u7 n7 (λy6=>some y6)) k ((0:Int),(0:Int))
def tn (k:Nat) (a0:Int) (a1:Int):Option (Int):=
 (mO k a0).bind λr1=>(mO k a1).bind λr2=>(mO k ((IntKind.i64.wrap ((IntKind.i64.wrap (r1*r2))+(1073741824:Int))).fdiv (2^(min (31:Int).toNat IntKind.i64.bits)))).bind λr3=>some r3
def oo (k:Nat) (a0:Int) (a1:Int):Option (Int):=
 cond (decide (a0<(0:Int))) (none) (cond (decide ((IntKind.i64.wrap ((2:Int)*a1))=0)) none (some (IntKind.i64.wrap ((IntKind.i64.wrap ((IntKind.i64.wrap ((2:Int)*a0))+a1)).tdiv (IntKind.i64.wrap ((2:Int)*a1))))))
def nr (k:Nat) (a0:Int) (a1:Int):Option (Int):=
 cond (decide (a0<(0:Int))) ((oo k (IntKind.i64.wrap (0-a0)) a1).bind λr1=>some (IntKind.i64.wrap (0-r1))) (cond (decide ((IntKind.i64.wrap ((2:Int)*a1))=0)) none (some (IntKind.i64.wrap ((IntKind.i64.wrap ((IntKind.i64.wrap ((2:Int)*a0))+a1)).tdiv (IntKind.i64.wrap ((2:Int)*a1))))))
def mj (k:Nat) (a0:Int) (a1:Int):Option (Int):=
 (mO k a0).bind λr1=>(I4 k a1 (0:Int) (31:Int)).bind λr2=>cond (decide (r2<0)) none ((nr k r1 (IntKind.i64.wrap ((1:Int)*2^(min r2.toNat IntKind.i64.bits)))).bind λr3=>some r3)
def tp (k:Nat) (a0:Int) (a1:Int) (a2:Int) (a3:Int):Option (Int):=
 (tn k a0 a1).bind λr1=>(mj k r1 a2).bind λr2=>(xP k a3).bind λr3=>(xP k (IntKind.i64.wrap (r2+r3))).bind λr4=>some r4
def fC (k:Nat) (a0:ax) (a1:List Int) (a2:Int):Option (Int):=
 cond (decide (0<=(IntKind.i64.wrap ((IntKind.i64.wrap (a2+(1:Int)))*(a1.length:Int)))/\(IntKind.i64.wrap ((IntKind.i64.wrap (a2+(1:Int)))*(a1.length:Int)))<=(a0.weights.length:Int))) (cond (decide (0<=(IntKind.i64.wrap (a2*(a1.length:Int)))/\(IntKind.i64.wrap (a2*(a1.length:Int)))<=((IntKind.i64.wrap ((IntKind.i64.wrap (a2+(1:Int)))*(a1.length:Int))).toNat:Int))) ((Ci k a1 ((a0.weights.take ((IntKind.i64.wrap ((IntKind.i64.wrap (a2+(1:Int)))*(a1.length:Int))).toNat)).drop ((IntKind.i64.wrap (a2*(a1.length:Int))).toNat))).bind λr1=>(idx a0.mR a2).bind λe2=>(tl k r1 e2).bind λr3=>(tp k r3 a0.mult a0.shift a0.zero).bind λr4=>some r4) none) none
def ix (k:Nat) (a0:Shape) (a1:Int) (a2:Int) (a3:Int):Option (Int):=
 some (IntKind.i64.wrap ((IntKind.i64.wrap ((IntKind.i64.wrap ((IntKind.i64.wrap (a1*a0.w))+a2))*a0.c))+a3))
def dE {ρ:Type} (k:Nat) (p:Int× Int× Int× Int× Int× Int× Int× Int× Int× Int× Int× Int× Int× Int× List Int× List Int× Int× Int× Int× List Int) (v:Int× List Int) (next:(Int× List Int)->Option ρ) (x2:(List Int)->Option ρ):Option ρ:=
 cond (decide (v.1<p.2.2.2.2.2.2.1)) ((ix k (⟨p.2.2.2.2.2.2.2.2.2.2.2.2.2.2.2.2.1,p.2.2.2.2.2.2.2.2.2.2.2.2.2.2.2.2.2.1,p.2.2.2.2.2.2.2.2.2.2.2.2.2.2.2.2.2.2.1⟩:Shape) (IntKind.i64.wrap ((IntKind.i64.wrap (p.1*p.2.2.2.2.2.2.2.2.2.2.1))+p.2.2.2.1)) (IntKind.i64.wrap ((IntKind.i64.wrap (p.2.1*p.2.2.2.2.2.2.2.2.2.2.1))+v.1)) (0:Int)).bind λr1=>cond (decide (p.2.2.1<(0:Int))) (cond (decide (0<=(IntKind.i64.wrap (r1+p.2.2.2.2.2.2.2.2.2.2.2.2.2.2.2.2.2.2.1))/\(IntKind.i64.wrap (r1+p.2.2.2.2.2.2.2.2.2.2.2.2.2.2.2.2.2.2.1))<=(p.2.2.2.2.2.2.2.2.2.2.2.2.2.2.2.2.2.2.2.length:Int))) (cond (decide (0<=r1/\r1<=((IntKind.i64.wrap (r1+p.2.2.2.2.2.2.2.2.2.2.2.2.2.2.2.2.2.2.1)).toNat:Int))) (cond (Nat.ble (v.2.length+((p.2.2.2.2.2.2.2.2.2.2.2.2.2.2.2.2.2.2.2.take ((IntKind.i64.wrap (r1+p.2.2.2.2.2.2.2.2.2.2.2.2.2.2.2.2.2.2.1)).toNat)).drop r1.toNat).length) aT) (next (IntKind.i64.wrap (v.1+(1:Int)),v.2++((p.2.2.2.2.2.2.2.2.2.2.2.2.2.2.2.2.2.2.2.take ((IntKind.i64.wrap (r1+p.2.2.2.2.2.2.2.2.2.2.2.2.2.2.2.2.2.2.1)).toNat)).drop r1.toNat))) none) none) none) ((idx p.2.2.2.2.2.2.2.2.2.2.2.2.2.2.2.2.2.2.2 (IntKind.i64.wrap (r1+p.2.2.1))).bind λe2=>cond (Nat.ble (v.2.length+[e2].length) aT) (next (IntKind.i64.wrap (v.1+(1:Int)),v.2++[e2])) none)) (x2 v.2)
def dF {ρ:Type} (k:Nat) (p:Int× Int× Int× Int× Int× Int× Int× Int× Int× Int× Int× List Int× List Int× Int× Int× Int× List Int) (v:Int× List Int) (next:(Int× List Int)->Option ρ) (x0:(List Int)->Option ρ):Option ρ:=
 cond (decide (v.1<p.2.2.2.1)) (iter (λu4 n4=>dE k (p.1,p.2.1,p.2.2.1,v.1,p.2.2.2.1,v.1,p.2.2.2.2.2.2.1,p.2.2.2.2.1,p.2.2.2.2.2.1,p.2.2.2.2.2.2.1,p.2.2.2.2.2.2.2.1,p.2.2.2.2.2.2.2.2.1,p.2.2.2.2.2.2.2.2.2.1,p.2.2.2.2.2.2.2.2.2.2.1,p.2.2.2.2.2.2.2.2.2.2.2.1,p.2.2.2.2.2.2.2.2.2.2.2.2.1,p.2.2.2.2.2.2.2.2.2.2.2.2.2.1,p.2.2.2.2.2.2.2.2.2.2.2.2.2.2.1,p.2.2.2.2.2.2.2.2.2.2.2.2.2.2.2.1,p.2.2.2.2.2.2.2.2.2.2.2.2.2.2.2.2) u4 n4 (λy3=>next (IntKind.i64.wrap (v.1+(1:Int)),y3))) k ((0:Int),v.2)) (x0 v.2)
def cE (k:Nat) (a0:ax) (a1:av) (a2:Int) (a3:Int) (a4:Int):Option (List Int):=
 iter (λu6 n6=>dF k (a2,a3,a4,a0.size,a0.kind,a0.out,a0.size,a0.step,a0.mult,a0.shift,a0.zero,a0.weights,a0.mR,a1.sh.h,a1.sh.w,a1.sh.c,a1.data) u6 n6 (λy5=>some y5)) k ((0:Int),([]:List Int))
def dR {ρ:Type} (k:Nat) (p:List Int) (v:Int× Int) (next:(Int× Int)->Option ρ) (x0:Int->Option ρ):Option ρ:=
 cond (decide (v.2<(p.length:Int))) ((idx p v.2).bind λe2=>next (if e2>v.1 then e2 else v.1,IntKind.i64.wrap (v.2+(1:Int)))) (x0 v.1)
def fk (k:Nat) (a0:List Int):Option (Int):=
 cond (decide ((a0.length:Int)<(1:Int))) (none) ((idx a0 (0:Int)).bind λe1=>iter (λu4 n4=>dR k a0 u4 n4 (λy3=>some y3)) k (e1,(1:Int)))
def iy {ρ:Type} (k:Nat) (p:Int× Int× Int× Int× Int× Int× Int× Int× List Int× List Int× List Int) (v:Int× Int) (next:(Int× Int)->Option ρ) (x1:Int->Option ρ):Option ρ:=
 cond (decide (v.2<p.1)) (cond (decide (0<=v.2/\v.2<(p.2.2.2.2.2.2.2.2.2.2.length:Int))) ((p.2.2.2.2.2.2.2.2.2.2[v.2.toNat]?).bind λe7=>next (IntKind.i64.wrap (v.1+e7),IntKind.i64.wrap (v.2+(1:Int)))) none) (x1 v.1)
def mm (k:Nat) (a0:ax) (a1:av) (a2:Int) (a3:Int) (a4:Int):Option (Int):=
 cond (a0.kind==(0:Int)) ((fC k a0 a1.data a4).bind λr1=>some r1) (cond (a0.kind==(1:Int)) ((cE k a0 a1 a2 a3 (-1:Int)).bind λr2=>(fC k a0 r2 a4).bind λr3=>some r3) (cond (a0.kind==(2:Int)) ((cE k a0 a1 a2 a3 a4).bind λr4=>(fk k r4).bind λr5=>some r5) (cond (a0.kind==(3:Int)) ((cE k a0 a1 a2 a3 a4).bind λr6=>iter (λu10 n10=>iy k ((r6.length:Int),a0.kind,a0.out,a0.size,a0.step,a0.mult,a0.shift,a0.zero,a0.weights,a0.mR,r6) u10 n10 (λy8=>(nr k y8 (IntKind.i64.wrap (a0.size*a0.size))).bind λr9=>some r9)) k ((0:Int),(0:Int))) (cond (a0.kind==(4:Int)) ((ix k a1.sh a2 a3 a4).bind λr11=>(idx a1.data r11).bind λe12=>some (if a0.zero>e12 then a0.zero else e12)) ((idx a1.data a4).bind λe13=>some e13)))))
def kB {ρ:Type} (k:Nat) (p:Int× Int× Int× Int× Int× Int× Int× Int× Int× Int× List Int× Int× Int× Int× Int× Int× Int× Int× List Int× List Int× Int× Int× Int× Int× Int× Int× Int× Int× Int) (v:Int× List Int) (next:(Int× List Int)->Option ρ) (x4:(List Int)->Option ρ):Option ρ:=
 cond (decide (v.1<p.2.2.2.2.2.2.1)) ((mm k (⟨p.2.2.2.2.2.2.2.2.2.2.2.1,p.2.2.2.2.2.2.2.2.2.2.2.2.1,p.2.2.2.2.2.2.2.2.2.2.2.2.2.1,p.2.2.2.2.2.2.2.2.2.2.2.2.2.2.1,p.2.2.2.2.2.2.2.2.2.2.2.2.2.2.2.1,p.2.2.2.2.2.2.2.2.2.2.2.2.2.2.2.2.1,p.2.2.2.2.2.2.2.2.2.2.2.2.2.2.2.2.2.1,p.2.2.2.2.2.2.2.2.2.2.2.2.2.2.2.2.2.2.1,p.2.2.2.2.2.2.2.2.2.2.2.2.2.2.2.2.2.2.2.1⟩:ax) (⟨(⟨p.2.2.2.2.2.2.2.1,p.2.2.2.2.2.2.2.2.1,p.2.2.2.2.2.2.2.2.2.1⟩:Shape),p.2.2.2.2.2.2.2.2.2.2.1⟩:av) p.1 p.2.1 v.1).bind λr3=>cond (Nat.ble (v.2.length+[r3].length) aT) (next (IntKind.i64.wrap (v.1+(1:Int)),v.2++[r3])) none) (x4 v.2)
def kC {ρ:Type} (k:Nat) (p:Int× Int× Int× Int× Int× Int× Int× List Int× Int× Int× Int× Int× Int× Int× Int× List Int× List Int× Int× Int× Int× Int× Int× Int× Int× Int× Int) (v:Int× List Int) (next:(Int× List Int)->Option ρ) (x2:(List Int)->Option ρ):Option ρ:=
 cond (decide (v.1<p.2.2.2.1)) (iter (λu5 n5=>kB k (p.1,v.1,p.2.1,p.2.2.1,p.2.2.2.1,v.1,p.2.2.2.2.2.2.2.2.2.2.2.2.2.2.2.2.2.2.2.2.2.2.1,p.2.2.2.2.1,p.2.2.2.2.2.1,p.2.2.2.2.2.2.1,p.2.2.2.2.2.2.2.1,p.2.2.2.2.2.2.2.2.1,p.2.2.2.2.2.2.2.2.2.1,p.2.2.2.2.2.2.2.2.2.2.1,p.2.2.2.2.2.2.2.2.2.2.2.1,p.2.2.2.2.2.2.2.2.2.2.2.2.1,p.2.2.2.2.2.2.2.2.2.2.2.2.2.1,p.2.2.2.2.2.2.2.2.2.2.2.2.2.2.1,p.2.2.2.2.2.2.2.2.2.2.2.2.2.2.2.1,p.2.2.2.2.2.2.2.2.2.2.2.2.2.2.2.2.1,p.2.2.2.2.2.2.2.2.2.2.2.2.2.2.2.2.2.1,p.2.2.2.2.2.2.2.2.2.2.2.2.2.2.2.2.2.2.1,p.2.2.2.2.2.2.2.2.2.2.2.2.2.2.2.2.2.2.2.1,p.2.2.2.2.2.2.2.2.2.2.2.2.2.2.2.2.2.2.2.2.1,p.2.2.2.2.2.2.2.2.2.2.2.2.2.2.2.2.2.2.2.2.2.1,p.2.2.2.2.2.2.2.2.2.2.2.2.2.2.2.2.2.2.2.2.2.2.1,p.2.2.2.2.2.2.2.2.2.2.2.2.2.2.2.2.2.2.2.2.2.2.2.1,p.2.2.2.2.2.2.2.2.2.2.2.2.2.2.2.2.2.2.2.2.2.2.2.2.1,p.2.2.2.2.2.2.2.2.2.2.2.2.2.2.2.2.2.2.2.2.2.2.2.2.2) u5 n5 (λy4=>next (IntKind.i64.wrap (v.1+(1:Int)),y4))) k ((0:Int),v.2)) (x2 v.2)
def kD {ρ:Type} (k:Nat) (p:Int× Int× Int× Int× List Int× Int× Int× Int× Int× Int× Int× Int× List Int× List Int× Int× Int× Int× Int× Int× Int× Int× Int× Int) (v:Int× List Int) (next:(Int× List Int)->Option ρ) (x0:(List Int)->Option ρ):Option ρ:=
 cond (decide (v.1<p.1)) (iter (λu7 n7=>kC k (v.1,p.1,v.1,p.2.2.2.2.2.2.2.2.2.2.2.2.2.2.2.2.2.2.1,p.2.1,p.2.2.1,p.2.2.2.1,p.2.2.2.2.1,p.2.2.2.2.2.1,p.2.2.2.2.2.2.1,p.2.2.2.2.2.2.2.1,p.2.2.2.2.2.2.2.2.1,p.2.2.2.2.2.2.2.2.2.1,p.2.2.2.2.2.2.2.2.2.2.1,p.2.2.2.2.2.2.2.2.2.2.2.1,p.2.2.2.2.2.2.2.2.2.2.2.2.1,p.2.2.2.2.2.2.2.2.2.2.2.2.2.1,p.2.2.2.2.2.2.2.2.2.2.2.2.2.2.1,p.2.2.2.2.2.2.2.2.2.2.2.2.2.2.2.1,p.2.2.2.2.2.2.2.2.2.2.2.2.2.2.2.2.1,p.2.2.2.2.2.2.2.2.2.2.2.2.2.2.2.2.2.1,p.2.2.2.2.2.2.2.2.2.2.2.2.2.2.2.2.2.2.1,p.2.2.2.2.2.2.2.2.2.2.2.2.2.2.2.2.2.2.2.1,p.2.2.2.2.2.2.2.2.2.2.2.2.2.2.2.2.2.2.2.2.1,p.2.2.2.2.2.2.2.2.2.2.2.2.2.2.2.2.2.2.2.2.2.1,p.2.2.2.2.2.2.2.2.2.2.2.2.2.2.2.2.2.2.2.2.2.2) u7 n7 (λy6=>next (IntKind.i64.wrap (v.1+(1:Int)),y6))) k ((0:Int),v.2)) (x0 v.2)
def qF (k:Nat) (a0:av) (a1:ax):Option (av× Bool):=
 (k6 k a0.sh a1).bind λr1=>cond (!r1.2) (some ((⟨(⟨(0:Int),(0:Int),(0:Int)⟩:Shape),([]:List Int)⟩:av),false)) ((nh k a0).bind λr2=>cond (!r2) (some ((⟨(⟨(0:Int),(0:Int),(0:Int)⟩:Shape),([]:List Int)⟩:av),false)) (iter (λu9 n9=>kD k (r1.1.h,a0.sh.h,a0.sh.w,a0.sh.c,a0.data,a1.kind,a1.out,a1.size,a1.step,a1.mult,a1.shift,a1.zero,a1.weights,a1.mR,(0:Int),(0:Int),(0:Int),r1.1.h,r1.1.w,r1.1.c,r1.1.h,r1.1.w,r1.1.c) u9 n9 (λy8=>some ((⟨r1.1,y8⟩:av),true))) k ((0:Int),([]:List Int))))
end
end
set_option maxRecDepth 100000
set_option maxHeartbeats 4000000
section
noncomputable section
end
end
set_option maxRecDepth 100000
section
noncomputable section
def oq (k:Nat) (a0:Int):Option (Bool):=
 (rr k a0 (-1099511627776:Int) (1099511627775:Int)).bind λr1=>some r1
def gf {ρ:Type} (k:Nat) (p:List Int× Int) (v:Int× Int) (next:(Int× Int)->Option ρ) (x0:Unit->Option ρ) (xret:(Int× Int)->Option ρ):Option ρ:=
 cond (decide (v.2<(6:Int))) (cond (decide (p.2<(0:Int))) (xret ((0:Int),(-1:Int))) (cond (decide (p.2>=(IntKind.i64.wrap ((p.1.length:Int)-v.2)))) (xret ((0:Int),(-1:Int))) ((idx p.1 (IntKind.i64.wrap (p.2+v.2))).bind λe1=>cond (decide ((IntKind.u64.wrap (IntKind.i64.wrap ((7:Int)*v.2)))<0)) none (cond (decide ((IntKind.i64.wrap (e1))<(128:Int))) (cond ((IntKind.i64.wrap (e1))==(0:Int)) (cond (decide (v.2>(0:Int))) (xret ((0:Int),(-1:Int))) (cond (decide ((IntKind.i64.wrap (v.1+(IntKind.i64.wrap (((IntKind.i64.wrap (e1)).tmod (128:Int))*2^(min (IntKind.u64.wrap (IntKind.i64.wrap ((7:Int)*v.2))).toNat IntKind.i64.bits)))))>(2199023255551:Int))) (xret ((0:Int),(-1:Int))) (cond (((IntKind.i64.wrap (v.1+(IntKind.i64.wrap (((IntKind.i64.wrap (e1)).tmod (128:Int))*2^(min (IntKind.u64.wrap (IntKind.i64.wrap ((7:Int)*v.2))).toNat IntKind.i64.bits))))).tmod (2:Int))==(1:Int)) (xret (IntKind.i64.wrap ((IntKind.i64.wrap (0-(IntKind.i64.wrap ((IntKind.i64.wrap (v.1+(IntKind.i64.wrap (((IntKind.i64.wrap (e1)).tmod (128:Int))*2^(min (IntKind.u64.wrap (IntKind.i64.wrap ((7:Int)*v.2))).toNat IntKind.i64.bits)))))+(1:Int))))).tdiv (2:Int)),IntKind.i64.wrap ((IntKind.i64.wrap (p.2+v.2))+(1:Int)))) (xret (IntKind.i64.wrap ((IntKind.i64.wrap (v.1+(IntKind.i64.wrap (((IntKind.i64.wrap (e1)).tmod (128:Int))*2^(min (IntKind.u64.wrap (IntKind.i64.wrap ((7:Int)*v.2))).toNat IntKind.i64.bits))))).tdiv (2:Int)),IntKind.i64.wrap ((IntKind.i64.wrap (p.2+v.2))+(1:Int))))))) (cond (decide ((IntKind.i64.wrap (v.1+(IntKind.i64.wrap (((IntKind.i64.wrap (e1)).tmod (128:Int))*2^(min (IntKind.u64.wrap (IntKind.i64.wrap ((7:Int)*v.2))).toNat IntKind.i64.bits)))))>(2199023255551:Int))) (xret ((0:Int),(-1:Int))) (cond (((IntKind.i64.wrap (v.1+(IntKind.i64.wrap (((IntKind.i64.wrap (e1)).tmod (128:Int))*2^(min (IntKind.u64.wrap (IntKind.i64.wrap ((7:Int)*v.2))).toNat IntKind.i64.bits))))).tmod (2:Int))==(1:Int)) (xret (IntKind.i64.wrap ((IntKind.i64.wrap (0-(IntKind.i64.wrap ((IntKind.i64.wrap (v.1+(IntKind.i64.wrap (((IntKind.i64.wrap (e1)).tmod (128:Int))*2^(min (IntKind.u64.wrap (IntKind.i64.wrap ((7:Int)*v.2))).toNat IntKind.i64.bits)))))+(1:Int))))).tdiv (2:Int)),IntKind.i64.wrap ((IntKind.i64.wrap (p.2+v.2))+(1:Int)))) (xret (IntKind.i64.wrap ((IntKind.i64.wrap (v.1+(IntKind.i64.wrap (((IntKind.i64.wrap (e1)).tmod (128:Int))*2^(min (IntKind.u64.wrap (IntKind.i64.wrap ((7:Int)*v.2))).toNat IntKind.i64.bits))))).tdiv (2:Int)),IntKind.i64.wrap ((IntKind.i64.wrap (p.2+v.2))+(1:Int))))))) (next (IntKind.i64.wrap (v.1+(IntKind.i64.wrap (((IntKind.i64.wrap (e1)).tmod (128:Int))*2^(min (IntKind.u64.wrap (IntKind.i64.wrap ((7:Int)*v.2))).toNat IntKind.i64.bits)))),IntKind.i64.wrap (v.2+(1:Int)))))))) (x0 ())
def qG (k:Nat) (a0:List Int) (a1:Int):Option (Int× Int):=
 iter (λu4 n4=>gf k (a0,a1) u4 n4 (λy2=>some ((0:Int),(-1:Int))) (λy3=>some (y3.1,y3.2))) k ((0:Int),(0:Int))
def cz (k:Nat) (a0_0:List Int) (a0_1:Int) (a0_2:Bool):Option (Int× Int× Bool):=
 cond (a0_2) (cond (decide (a0_0=a0_0)) (some ((0:Int),a0_1,a0_2)) none) ((qG k a0_0 a0_1).bind λr1=>cond (decide (r1.2<(0:Int))) (cond (decide (a0_0=a0_0)) (some ((0:Int),a0_1,true)) none) (cond (decide (a0_0=a0_0)) (some (r1.1,r1.2,a0_2)) none))
def iz {ρ:Type} (k:Nat) (p:Int× List Int× Int) (v:Int× Int) (next:(Int× Int)->Option ρ) (x0:Unit->Option ρ) (xret:(Int× Int)->Option ρ):Option ρ:=
 cond (decide (v.2<p.2.2)) ((idx p.2.1 v.2).bind λe2=>cond (decide ((IntKind.i64.wrap ((7:Int)*v.2))<0)) none (cond (decide (e2>=(128:Int))) (next (IntKind.i64.wrap (((BitVec.ofInt IntKind.i64.bits v.1||| BitVec.ofInt IntKind.i64.bits (IntKind.i64.wrap ((IntKind.i64.wrap (IntKind.u8.wrap (((BitVec.ofInt IntKind.u8.bits e2&&& BitVec.ofInt IntKind.u8.bits (127:Int)).toNat:Int))))*2^(min (IntKind.i64.wrap ((7:Int)*v.2)).toNat IntKind.i64.bits)))).toNat:Int)),IntKind.i64.wrap (v.2+(1:Int)))) (cond (((IntKind.i64.wrap (((BitVec.ofInt IntKind.i64.bits v.1||| BitVec.ofInt IntKind.i64.bits (IntKind.i64.wrap ((IntKind.i64.wrap (IntKind.u8.wrap (((BitVec.ofInt IntKind.u8.bits e2&&& BitVec.ofInt IntKind.u8.bits (127:Int)).toNat:Int))))*2^(min (IntKind.i64.wrap ((7:Int)*v.2)).toNat IntKind.i64.bits)))).toNat:Int))).tmod (2:Int))==(1:Int)) (cond (decide (v.2>(0:Int))) (cond (e2==(0:Int)) (x0 ()) ((oq k (IntKind.i64.wrap ((IntKind.i64.wrap (0-(IntKind.i64.wrap ((IntKind.i64.wrap (((BitVec.ofInt IntKind.i64.bits v.1||| BitVec.ofInt IntKind.i64.bits (IntKind.i64.wrap ((IntKind.i64.wrap (IntKind.u8.wrap (((BitVec.ofInt IntKind.u8.bits e2&&& BitVec.ofInt IntKind.u8.bits (127:Int)).toNat:Int))))*2^(min (IntKind.i64.wrap ((7:Int)*v.2)).toNat IntKind.i64.bits)))).toNat:Int))).tdiv (2:Int)))))-(1:Int)))).bind λr3=>cond (!r3) (x0 ()) (xret (IntKind.i64.wrap ((IntKind.i64.wrap (0-(IntKind.i64.wrap ((IntKind.i64.wrap (((BitVec.ofInt IntKind.i64.bits v.1||| BitVec.ofInt IntKind.i64.bits (IntKind.i64.wrap ((IntKind.i64.wrap (IntKind.u8.wrap (((BitVec.ofInt IntKind.u8.bits e2&&& BitVec.ofInt IntKind.u8.bits (127:Int)).toNat:Int))))*2^(min (IntKind.i64.wrap ((7:Int)*v.2)).toNat IntKind.i64.bits)))).toNat:Int))).tdiv (2:Int)))))-(1:Int)),IntKind.i64.wrap ((IntKind.i64.wrap (p.1+v.2))+(1:Int)))))) ((oq k (IntKind.i64.wrap ((IntKind.i64.wrap (0-(IntKind.i64.wrap ((IntKind.i64.wrap (((BitVec.ofInt IntKind.i64.bits v.1||| BitVec.ofInt IntKind.i64.bits (IntKind.i64.wrap ((IntKind.i64.wrap (IntKind.u8.wrap (((BitVec.ofInt IntKind.u8.bits e2&&& BitVec.ofInt IntKind.u8.bits (127:Int)).toNat:Int))))*2^(min (IntKind.i64.wrap ((7:Int)*v.2)).toNat IntKind.i64.bits)))).toNat:Int))).tdiv (2:Int)))))-(1:Int)))).bind λr4=>cond (!r4) (x0 ()) (xret (IntKind.i64.wrap ((IntKind.i64.wrap (0-(IntKind.i64.wrap ((IntKind.i64.wrap (((BitVec.ofInt IntKind.i64.bits v.1||| BitVec.ofInt IntKind.i64.bits (IntKind.i64.wrap ((IntKind.i64.wrap (IntKind.u8.wrap (((BitVec.ofInt IntKind.u8.bits e2&&& BitVec.ofInt IntKind.u8.bits (127:Int)).toNat:Int))))*2^(min (IntKind.i64.wrap ((7:Int)*v.2)).toNat IntKind.i64.bits)))).toNat:Int))).tdiv (2:Int)))))-(1:Int)),IntKind.i64.wrap ((IntKind.i64.wrap (p.1+v.2))+(1:Int)))))) (cond (decide (v.2>(0:Int))) (cond (e2==(0:Int)) (x0 ()) ((oq k (IntKind.i64.wrap ((IntKind.i64.wrap (((BitVec.ofInt IntKind.i64.bits v.1||| BitVec.ofInt IntKind.i64.bits (IntKind.i64.wrap ((IntKind.i64.wrap (IntKind.u8.wrap (((BitVec.ofInt IntKind.u8.bits e2&&& BitVec.ofInt IntKind.u8.bits (127:Int)).toNat:Int))))*2^(min (IntKind.i64.wrap ((7:Int)*v.2)).toNat IntKind.i64.bits)))).toNat:Int))).tdiv (2:Int)))).bind λr5=>cond (!r5) (x0 ()) (xret (IntKind.i64.wrap ((IntKind.i64.wrap (((BitVec.ofInt IntKind.i64.bits v.1||| BitVec.ofInt IntKind.i64.bits (IntKind.i64.wrap ((IntKind.i64.wrap (IntKind.u8.wrap (((BitVec.ofInt IntKind.u8.bits e2&&& BitVec.ofInt IntKind.u8.bits (127:Int)).toNat:Int))))*2^(min (IntKind.i64.wrap ((7:Int)*v.2)).toNat IntKind.i64.bits)))).toNat:Int))).tdiv (2:Int)),IntKind.i64.wrap ((IntKind.i64.wrap (p.1+v.2))+(1:Int)))))) ((oq k (IntKind.i64.wrap ((IntKind.i64.wrap (((BitVec.ofInt IntKind.i64.bits v.1||| BitVec.ofInt IntKind.i64.bits (IntKind.i64.wrap ((IntKind.i64.wrap (IntKind.u8.wrap (((BitVec.ofInt IntKind.u8.bits e2&&& BitVec.ofInt IntKind.u8.bits (127:Int)).toNat:Int))))*2^(min (IntKind.i64.wrap ((7:Int)*v.2)).toNat IntKind.i64.bits)))).toNat:Int))).tdiv (2:Int)))).bind λr6=>cond (!r6) (x0 ()) (xret (IntKind.i64.wrap ((IntKind.i64.wrap (((BitVec.ofInt IntKind.i64.bits v.1||| BitVec.ofInt IntKind.i64.bits (IntKind.i64.wrap ((IntKind.i64.wrap (IntKind.u8.wrap (((BitVec.ofInt IntKind.u8.bits e2&&& BitVec.ofInt IntKind.u8.bits (127:Int)).toNat:Int))))*2^(min (IntKind.i64.wrap ((7:Int)*v.2)).toNat IntKind.i64.bits)))).toNat:Int))).tdiv (2:Int)),IntKind.i64.wrap ((IntKind.i64.wrap (p.1+v.2))+(1:Int))))))))) (x0 ())
def qH (k:Nat) (a0:List Int) (a1:Int):Option (Int× Int):=
 (rr k a1 (0:Int) (IntKind.i64.wrap ((a0.length:Int)-(1:Int)))).bind λr1=>cond (!r1) (some ((0:Int),(-1:Int))) (cond (decide (0<=(if(IntKind.i64.wrap (a1+(6:Int)))<(a0.length:Int)then(IntKind.i64.wrap (a1+(6:Int)))else(a0.length:Int))/\(if(IntKind.i64.wrap (a1+(6:Int)))<(a0.length:Int)then(IntKind.i64.wrap (a1+(6:Int)))else(a0.length:Int))<=(a0.length:Int))) (cond (decide (0<=a1/\a1<=((if(IntKind.i64.wrap (a1+(6:Int)))<(a0.length:Int)then(IntKind.i64.wrap (a1+(6:Int)))else(a0.length:Int)).toNat:Int))) (iter (λu9 n9=>iz k (a1,(a0.take ((if(IntKind.i64.wrap (a1+(6:Int)))<(a0.length:Int)then(IntKind.i64.wrap (a1+(6:Int)))else(a0.length:Int)).toNat)).drop a1.toNat,(((a0.take ((if(IntKind.i64.wrap (a1+(6:Int)))<(a0.length:Int)then(IntKind.i64.wrap (a1+(6:Int)))else(a0.length:Int)).toNat)).drop a1.toNat).length:Int)) u9 n9 (λy7=>some ((0:Int),(-1:Int))) (λy8=>some (y8.1,y8.2))) k ((0:Int),(0:Int))) none) none)
def aC (k:Nat) (a0:Reader):Option (Int× Int× Bool):=
 cond (a0.bad) (cond (decide (a0.b=a0.b)) (some ((0:Int),a0.at_,a0.bad)) none) ((qH k a0.b a0.at_).bind λr1=>cond (decide (r1.2<(0:Int))) (cond (decide (a0.b=a0.b)) (some ((0:Int),a0.at_,true)) none) (cond (decide (a0.b=a0.b)) (some (r1.1,r1.2,a0.bad)) none))
def dj (k:Nat) (a0:Reader) (a1:Int):Option (Int× Int× Bool):=
 (aC k a0).bind λr1=>(rr k r1.1 (0:Int) a1).bind λr2=>cond (!r2) (cond (decide (a0.b=a0.b)) (some ((0:Int),r1.2.1,true)) none) (cond (decide (a0.b=a0.b)) (some (r1.1,r1.2.1,r1.2.2)) none)
def eg (k:Nat) (a0:Reader):Option (Shape× Int× Bool):=
 (aC k a0).bind λr1=>(aC k (⟨a0.b,r1.2.1,r1.2.2⟩:Reader)).bind λr2=>(aC k (⟨a0.b,r2.2.1,r2.2.2⟩:Reader)).bind λr3=>cond (decide (a0.b=a0.b)) (some ((⟨r1.1,r2.1,r3.1⟩:Shape),r3.2.1,r3.2.2)) none
def bU {ρ:Type} (k:Nat) (p:List Int) (v:Int× Int× Bool× List Int) (next:(Int× Int× Bool× List Int)->Option ρ) (x0:(List Int× Int× Bool)->Option ρ):Option ρ:=
 cond (decide (v.1>(0:Int))) (cond (!v.2.2.1) ((aC k (⟨p,v.2.1,v.2.2.1⟩:Reader)).bind λr2=>cond (Nat.ble (v.2.2.2.length+[r2.1].length) aT) (next (IntKind.i64.wrap (v.1-(1:Int)),r2.2.1,r2.2.2,v.2.2.2++[r2.1])) none) (x0 (v.2.2.2,v.2.1,v.2.2.1))) (x0 (v.2.2.2,v.2.1,v.2.2.1))
def dx (k:Nat) (a0:Reader) (a1:Int):Option (List Int× Int× Bool):=
 (dj k a0 a1).bind λr1=>iter (λu4 n4=>bU k a0.b u4 n4 (λy3=>cond (decide (a0.b=a0.b)) (some (y3.1,y3.2.1,y3.2.2)) none)) k (r1.1,r1.2.1,r1.2.2,([]:List Int))
def ns {ρ:Type} (k:Nat) (p:List Int) (v:Int× Int) (next:(Int× Int)->Option ρ) (x0:Int->Option ρ):Option ρ:=
 cond (decide (v.2<(p.length:Int))) ((idx p v.2).bind λe1=>next ((IntKind.i64.wrap ((IntKind.i64.wrap ((IntKind.i64.wrap ((257:Int)*v.1))+(IntKind.i64.wrap (e1))))+(1:Int))).tmod (1000003:Int),IntKind.i64.wrap (v.2+(1:Int)))) (x0 v.1)
def Cj (k:Nat) (a0:List Int):Option (Int):=
 iter (λu3 n3=>ns k a0 u3 n3 (λy2=>some y2)) k ((1:Int),(0:Int))
def nt {ρ:Type} (k:Nat) (p:List Int× Int) (v:Int× Int) (next:(Int× Int)->Option ρ) (x0:Int->Option ρ):Option ρ:=
 cond (decide (v.2<p.2)) ((idx p.1 v.2).bind λe1=>next ((IntKind.i64.wrap ((IntKind.i64.wrap ((IntKind.i64.wrap (v.1*(257:Int)))+(IntKind.i64.wrap (e1))))+(1:Int))).tmod (1000003:Int),IntKind.i64.wrap (v.2+(1:Int)))) (x0 v.1)
def xQ (k:Nat) (a0:List Int):Option (Int):=
 iter (λu3 n3=>nt k (a0,(a0.length:Int)) u3 n3 (λy2=>some y2)) k ((1:Int),(0:Int))
def iA (k:Nat) (a0:List Int) (a1:List Int):Option (Bool):=
 cond (decide ((a0.length:Int)>=(a1.length:Int))) (cond (decide (0<=(a1.length:Int)/\(a1.length:Int)<=(a0.length:Int))) ((od k ((a0.take ((a1.length:Int).toNat)).drop 0) a1).bind λr1=>some r1) none) (some false)
end
end
set_option maxRecDepth 100000
section
noncomputable section
def jS {ρ:Type} (k:Nat) (p:Int× Int× Int× List Task× Int× Int× Int× Int× Int× Int× Int× Int× Int× Int× Int× Int× Int× Int× Int× Int× Int× Int) (v:Int× List Task) (next:(Int× List Task)->Option ρ) (x0:(List Task)->Option ρ):Option ρ:=
 cond (decide (v.1<(p.2.2.2.1.length:Int))) ((idx p.2.2.2.1 v.1).bind λe1=>(jI k e1.ar).bind λr2=>cond (Nat.ble (v.2.length+1) aT) (next (IntKind.i64.wrap (v.1+(1:Int)),v.2++[(⟨e1.id,r2,e1.at_,e1.due,e1.born⟩:Task)])) none) (x0 v.2)
def lB (k:Nat) (a0:aj):Option (aj):=
 iter (λu4 n4=>jS k (a0.now,a0.ai,a0.age,a0.tasks,a0.run,a0.left,a0.turns,a0.next,(0:Int),(0:Int),(0:Int),(0:Int),(0:Int),(0:Int),(0:Int),a0.now,a0.ai,a0.age,a0.run,a0.left,a0.turns,a0.next) u4 n4 (λy3=>some (⟨a0.now,a0.ai,a0.age,y3,a0.run,a0.left,a0.turns,a0.next⟩:aj))) k ((0:Int),([]:List Task))
def jT (k:Nat) (a0:Int):Option (Bool):=
 (cf k a0 (0:Int) (1000000:Int)).bind λr1=>some r1
def ot {ρ:Type} (k:Nat) (p:Int× List Int× Int× Int× Int) (v:Int) (next:Int->Option ρ) (x0:Unit->Option ρ) (xret:Bool->Option ρ):Option ρ:=
 cond (decide (v<(p.2.1.length:Int))) ((idx p.2.1 v).bind λe6=>(cf k e6 (1:Int) (1000:Int)).bind λr7=>cond (!r7) (xret false) (next (IntKind.i64.wrap (v+(1:Int))))) (x0 ())
def tq (k:Nat) (a0:Task):Option (Bool):=
 (cf k a0.id (1:Int) (1000000:Int)).bind λr1=>cond (!r1) (some false) ((cf k (a0.ar.length:Int) (1:Int) (6:Int)).bind λr2=>cond (!r2) (some false) ((cf k a0.at_ (0:Int) (IntKind.i64.wrap ((a0.ar.length:Int)-(1:Int)))).bind λr3=>cond (!r3) (some false) ((jT k a0.due).bind λr4=>cond (!r4) (some false) ((jT k a0.born).bind λr5=>cond (!r5) (some false) (iter (λu10 n10=>ot k (a0.id,a0.ar,a0.at_,a0.due,a0.born) u10 n10 (λy8=>some true) (λy9=>some y9)) k (0:Int))))))
def qI {ρ:Type} (k:Nat) (p:Int× Int× Int× Int× List Task× Int× Int× Int× Int) (v:Int) (next:Int->Option ρ) (x0:Unit->Option ρ) (xret:Int->Option ρ):Option ρ:=
 cond (decide (v<(p.2.2.2.2.1.length:Int))) ((idx p.2.2.2.2.1 v).bind λe1=>cond (e1.id==p.1) (xret v) (next (IntKind.i64.wrap (v+(1:Int))))) (x0 ())
def kq (k:Nat) (a0:aj) (a1:Int):Option (Int):=
 iter (λu4 n4=>qI k (a1,a0.now,a0.ai,a0.age,a0.tasks,a0.run,a0.left,a0.turns,a0.next) u4 n4 (λy2=>some (-1:Int)) (λy3=>some y3)) k (0:Int)
def mn {ρ:Type} (k:Nat) (p:Int× Int× Int× List Task× Int× Int× Int× Int) (v:Int) (next:Int->Option ρ) (x0:Unit->Option ρ) (xret:Bool->Option ρ):Option ρ:=
 cond (decide (v<(p.2.2.2.1.length:Int))) ((idx p.2.2.2.1 v).bind λe6=>(tq k e6).bind λr7=>cond (!r7) (xret false) (cond (decide (e6.id>=p.2.2.2.2.2.2.2)) (xret false) (cond (decide (e6.born>p.1)) (xret false) (cond (decide (v>(0:Int))) ((idx p.2.2.2.1 (IntKind.i64.wrap (v-(1:Int)))).bind λe8=>cond (decide (e8.id>=e6.id)) (xret false) (next (IntKind.i64.wrap (v+(1:Int))))) (next (IntKind.i64.wrap (v+(1:Int)))))))) (x0 ())
def eW (k:Nat) (a0:aj):Option (Bool):=
 (jT k a0.now).bind λr1=>cond (!r1) (some false) ((cf k a0.ai (0:Int) (1000:Int)).bind λr2=>cond (!r2) (some false) ((cf k a0.age (0:Int) (20:Int)).bind λr3=>cond (!r3) (some false) (cond (decide ((a0.tasks.length:Int)>(12:Int))) (some false) ((jT k a0.turns).bind λr4=>cond (!r4) (some false) ((cf k a0.next (1:Int) (1000000:Int)).bind λr5=>cond (!r5) (some false) (iter (λu16 n16=>mn k (a0.now,a0.ai,a0.age,a0.tasks,a0.run,a0.left,a0.turns,a0.next) u16 n16 (λy9=>cond (a0.run==(0:Int)) (some (a0.left==(0:Int))) ((kq k a0 a0.run).bind λr10=>cond (decide (r10>=(0:Int))) ((idx a0.tasks r10).bind λe11=>(idx a0.tasks r10).bind λe12=>(idx e11.ar e12.at_).bind λe13=>(cf k a0.left (1:Int) e13).bind λr14=>some r14) (some false))) (λy15=>some y15)) k (0:Int)))))))
def lC {ρ:Type} (k:Nat) (p:Int× Int× Int× List Task× Int× Int× Int× Int) (v:Int× List Int) (next:(Int× List Int)->Option ρ) (x0:(List Int)->Option ρ):Option ρ:=
 cond (decide (v.1<(p.2.2.2.1.length:Int))) ((idx p.2.2.2.1 v.1).bind λe2=>cond (decide (e2.due<=p.1)) ((idx p.2.2.2.1 v.1).bind λe3=>cond (Nat.ble (v.2.length+[e3.id].length) aT) (next (IntKind.i64.wrap (v.1+(1:Int)),v.2++[e3.id])) none) (next (IntKind.i64.wrap (v.1+(1:Int)),v.2))) (x0 v.2)
def wx (k:Nat) (a0:aj):Option (List Int):=
 (eW k a0).bind λr1=>cond (!r1) (some ([]:List Int)) (iter (λu5 n5=>lC k (a0.now,a0.ai,a0.age,a0.tasks,a0.run,a0.left,a0.turns,a0.next) u5 n5 (λy4=>some y4)) k ((0:Int),([]:List Int)))
def iB {ρ:Type} (k:Nat) (p:Int× Int× Int× Int× List Task× Int× Int× Int× Int× Int× List Int× Int× Int× Int) (v:Int× Int) (next:(Int× Int)->Option ρ) (x0:Int->Option ρ):Option ρ:=
 cond (decide (v.2<(p.2.2.2.2.2.2.2.2.2.2.1.length:Int))) ((idx p.2.2.2.2.2.2.2.2.2.2.1 v.2).bind λe4=>next (IntKind.i64.wrap (v.1+e4),IntKind.i64.wrap (v.2+(1:Int)))) (x0 v.1)
def qJ (k:Nat) (a0:aj) (a1:Int):Option (Int):=
 (kq k a0 a1).bind λr1=>(eW k a0).bind λr2=>cond (!r2) (some (-1:Int)) (cond (decide (r1<(0:Int))) (some (-1:Int)) ((idx a0.tasks r1).bind λe3=>iter (λu7 n7=>iB k (a1,a0.now,a0.ai,a0.age,a0.tasks,a0.run,a0.left,a0.turns,a0.next,e3.id,e3.ar,e3.at_,e3.due,e3.born) u7 n7 (λy5=>cond (a0.run==a1) ((idx e3.ar e3.at_).bind λe6=>some (IntKind.i64.wrap ((IntKind.i64.wrap (y5-e6))+a0.left))) (some y5))) k ((0:Int),e3.at_)))
def iC {ρ:Type} (k:Nat) (p:Int× Int× Int× Int× List Task× Int× Int× Int× Int) (v:Int× Int) (next:(Int× Int)->Option ρ) (x0:Int->Option ρ):Option ρ:=
 cond (decide (v.2<(p.2.2.2.2.1.length:Int))) ((idx p.2.2.2.2.1 v.2).bind λe2=>cond (decide (e2.due<=p.1)) ((idx p.2.2.2.2.1 v.2).bind λe3=>(qJ k (⟨p.2.1,p.2.2.1,p.2.2.2.1,p.2.2.2.2.1,p.2.2.2.2.2.1,p.2.2.2.2.2.2.1,p.2.2.2.2.2.2.2.1,p.2.2.2.2.2.2.2.2⟩:aj) e3.id).bind λr4=>next (IntKind.i64.wrap (v.1+r4),IntKind.i64.wrap (v.2+(1:Int)))) (next (v.1,IntKind.i64.wrap (v.2+(1:Int))))) (x0 v.1)
def qK (k:Nat) (a0:aj) (a1:Int):Option (Int):=
 (eW k a0).bind λr1=>cond (!r1) (some (-1:Int)) (iter (λu6 n6=>iC k (a1,a0.now,a0.ai,a0.age,a0.tasks,a0.run,a0.left,a0.turns,a0.next) u6 n6 (λy5=>some y5)) k ((0:Int),(0:Int)))
def tu (k:Nat) (a0:aj) (a1:Int):Option (Int):=
 (eW k a0).bind λr1=>cond (!r1) (some (-1:Int)) ((kq k a0 a0.run).bind λr2=>cond (decide (r2>=(0:Int))) ((idx a0.tasks r2).bind λe3=>cond (decide (e3.due>a1)) (some a0.left) (some (0:Int))) (some (0:Int)))
def ou {ρ:Type} (k:Nat) (p:Int× Int× Int× List Task× Int× Int× Int× Int) (v:Int) (next:Int->Option ρ) (x0:Unit->Option ρ) (xret:Bool->Option ρ):Option ρ:=
 cond (decide (v<(p.2.2.2.1.length:Int))) ((idx p.2.2.2.1 v).bind λe3=>(qK k (⟨p.1,p.2.1,p.2.2.1,p.2.2.2.1,p.2.2.2.2.1,p.2.2.2.2.2.1,p.2.2.2.2.2.2.1,p.2.2.2.2.2.2.2⟩:aj) e3.due).bind λr4=>(tu k (⟨p.1,p.2.1,p.2.2.1,p.2.2.2.1,p.2.2.2.2.1,p.2.2.2.2.2.1,p.2.2.2.2.2.2.1,p.2.2.2.2.2.2.2⟩:aj) e3.due).bind λr5=>cond (decide ((IntKind.i64.wrap ((IntKind.i64.wrap (r4+r5))+p.2.1))>(IntKind.i64.wrap (e3.due-p.1)))) (xret false) (next (IntKind.i64.wrap (v+(1:Int))))) (x0 ())
def wy (k:Nat) (a0:aj):Option (Bool):=
 (eW k a0).bind λr1=>cond (!r1) (some false) ((wx k a0).bind λr2=>cond (decide ((r2.length:Int)>(0:Int))) (some false) (iter (λu8 n8=>ou k (a0.now,a0.ai,a0.age,a0.tasks,a0.run,a0.left,a0.turns,a0.next) u8 n8 (λy6=>some true) (λy7=>some y7)) k (0:Int)))
def Ck (k:Nat) (a0:aj) (a1:List Int) (a2:Int):Option (aj× Int× Int):=
 (lB k a0).bind λr1=>(jI k a1).bind λr2=>(eW k a0).bind λr3=>cond (!r3) (some (r1,(0:Int),(1:Int))) ((tq k (⟨a0.next,r2,(0:Int),a2,a0.now⟩:Task)).bind λr4=>cond (!r4) (some (r1,(0:Int),(1:Int))) (cond ((a0.tasks.length:Int)==(12:Int)) (some (r1,(0:Int),(2:Int))) (cond (a0.next==(1000000:Int)) (some (r1,(0:Int),(2:Int))) (cond (Nat.ble (r1.tasks.length+1) aT) ((wy k (⟨r1.now,r1.ai,r1.age,(r1.tasks++[(⟨a0.next,r2,(0:Int),a2,a0.now⟩:Task)]),r1.run,r1.left,r1.turns,(IntKind.i64.wrap (a0.next+(1:Int)))⟩:aj)).bind λr5=>cond (!r5) ((lB k a0).bind λr6=>some (r6,(0:Int),(3:Int))) (some ((⟨r1.now,r1.ai,r1.age,(r1.tasks++[(⟨a0.next,r2,(0:Int),a2,a0.now⟩:Task)]),r1.run,r1.left,r1.turns,(IntKind.i64.wrap (a0.next+(1:Int)))⟩:aj),a0.next,(0:Int)))) none))))
def eX {ρ:Type} (k:Nat) (p:List Task× Int× Int× Int× Int× Int× Int× Int× Int× Int× Int× Int× Int× Int× Int× Int) (v:Int× List Task) (next:(Int× List Task)->Option ρ) (x0:(List Task)->Option ρ):Option ρ:=
 cond (decide (v.1<p.2.1)) ((idx p.1 v.1).bind λe1=>(bS k e1.ar).bind λr2=>cond (Nat.ble (v.2.length+1) aT) (next (IntKind.i64.wrap (v.1+(1:Int)),v.2++[(⟨e1.id,r2,e1.at_,e1.due,e1.born⟩:Task)])) none) (x0 v.2)
def fD (k:Nat) (a0:aj):Option (aj):=
 iter (λu4 n4=>eX k (a0.tasks,(a0.tasks.length:Int),a0.now,a0.ai,a0.age,a0.run,a0.left,a0.turns,a0.next,(0:Int),(0:Int),(0:Int),(0:Int),(0:Int),(0:Int),(0:Int)) u4 n4 (λy3=>some (⟨a0.now,a0.ai,a0.age,y3,a0.run,a0.left,a0.turns,a0.next⟩:aj))) k ((0:Int),([]:List Task))
def mo (k:Nat) (a0:Int):Option (Bool):=
 (rr k a0 (0:Int) (1000000:Int)).bind λr1=>some r1
def rT (k:Nat) (a0:Int):Option (Bool):=
 (rr k a0 (1:Int) (1000:Int)).bind λr1=>some (!r1)
def aM {ρ:Type} (k:Nat) (p:List Int× Int) (v:Int) (next:Int->Option ρ) (x0:Unit->Option ρ) (xret:Int->Option ρ):Option ρ:=
 cond (decide (v<p.2)) ((idx p.1 v).bind λe1=>(rT k e1).bind λr2=>cond (r2) (xret v) (next (IntKind.i64.wrap (v+(1:Int))))) (x0 ())
def bG (k:Nat) (a0:List Int):Option (Int):=
 iter (λu5 n5=>aM k (a0,(a0.length:Int)) u5 n5 (λy3=>some (-1:Int)) (λy4=>some y4)) k (0:Int)
def bn (k:Nat) (a0:List Int):Option (Bool):=
 (bG k a0).bind λr1=>some (decide (r1>=(0:Int)))
def tv (k:Nat) (a0:Task):Option (Bool):=
 (rr k a0.id (1:Int) (1000000:Int)).bind λr1=>cond (r1) ((rr k (a0.ar.length:Int) (1:Int) (6:Int)).bind λr2=>cond (r2) ((bn k a0.ar).bind λr3=>cond (!r3) ((rr k a0.at_ (0:Int) (IntKind.i64.wrap ((a0.ar.length:Int)-(1:Int)))).bind λr4=>cond (r4) ((mo k a0.due).bind λr5=>cond (r5) ((mo k a0.born).bind λr6=>some r6) (some false)) (some false)) (some false)) (some false)) (some false)
def fl {ρ:Type} (k:Nat) (p:List Task× Int× Int× Int× Int× List Task× Int× Int× Int× Int) (v:Int) (next:Int->Option ρ) (x0:Unit->Option ρ) (xret:Bool->Option ρ):Option ρ:=
 cond (decide (v<p.2.1)) ((idx p.1 v).bind λe1=>(tv k e1).bind λr2=>cond (!r2) (xret false) (cond (decide (e1.id>=p.2.2.2.2.2.2.2.2.2)) (xret false) (cond (decide (e1.born>p.2.2.1)) (xret false) (cond (decide (v>(0:Int))) ((idx p.2.2.2.2.2.1 (IntKind.i64.wrap (v-(1:Int)))).bind λe3=>cond (decide (e3.id>=e1.id)) (xret false) (next (IntKind.i64.wrap (v+(1:Int))))) (next (IntKind.i64.wrap (v+(1:Int)))))))) (x0 ())
def gJ (k:Nat) (a0:aj):Option (Bool):=
 iter (λu6 n6=>fl k (a0.tasks,(a0.tasks.length:Int),a0.now,a0.ai,a0.age,a0.tasks,a0.run,a0.left,a0.turns,a0.next) u6 n6 (λy4=>some (decide ((a0.tasks.length:Int)<=(12:Int)))) (λy5=>some y5)) k (0:Int)
def jf (k:Nat) (a0:Task) (a1_0:Int):Option (Bool):=
 cond (decide (a1_0=a1_0)) (some (a0.id==a1_0)) none
def bR {ρ:Type} (k:Nat) (p:List Task× Int× Int) (v:Int) (next:Int->Option ρ) (x0:Unit->Option ρ) (xret:Int->Option ρ):Option ρ:=
 cond (decide (v<p.2.1)) ((idx p.1 v).bind λe1=>(jf k e1 p.2.2).bind λr2=>cond (r2) (xret v) (next (IntKind.i64.wrap (v+(1:Int))))) (x0 ())
def cY (k:Nat) (a0:List Task) (a1c0_0:Int):Option (Int):=
 iter (λu5 n5=>bR k (a0,(a0.length:Int),a1c0_0) u5 n5 (λy3=>cond (decide (a1c0_0=a1c0_0)) (some (-1:Int)) none) (λy4=>cond (decide (a1c0_0=a1c0_0)) (some y4) none)) k (0:Int)
def c9 (k:Nat) (a0:aj) (a1:Int):Option (Int):=
 (cY k a0.tasks a1).bind λr1=>some r1
def lD (k:Nat) (a0:aj):Option (Bool):=
 (mo k a0.now).bind λr1=>cond (!r1) (some false) ((rr k a0.ai (0:Int) (1000:Int)).bind λr2=>cond (!r2) (some false) ((rr k a0.age (0:Int) (20:Int)).bind λr3=>cond (!r3) (some false) ((mo k a0.turns).bind λr4=>cond (!r4) (some false) ((rr k a0.next (1:Int) (1000000:Int)).bind λr5=>cond (!r5) (some false) ((gJ k a0).bind λr6=>cond (!r6) (some false) ((c9 k a0 a0.run).bind λr7=>cond (a0.run==(0:Int)) (cond (a0.run==(0:Int)) (some (a0.left==(0:Int))) (some false)) (cond (decide (r7<(0:Int))) (cond (a0.run==(0:Int)) (some (a0.left==(0:Int))) (some false)) ((idx a0.tasks r7).bind λe8=>(idx a0.tasks r7).bind λe9=>(idx e8.ar e9.at_).bind λe10=>(rr k a0.left (1:Int) e10).bind λr11=>some r11))))))))
def cU (k:Nat) (a0:aj) (a1:Task):Option (Bool):=
 some (decide (a1.due<=a0.now))
def jv (k:Nat) (a0:aj) (a1:Task):Option (Int):=
 cond (decide (0<=a1.at_/\a1.at_<=(a1.ar.length:Int))) ((Lc k ((a1.ar.take a1.ar.length).drop a1.at_.toNat)).bind λr1=>cond (a0.run==a1.id) ((idx a1.ar a1.at_).bind λe2=>some (IntKind.i64.wrap (r1+(IntKind.i64.wrap (a0.left-e2))))) (some r1)) none
def eY {ρ:Type} (k:Nat) (p:Int× List Task× Int× Int× Int× Int× List Task× Int× Int× Int× Int) (v:Int× Int) (next:(Int× Int)->Option ρ) (x0:Int->Option ρ):Option ρ:=
 cond (decide (v.2<p.2.2.1)) ((idx p.2.1 v.2).bind λe1=>cond (decide (e1.due<=p.1)) ((jv k (⟨p.2.2.2.1,p.2.2.2.2.1,p.2.2.2.2.2.1,p.2.2.2.2.2.2.1,p.2.2.2.2.2.2.2.1,p.2.2.2.2.2.2.2.2.1,p.2.2.2.2.2.2.2.2.2.1,p.2.2.2.2.2.2.2.2.2.2⟩:aj) e1).bind λr2=>next (IntKind.i64.wrap (v.1+r2),IntKind.i64.wrap (v.2+(1:Int)))) (next (v.1,IntKind.i64.wrap (v.2+(1:Int))))) (x0 v.1)
def jx (k:Nat) (a0:aj) (a1:Int):Option (Int):=
 iter (λu4 n4=>eY k (a1,a0.tasks,(a0.tasks.length:Int),a0.now,a0.ai,a0.age,a0.tasks,a0.run,a0.left,a0.turns,a0.next) u4 n4 (λy3=>some y3)) k ((0:Int),(0:Int))
def kE (k:Nat) (a0:aj) (a1:Int):Option (Int):=
 (c9 k a0 a0.run).bind λr1=>cond (decide (r1>=(0:Int))) ((idx a0.tasks r1).bind λe2=>cond (decide (e2.due>a1)) (some a0.left) (some (0:Int))) (some (0:Int))
def kF (k:Nat) (a0:Task) (a1:aj):Option (Bool):=
 (cU k a1 a0).bind λr1=>cond (r1) (cond (decide (a1.now=a1.now)) (cond (decide (a1.ai=a1.ai)) (cond (decide (a1.age=a1.age)) (cond (decide (a1.tasks=a1.tasks)) (cond (decide (a1.run=a1.run)) (cond (decide (a1.left=a1.left)) (cond (decide (a1.turns=a1.turns)) (cond (decide (a1.next=a1.next)) (some true) none) none) none) none) none) none) none) none) ((jx k a1 a0.due).bind λr2=>(kE k a1 a0.due).bind λr3=>cond (decide (a1.now=a1.now)) (cond (decide (a1.ai=a1.ai)) (cond (decide (a1.age=a1.age)) (cond (decide (a1.tasks=a1.tasks)) (cond (decide (a1.run=a1.run)) (cond (decide (a1.left=a1.left)) (cond (decide (a1.turns=a1.turns)) (cond (decide (a1.next=a1.next)) (some (decide ((IntKind.i64.wrap ((IntKind.i64.wrap (r2+r3))+a1.ai))>(IntKind.i64.wrap (a0.due-a1.now))))) none) none) none) none) none) none) none) none)
def bJ {ρ:Type} (k:Nat) (p:List Task× Int× Int× Int× Int× List Task× Int× Int× Int× Int) (v:Int) (next:Int->Option ρ) (x0:Unit->Option ρ) (xret:Int->Option ρ):Option ρ:=
 cond (decide (v<p.2.1)) ((idx p.1 v).bind λe1=>(kF k e1 (⟨p.2.2.1,p.2.2.2.1,p.2.2.2.2.1,p.2.2.2.2.2.1,p.2.2.2.2.2.2.1,p.2.2.2.2.2.2.2.1,p.2.2.2.2.2.2.2.2.1,p.2.2.2.2.2.2.2.2.2⟩:aj)).bind λr2=>cond (r2) (xret v) (next (IntKind.i64.wrap (v+(1:Int))))) (x0 ())
def cS (k:Nat) (a0:List Task) (a1c0:aj):Option (Int):=
 iter (λu5 n5=>bJ k (a0,(a0.length:Int),a1c0.now,a1c0.ai,a1c0.age,a1c0.tasks,a1c0.run,a1c0.left,a1c0.turns,a1c0.next) u5 n5 (λy3=>cond (decide (a1c0.now=a1c0.now)) (cond (decide (a1c0.ai=a1c0.ai)) (cond (decide (a1c0.age=a1c0.age)) (cond (decide (a1c0.tasks=a1c0.tasks)) (cond (decide (a1c0.run=a1c0.run)) (cond (decide (a1c0.left=a1c0.left)) (cond (decide (a1c0.turns=a1c0.turns)) (cond (decide (a1c0.next=a1c0.next)) (some (-1:Int)) none) none) none) none) none) none) none) none) (λy4=>cond (decide (a1c0.now=a1c0.now)) (cond (decide (a1c0.ai=a1c0.ai)) (cond (decide (a1c0.age=a1c0.age)) (cond (decide (a1c0.tasks=a1c0.tasks)) (cond (decide (a1c0.run=a1c0.run)) (cond (decide (a1c0.left=a1c0.left)) (cond (decide (a1c0.turns=a1c0.turns)) (cond (decide (a1c0.next=a1c0.next)) (some y4) none) none) none) none) none) none) none) none)) k (0:Int)
def cF (k:Nat) (a0:List Task) (a1c0:aj):Option (Bool):=
 (cS k a0 a1c0).bind λr1=>cond (decide (a1c0.now=a1c0.now)) (cond (decide (a1c0.ai=a1c0.ai)) (cond (decide (a1c0.age=a1c0.age)) (cond (decide (a1c0.tasks=a1c0.tasks)) (cond (decide (a1c0.run=a1c0.run)) (cond (decide (a1c0.left=a1c0.left)) (cond (decide (a1c0.turns=a1c0.turns)) (cond (decide (a1c0.next=a1c0.next)) (some (decide (r1>=(0:Int)))) none) none) none) none) none) none) none) none
def wz (k:Nat) (a0:aj):Option (Bool):=
 (lD k a0).bind λr1=>cond (r1) ((cF k a0.tasks a0).bind λr2=>some (!r2)) (some false)
def Cl (k:Nat) (a0:aj) (a1:List Int) (a2:Int):Option (aj× Int× Int):=
 (bS k a1).bind λr1=>(fD k a0).bind λr2=>(lD k a0).bind λr3=>cond (!r3) (some (r2,(0:Int),(1:Int))) ((tv k (⟨a0.next,r1,(0:Int),a2,a0.now⟩:Task)).bind λr4=>cond (!r4) (some (r2,(0:Int),(1:Int))) (cond ((a0.tasks.length:Int)==(12:Int)) (some (r2,(0:Int),(2:Int))) (cond (a0.next==(1000000:Int)) (some (r2,(0:Int),(2:Int))) ((fD k a0).bind λr5=>cond (Nat.ble (r5.tasks.length+1) aT) ((wz k (⟨r5.now,r5.ai,r5.age,(r5.tasks++[(⟨a0.next,r1,(0:Int),a2,a0.now⟩:Task)]),r5.run,r5.left,r5.turns,(IntKind.i64.wrap (r5.next+(1:Int)))⟩:aj)).bind λr6=>cond (!r6) (some (r2,(0:Int),(3:Int))) (some ((⟨r5.now,r5.ai,r5.age,(r5.tasks++[(⟨a0.next,r1,(0:Int),a2,a0.now⟩:Task)]),r5.run,r5.left,r5.turns,(IntKind.i64.wrap (r5.next+(1:Int)))⟩:aj),a0.next,(0:Int)))) none))))
end
end
set_option maxRecDepth 100000
section
noncomputable section
def eC {ρ:Type} (k:Nat) (p:Int× Int× Int× Int× Int× Int× Int× Int× List bY) (v:Int× List bY) (next:(Int× List bY)->Option ρ) (x0:(List bY)->Option ρ):Option ρ:=
 cond (decide (v.1<(p.2.2.2.2.2.2.2.2.length:Int))) (cond (decide (0<=v.1/\v.1<(p.2.2.2.2.2.2.2.2.length:Int))) ((p.2.2.2.2.2.2.2.2[v.1.toNat]?).bind λe1=>cond (e1.id !=p.1) (cond (decide (0<=v.1/\v.1<(p.2.2.2.2.2.2.2.2.length:Int))) ((p.2.2.2.2.2.2.2.2[v.1.toNat]?).bind λe2=>cond (Nat.ble (v.2.length+[e2].length) aT) (next (IntKind.i64.wrap (v.1+(1:Int)),v.2++[e2])) none) none) (next (IntKind.i64.wrap (v.1+(1:Int)),v.2))) none) (x0 v.2)
def fm (k:Nat) (a0_0:Int) (a0_1:Int) (a0_2:Int) (a0_3:List bY) (a0_4:Int) (a0_5:Int) (a0_6:Int) (a0_7:Int) (a1:Int):Option (List bY):=
 iter (λu4 n4=>eC k (a1,a0_0,a0_1,a0_2,a0_4,a0_5,a0_6,a0_7,a0_3) u4 n4 (λy3=>cond (decide (a0_0=a0_0)) (cond (decide (a0_1=a0_1)) (cond (decide (a0_2=a0_2)) (cond (decide (a0_4=a0_4)) (cond (decide (a0_5=a0_5)) (cond (decide (a0_6=a0_6)) (cond (decide (a0_7=a0_7)) (some y3) none) none) none) none) none) none) none)) k ((0:Int),([]:List bY))
def jU (k:Nat) (a0:aj) (a1:Int):Option (aj× Bool):=
 (lB k a0).bind λr1=>(eW k a0).bind λr2=>cond (!r2) (some (r1,false)) ((kq k a0 a1).bind λr3=>cond (decide (r3<(0:Int))) (some (r1,false)) ((ko r1.tasks).bind λy4=>(fm k r1.now r1.ai r1.age y4 r1.run r1.left r1.turns r1.next a1).bind λr5=>cond (jd r5) ((oS r1.tasks r5).bind λz6=>cond (r1.run==a1) (some ((⟨r1.now,r1.ai,r1.age,z6,(0:Int),(0:Int),r1.turns,r1.next⟩:aj),true)) (some ((⟨r1.now,r1.ai,r1.age,z6,r1.run,r1.left,r1.turns,r1.next⟩:aj),true))) none))
def dL (k:Nat) (a0:bY) (a1_0:Int):Option (Bool):=
 cond (decide (a1_0=a1_0)) (some (a0.id==a1_0)) none
def bK {ρ:Type} (k:Nat) (p:List bY× Int× Int) (v:Int) (next:Int->Option ρ) (x0:Unit->Option ρ) (xret:Int->Option ρ):Option ρ:=
 cond (decide (v<p.2.1)) ((idx p.1 v).bind λe1=>(dL k e1 p.2.2).bind λr2=>cond (r2) (xret v) (next (IntKind.i64.wrap (v+(1:Int))))) (x0 ())
def b9 (k:Nat) (a0:List bY) (a1c0_0:Int):Option (Int):=
 iter (λu5 n5=>bK k (a0,(a0.length:Int),a1c0_0) u5 n5 (λy3=>cond (decide (a1c0_0=a1c0_0)) (some (-1:Int)) none) (λy4=>cond (decide (a1c0_0=a1c0_0)) (some y4) none)) k (0:Int)
def aX {ρ:Type} (k:Nat) (p:Int) (v:Int× Int× List bY) (next:(Int× Int× List bY)->Option ρ) (x0:(Int× List bY)->Option ρ):Option ρ:=
 cond (decide (v.2.1<(v.2.2.length:Int))) (cond (decide (0<=v.2.1/\v.2.1<(v.2.2.length:Int))) ((v.2.2[v.2.1.toNat]?).bind λe2=>(dL k e2 p).bind λr3=>cond (!r3) (cond (decide (0<=v.1/\v.1<(v.2.2.length:Int))) (next (IntKind.i64.wrap (v.1+(1:Int)),IntKind.i64.wrap (v.2.1+(1:Int)),v.2.2.set v.1.toNat e2)) none) (next (v.1,IntKind.i64.wrap (v.2.1+(1:Int)),v.2.2))) none) (x0 (v.1,v.2.2))
def bg (k:Nat) (a0:List bY) (a1c0_0:Int):Option (List bY):=
 (b9 k a0 a1c0_0).bind λr1=>cond (r1==(-1:Int)) (cond (decide (a1c0_0=a1c0_0)) (some a0) none) (iter (λu5 n5=>aX k a1c0_0 u5 n5 (λy4=>cond (decide (0<=y4.1/\y4.1<=(y4.2.length:Int))) (cond (decide (0<=y4.1/\y4.1<=(((y4.2).take y4.1.toNat++List.replicate (y4.2.length-y4.1.toNat) (⟨(0:Int),(0:Nat),(0:Int),(0:Int),(0:Int)⟩:bY)++(y4.2).drop (y4.1.toNat+(y4.2.length-y4.1.toNat))).length:Int))) (cond (decide (a1c0_0=a1c0_0)) (some (((y4.2).take y4.1.toNat++List.replicate (y4.2.length-y4.1.toNat) (⟨(0:Int),(0:Nat),(0:Int),(0:Int),(0:Int)⟩:bY)++(y4.2).drop (y4.1.toNat+(y4.2.length-y4.1.toNat))).take (y4.1.toNat-0))) none) none) none)) k (r1,IntKind.i64.wrap (r1+(1:Int)),a0))
def dn (k:Nat) (a0_0:Int) (a0_1:Int) (a0_2:Int) (a0_3:List bY) (a0_4:Int) (a0_5:Int) (a0_6:Int) (a0_7:Int) (a1:Int):Option (List bY× Int× Int):=
 (bg k a0_3 a1).bind λr1=>cond (a0_4==a1) (cond (decide (a0_0=a0_0)) (cond (decide (a0_1=a0_1)) (cond (decide (a0_2=a0_2)) (cond (decide (a0_6=a0_6)) (cond (decide (a0_7=a0_7)) (some (r1,(0:Int),(0:Int))) none) none) none) none) none) (cond (decide (a0_0=a0_0)) (cond (decide (a0_1=a0_1)) (cond (decide (a0_2=a0_2)) (cond (decide (a0_6=a0_6)) (cond (decide (a0_7=a0_7)) (some (r1,a0_4,a0_5)) none) none) none) none) none)
end
end
end Go.Proofs.Ev
