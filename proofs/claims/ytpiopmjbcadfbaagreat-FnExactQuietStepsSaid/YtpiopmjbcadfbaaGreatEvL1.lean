/- Typed functions and what holds of them: part 1. -/
import Derived.Test.YtpiopmjbcadfbaaGreatEvK6
import Derived.Test.YtpiopmjbcadfbaaGreatEvK7
set_option linter.unusedVariables false
set_option linter.unusedSimpArgs false
set_option linter.unusedSectionVars false
namespace Go.Proofs.Ev
set_option maxRecDepth 100000
section
noncomputable section
def sF (k:Nat) (a0:List Int) (a1:Int):Option (Int):=
 cond (decide ((IntKind.i64.wrap (a1-(a0.length:Int)))<(0:Int))) (some (-1:Int)) (some (IntKind.i64.wrap (a1-(a0.length:Int))))
def uv (k:Nat) (a0:av) (a1:Int):Option (Int):=
 (sF k a0.data a1).bind λr1=>cond (decide (r1<(0:Int))) (some (-1:Int)) (some r1)
def xo (k:Nat) (a0:Shape):Option (Shape):=
 some a0
def nL {ρ:Type} (k:Nat) (p:List Int) (v:Int× List Int) (next:(Int× List Int)->Option ρ) (x0:(List Int)->Option ρ):Option ρ:=
 cond (decide (v.1<(p.length:Int))) ((idx p v.1).bind λe1=>cond (decide (0<=v.1/\v.1<(v.2.length:Int))) (next (IntKind.i64.wrap (v.1+(1:Int)),v.2.set v.1.toNat e1)) none) (x0 v.2)
def sG (k:Nat) (a0:List Int):Option (List Int):=
 cond (decide (0<=(a0.length:Int)/\(a0.length:Int)<=(a0.length:Int)/\(a0.length:Int)<=(aU:Int))) (iter (λu3 n3=>nL k a0 u3 n3 (λy2=>some y2)) k ((0:Int),List.replicate ((a0.length:Int).toNat) (0:Int))) none
def p7 (k:Nat) (a0:av):Option (av):=
 (xo k a0.sh).bind λr1=>(sG k a0.data).bind λr2=>some (⟨r1,r2⟩:av)
def jA {ρ:Type} (k:Nat) (p:List Int) (v:Int× List Int) (next:(Int× List Int)->Option ρ) (x0:(List Int)->Option ρ):Option ρ:=
 cond (decide (v.1<(p.length:Int))) ((idx p v.1).bind λe1=>cond (Nat.ble (v.2.length+[e1].length) aU) (next (IntKind.i64.wrap (v.1+(1:Int)),v.2++[e1])) none) (x0 v.2)
def jB (k:Nat) (a0:List Int):Option (List Int):=
 iter (λu3 n3=>jA k a0 u3 n3 (λy2=>some y2)) k ((0:Int),([]:List Int))
def pq (k:Nat) (a0:av):Option (av):=
 (jB k a0.data).bind λr1=>some (⟨a0.sh,r1⟩:av)
def b9 (k:Nat) (a0:Int) (a1:Int) (a2:Int):Option (Bool):=
 cond (decide (a1<=a0)) (some (decide (a0<=a2))) (some false)
def jC (k:Nat) (a0:Shape):Option (Bool):=
 (b9 k a0.h (1:Int) (8:Int)).bind λr1=>cond (r1) ((b9 k a0.w (1:Int) (8:Int)).bind λr2=>cond (r2) ((b9 k a0.c (1:Int) (8:Int)).bind λr3=>some r3) (some false)) (some false)
def dt (k:Nat) (a0:Shape):Option (Int):=
 (jC k a0).bind λr1=>cond (!r1) (some (0:Int)) (some (IntKind.i64.wrap ((IntKind.i64.wrap (a0.h*a0.w))*a0.c)))
def gw (k:Nat) (a0:Int):Option (Bool):=
 (b9 k a0 (-128:Int) (127:Int)).bind λr1=>some r1
def kh {ρ:Type} (k:Nat) (p:Int× Int× Int× List Int) (v:Int) (next:Int->Option ρ) (x0:Unit->Option ρ) (xret:Bool->Option ρ):Option ρ:=
 cond (decide (v<(p.2.2.2.length:Int))) ((idx p.2.2.2 v).bind λe3=>(gw k e3).bind λr4=>cond (!r4) (xret false) (next (IntKind.i64.wrap (v+(1:Int))))) (x0 ())
def kP (k:Nat) (a0:av):Option (Bool):=
 (jC k a0.sh).bind λr1=>cond (!r1) (some false) ((dt k a0.sh).bind λr2=>cond ((a0.data.length:Int) !=r2) (some false) (iter (λu7 n7=>kh k (a0.sh.h,a0.sh.w,a0.sh.c,a0.data) u7 n7 (λy5=>some true) (λy6=>some y6)) k (0:Int)))
def bR (k:Nat) (a0:List Int):Option (List Int):=
 cond (isNil a0) (both (some ([]:List Int)) (cond (Nat.ble (([]:List Int).length+a0.length) aU) (some (([]:List Int)++a0)) none)) (cond (Nat.ble (([]:List Int).length+a0.length) aU) (some (([]:List Int)++a0)) none)
def ik (k:Nat) (a0:av):Option (av):=
 (bR k a0.data).bind λr1=>some (⟨a0.sh,r1⟩:av)
def qT (k:Nat) (a0:Int) (a1:Int) (a2:Int):Option (Bool):=
 cond (decide (a1<=a0)) (some (decide (a0<=a2))) (some false)
def mT (k:Nat) (a0:Shape):Option (Bool):=
 (qT k a0.h (1:Int) (8:Int)).bind λr1=>cond (r1) ((qT k a0.w (1:Int) (8:Int)).bind λr2=>cond (r2) ((qT k a0.c (1:Int) (8:Int)).bind λr3=>some r3) (some false)) (some false)
def jg (k:Nat) (a0:Shape):Option (Int):=
 (mT k a0).bind λr1=>cond (!r1) (some (0:Int)) (some (IntKind.i64.wrap ((IntKind.i64.wrap (a0.h*a0.w))*a0.c)))
def nM (k:Nat) (a0:Int):Option (Bool):=
 (qT k a0 (-128:Int) (127:Int)).bind λr1=>some (!r1)
def aG {ρ:Type} (k:Nat) (p:List Int× Int) (v:Int) (next:Int->Option ρ) (x0:Unit->Option ρ) (xret:Int->Option ρ):Option ρ:=
 cond (decide (v<p.2)) ((idx p.1 v).bind λe1=>(nM k e1).bind λr2=>cond (r2) (xret v) (next (IntKind.i64.wrap (v+(1:Int))))) (x0 ())
def bw (k:Nat) (a0:List Int):Option (Int):=
 iter (λu5 n5=>aG k (a0,(a0.length:Int)) u5 n5 (λy3=>some (-1:Int)) (λy4=>some y4)) k (0:Int)
def ba (k:Nat) (a0:List Int):Option (Bool):=
 (bw k a0).bind λr1=>some (decide (r1>=(0:Int)))
def mU (k:Nat) (a0:List Int):Option (Bool):=
 (ba k a0).bind λr1=>some (!r1)
def mV (k:Nat) (a0:av):Option (Bool):=
 (mT k a0.sh).bind λr1=>cond (r1) ((jg k a0.sh).bind λr2=>cond ((a0.data.length:Int)==r2) ((mU k a0.data).bind λr3=>some r3) (some false)) (some false)
def xp (k:Nat) (a0:Shape) (a1:Shape):Option (Bool):=
 cond (a0.h !=a1.h) (some false) (cond (a0.w !=a1.w) (some false) (cond (a0.c !=a1.c) (some false) (some true)))
def xq {ρ:Type} (k:Nat) (p:List Int× List Int) (v:Int) (next:Int->Option ρ) (x0:Unit->Option ρ) (xret:Bool->Option ρ):Option ρ:=
 cond (decide (v<(p.1.length:Int))) ((idx p.1 v).bind λe1=>(idx p.2 v).bind λe2=>cond (e1 !=e2) (xret false) (next (IntKind.i64.wrap (v+(1:Int))))) (x0 ())
def nN (k:Nat) (a0:List Int) (a1:List Int):Option (Bool):=
 cond ((a0.length:Int) !=(a1.length:Int)) (some false) (iter (λu5 n5=>xq k (a0,a1) u5 n5 (λy3=>some true) (λy4=>some y4)) k (0:Int))
def uw (k:Nat) (a0:av) (a1:av):Option (Bool):=
 (xp k a0.sh a1.sh).bind λr1=>cond (!r1) (some false) ((nN k a0.data a1.data).bind λr2=>cond (!r2) (some false) (some true))
def fq {ρ:Type} (k:Nat) (p:Unit) (v:Int× Int× List Int) (next:(Int× Int× List Int)->Option ρ) (x0:(Int× List Int)->Option ρ):Option ρ:=
 cond (decide (v.2.1<(v.2.2.length:Int))) (cond (decide (0<=v.2.1/\v.2.1<(v.2.2.length:Int))) (next (IntKind.i64.wrap (v.1+(1:Int)),IntKind.i64.wrap (v.2.1+(1:Int)),v.2.2.set v.2.1.toNat v.1)) none) (x0 (v.1,v.2.2))
def ki (k:Nat) (a0:List Int) (a1:Int):Option (Int× List Int):=
 iter (λu2 n2=>fq k () u2 n2 (λy1=>some (y1.1,y1.2))) k (a1,(0:Int),a0)
def il {ρ:Type} (k:Nat) (p:List Int) (v:Int× Int) (next:(Int× Int)->Option ρ) (x0:Int->Option ρ) (xret:Int->Option ρ):Option ρ:=
 cond (decide (v.2<(p.length:Int))) ((idx p v.2).bind λe1=>cond (e1 !=v.1) (xret (-1:Int)) (next (IntKind.i64.wrap (v.1+(1:Int)),IntKind.i64.wrap (v.2+(1:Int))))) (x0 v.1)
def mW (k:Nat) (a0:List Int) (a1:Int):Option (Int):=
 iter (λu4 n4=>il k a0 u4 n4 (λy2=>some y2) (λy3=>some y3)) k (a1,(0:Int))
def pt (k:Nat) (a0:List Int) (a1:Int):Option (Int):=
 cond (decide ((IntKind.i64.wrap (a1-(a0.length:Int)))<(0:Int))) (some (-1:Int)) (some (IntKind.i64.wrap (a1-(a0.length:Int))))
def vT (k:Nat) (a0:Step) (a1:Int):Option (Int):=
 (pt k a0.data a1).bind λr1=>cond (decide (r1<(0:Int))) (some (-1:Int)) ((uv k a0.input r1).bind λr2=>cond (decide (r2<(0:Int))) (some (-1:Int)) (some r2))
def lS {ρ:Type} (k:Nat) (p:List Int) (v:Int× List Int) (next:(Int× List Int)->Option ρ) (x0:(List Int)->Option ρ):Option ρ:=
 cond (decide (v.1<(p.length:Int))) ((idx p v.1).bind λe1=>cond (decide (0<=v.1/\v.1<(v.2.length:Int))) (next (IntKind.i64.wrap (v.1+(1:Int)),v.2.set v.1.toNat e1)) none) (x0 v.2)
def pw (k:Nat) (a0:List Int):Option (List Int):=
 cond (decide (0<=(a0.length:Int)/\(a0.length:Int)<=(a0.length:Int)/\(a0.length:Int)<=(aU:Int))) (iter (λu3 n3=>lS k a0 u3 n3 (λy2=>some y2)) k ((0:Int),List.replicate ((a0.length:Int).toNat) (0:Int))) none
def sH (k:Nat) (a0:Step):Option (Step):=
 (pw k a0.data).bind λr1=>(p7 k a0.input).bind λr2=>some (⟨a0.kind,a0.a,a0.b,r1,r2⟩:Step)
def nO (k:Nat) (a0:List Int) (a1:List Int):Option (Bool):=
 some ((bytesOf a0)==(bytesOf a1))
def vd {ρ:Type} (k:Nat) (p:List Int× List Int) (v:Int) (next:Int->Option ρ) (x0:Unit->Option ρ) (xret:Bool->Option ρ):Option ρ:=
 cond (decide (v<(p.1.length:Int))) ((idx p.1 v).bind λe1=>(idx p.2 v).bind λe2=>cond (e1 !=e2) (xret false) (next (IntKind.i64.wrap (v+(1:Int))))) (x0 ())
def sI (k:Nat) (a0:List Int) (a1:List Int):Option (Bool):=
 cond ((a0.length:Int) !=(a1.length:Int)) (some false) (iter (λu5 n5=>vd k (a0,a1) u5 n5 (λy3=>some true) (λy4=>some y4)) k (0:Int))
def vU (k:Nat) (a0:Step) (a1:Step):Option (Bool):=
 cond (a0.kind !=a1.kind) (some false) (cond (a0.a !=a1.a) (some false) (cond (a0.b !=a1.b) (some false) ((sI k a0.data a1.data).bind λr1=>cond (!r1) (some false) ((uw k a0.input a1.input).bind λr2=>cond (!r2) (some false) (some true)))))
def jD {ρ:Type} (k:Nat) (p:List Step) (v:Int× Int) (next:(Int× Int)->Option ρ) (x0:Int->Option ρ) (xret:Int->Option ρ):Option ρ:=
 cond (decide (v.2<(p.length:Int))) ((idx p v.2).bind λe1=>(vT k e1 v.1).bind λr2=>cond (decide (r2<(0:Int))) (xret (-1:Int)) (next (r2,IntKind.i64.wrap (v.2+(1:Int))))) (x0 v.1)
def xr (k:Nat) (a0:List Step) (a1:Int):Option (Int):=
 cond (decide ((IntKind.i64.wrap (a1-(a0.length:Int)))<(0:Int))) (some (-1:Int)) (iter (λu5 n5=>jD k a0 u5 n5 (λy3=>some y3) (λy4=>some y4)) k (IntKind.i64.wrap (a1-(a0.length:Int)),(0:Int)))
def jE {ρ:Type} (k:Nat) (p:List Step) (v:Int× List Step) (next:(Int× List Step)->Option ρ) (x0:(List Step)->Option ρ):Option ρ:=
 cond (decide (v.1<(p.length:Int))) ((idx p v.1).bind λe1=>(sH k e1).bind λr2=>cond (decide (0<=v.1/\v.1<(v.2.length:Int))) (next (IntKind.i64.wrap (v.1+(1:Int)),v.2.set v.1.toNat r2)) none) (x0 v.2)
def mX (k:Nat) (a0:List Step):Option (List Step):=
 cond (decide (0<=(a0.length:Int)/\(a0.length:Int)<=(a0.length:Int)/\(a0.length:Int)<=(aU:Int))) (iter (λu4 n4=>jE k a0 u4 n4 (λy3=>some y3)) k ((0:Int),List.replicate ((a0.length:Int).toNat) (⟨(0:Int),(0:Int),(0:Int),([]:List Int),(⟨(⟨(0:Int),(0:Int),(0:Int)⟩:Shape),([]:List Int)⟩:av)⟩:Step))) none
def jF {ρ:Type} (k:Nat) (p:List Step× List Step) (v:Int) (next:Int->Option ρ) (x0:Unit->Option ρ) (xret:Bool->Option ρ):Option ρ:=
 cond (decide (v<(p.1.length:Int))) ((idx p.1 v).bind λe1=>(idx p.2 v).bind λe2=>(vU k e1 e2).bind λr3=>cond (!r3) (xret false) (next (IntKind.i64.wrap (v+(1:Int))))) (x0 ())
def xt (k:Nat) (a0:List Step) (a1:List Step):Option (Bool):=
 cond ((a0.length:Int) !=(a1.length:Int)) (some false) (iter (λu6 n6=>jF k (a0,a1) u6 n6 (λy4=>some true) (λy5=>some y5)) k (0:Int))
end
end
set_option maxRecDepth 100000
section
noncomputable section
end
end
set_option maxRecDepth 100000
section
noncomputable section
def eN {ρ:Type} (k:Nat) (p:Unit) (v:Int× Int× List Int) (next:(Int× Int× List Int)->Option ρ) (x0:(Int× List Int)->Option ρ):Option ρ:=
 cond (decide (v.2.1<(v.2.2.length:Int))) (cond (decide (0<=v.2.1/\v.2.1<(v.2.2.length:Int))) (next (IntKind.i64.wrap (v.1+(1:Int)),IntKind.i64.wrap (v.2.1+(1:Int)),v.2.2.set v.2.1.toNat (IntKind.u8.wrap (v.1)))) none) (x0 (v.1,v.2.2))
def mz (k:Nat) (a0:List Int) (a1:Int):Option (Int× List Int):=
 iter (λu2 n2=>eN k () u2 n2 (λy1=>some (y1.1,y1.2))) k (a1,(0:Int),a0)
def eO {ρ:Type} (k:Nat) (p:Unit) (v:Int× Int× List Step) (next:(Int× Int× List Step)->Option ρ) (x0:(Int× List Step)->Option ρ):Option ρ:=
 cond (decide (v.2.1<(v.2.2.length:Int))) (cond (decide (0<=v.2.1/\v.2.1<(v.2.2.length:Int))) ((v.2.2[v.2.1.toNat]?).bind λe1=>cond (decide (0<=v.2.1/\v.2.1<((v.2.2.set v.2.1.toNat (⟨v.1,e1.a,e1.b,e1.data,e1.input⟩:Step)).length:Int))) (((v.2.2.set v.2.1.toNat (⟨v.1,e1.a,e1.b,e1.data,e1.input⟩:Step))[v.2.1.toNat]?).bind λe2=>cond (decide (0<=v.2.1/\v.2.1<(((v.2.2.set v.2.1.toNat (⟨v.1,e1.a,e1.b,e1.data,e1.input⟩:Step)).set v.2.1.toNat (⟨e2.kind,(IntKind.i64.wrap (v.1+(1:Int))),e2.b,e2.data,e2.input⟩:Step)).length:Int))) ((((v.2.2.set v.2.1.toNat (⟨v.1,e1.a,e1.b,e1.data,e1.input⟩:Step)).set v.2.1.toNat (⟨e2.kind,(IntKind.i64.wrap (v.1+(1:Int))),e2.b,e2.data,e2.input⟩:Step))[v.2.1.toNat]?).bind λe3=>cond (decide (0<=v.2.1/\v.2.1<((((v.2.2.set v.2.1.toNat (⟨v.1,e1.a,e1.b,e1.data,e1.input⟩:Step)).set v.2.1.toNat (⟨e2.kind,(IntKind.i64.wrap (v.1+(1:Int))),e2.b,e2.data,e2.input⟩:Step)).set v.2.1.toNat (⟨e3.kind,e3.a,(IntKind.i64.wrap ((IntKind.i64.wrap (v.1+(1:Int)))+(1:Int))),e3.data,e3.input⟩:Step)).length:Int))) (((((v.2.2.set v.2.1.toNat (⟨v.1,e1.a,e1.b,e1.data,e1.input⟩:Step)).set v.2.1.toNat (⟨e2.kind,(IntKind.i64.wrap (v.1+(1:Int))),e2.b,e2.data,e2.input⟩:Step)).set v.2.1.toNat (⟨e3.kind,e3.a,(IntKind.i64.wrap ((IntKind.i64.wrap (v.1+(1:Int)))+(1:Int))),e3.data,e3.input⟩:Step))[v.2.1.toNat]?).bind λe4=>(mz k e4.data (IntKind.i64.wrap ((IntKind.i64.wrap ((IntKind.i64.wrap (v.1+(1:Int)))+(1:Int)))+(1:Int)))).bind λr5=>cond (decide (0<=v.2.1/\v.2.1<(((((v.2.2.set v.2.1.toNat (⟨v.1,e1.a,e1.b,e1.data,e1.input⟩:Step)).set v.2.1.toNat (⟨e2.kind,(IntKind.i64.wrap (v.1+(1:Int))),e2.b,e2.data,e2.input⟩:Step)).set v.2.1.toNat (⟨e3.kind,e3.a,(IntKind.i64.wrap ((IntKind.i64.wrap (v.1+(1:Int)))+(1:Int))),e3.data,e3.input⟩:Step)).set v.2.1.toNat (⟨e4.kind,e4.a,e4.b,r5.2,e4.input⟩:Step)).length:Int))) ((((((v.2.2.set v.2.1.toNat (⟨v.1,e1.a,e1.b,e1.data,e1.input⟩:Step)).set v.2.1.toNat (⟨e2.kind,(IntKind.i64.wrap (v.1+(1:Int))),e2.b,e2.data,e2.input⟩:Step)).set v.2.1.toNat (⟨e3.kind,e3.a,(IntKind.i64.wrap ((IntKind.i64.wrap (v.1+(1:Int)))+(1:Int))),e3.data,e3.input⟩:Step)).set v.2.1.toNat (⟨e4.kind,e4.a,e4.b,r5.2,e4.input⟩:Step))[v.2.1.toNat]?).bind λe6=>cond (decide (0<=v.2.1/\v.2.1<((((((v.2.2.set v.2.1.toNat (⟨v.1,e1.a,e1.b,e1.data,e1.input⟩:Step)).set v.2.1.toNat (⟨e2.kind,(IntKind.i64.wrap (v.1+(1:Int))),e2.b,e2.data,e2.input⟩:Step)).set v.2.1.toNat (⟨e3.kind,e3.a,(IntKind.i64.wrap ((IntKind.i64.wrap (v.1+(1:Int)))+(1:Int))),e3.data,e3.input⟩:Step)).set v.2.1.toNat (⟨e4.kind,e4.a,e4.b,r5.2,e4.input⟩:Step)).set v.2.1.toNat (⟨e6.kind,e6.a,e6.b,e6.data,(⟨(⟨r5.1,e6.input.sh.w,e6.input.sh.c⟩:Shape),e6.input.data⟩:av)⟩:Step)).length:Int))) (((((((v.2.2.set v.2.1.toNat (⟨v.1,e1.a,e1.b,e1.data,e1.input⟩:Step)).set v.2.1.toNat (⟨e2.kind,(IntKind.i64.wrap (v.1+(1:Int))),e2.b,e2.data,e2.input⟩:Step)).set v.2.1.toNat (⟨e3.kind,e3.a,(IntKind.i64.wrap ((IntKind.i64.wrap (v.1+(1:Int)))+(1:Int))),e3.data,e3.input⟩:Step)).set v.2.1.toNat (⟨e4.kind,e4.a,e4.b,r5.2,e4.input⟩:Step)).set v.2.1.toNat (⟨e6.kind,e6.a,e6.b,e6.data,(⟨(⟨r5.1,e6.input.sh.w,e6.input.sh.c⟩:Shape),e6.input.data⟩:av)⟩:Step))[v.2.1.toNat]?).bind λe7=>cond (decide (0<=v.2.1/\v.2.1<(((((((v.2.2.set v.2.1.toNat (⟨v.1,e1.a,e1.b,e1.data,e1.input⟩:Step)).set v.2.1.toNat (⟨e2.kind,(IntKind.i64.wrap (v.1+(1:Int))),e2.b,e2.data,e2.input⟩:Step)).set v.2.1.toNat (⟨e3.kind,e3.a,(IntKind.i64.wrap ((IntKind.i64.wrap (v.1+(1:Int)))+(1:Int))),e3.data,e3.input⟩:Step)).set v.2.1.toNat (⟨e4.kind,e4.a,e4.b,r5.2,e4.input⟩:Step)).set v.2.1.toNat (⟨e6.kind,e6.a,e6.b,e6.data,(⟨(⟨r5.1,e6.input.sh.w,e6.input.sh.c⟩:Shape),e6.input.data⟩:av)⟩:Step)).set v.2.1.toNat (⟨e7.kind,e7.a,e7.b,e7.data,(⟨(⟨e7.input.sh.h,(IntKind.i64.wrap (r5.1+(1:Int))),e7.input.sh.c⟩:Shape),e7.input.data⟩:av)⟩:Step)).length:Int))) ((((((((v.2.2.set v.2.1.toNat (⟨v.1,e1.a,e1.b,e1.data,e1.input⟩:Step)).set v.2.1.toNat (⟨e2.kind,(IntKind.i64.wrap (v.1+(1:Int))),e2.b,e2.data,e2.input⟩:Step)).set v.2.1.toNat (⟨e3.kind,e3.a,(IntKind.i64.wrap ((IntKind.i64.wrap (v.1+(1:Int)))+(1:Int))),e3.data,e3.input⟩:Step)).set v.2.1.toNat (⟨e4.kind,e4.a,e4.b,r5.2,e4.input⟩:Step)).set v.2.1.toNat (⟨e6.kind,e6.a,e6.b,e6.data,(⟨(⟨r5.1,e6.input.sh.w,e6.input.sh.c⟩:Shape),e6.input.data⟩:av)⟩:Step)).set v.2.1.toNat (⟨e7.kind,e7.a,e7.b,e7.data,(⟨(⟨e7.input.sh.h,(IntKind.i64.wrap (r5.1+(1:Int))),e7.input.sh.c⟩:Shape),e7.input.data⟩:av)⟩:Step))[v.2.1.toNat]?).bind λe8=>cond (decide (0<=v.2.1/\v.2.1<((((((((v.2.2.set v.2.1.toNat (⟨v.1,e1.a,e1.b,e1.data,e1.input⟩:Step)).set v.2.1.toNat (⟨e2.kind,(IntKind.i64.wrap (v.1+(1:Int))),e2.b,e2.data,e2.input⟩:Step)).set v.2.1.toNat (⟨e3.kind,e3.a,(IntKind.i64.wrap ((IntKind.i64.wrap (v.1+(1:Int)))+(1:Int))),e3.data,e3.input⟩:Step)).set v.2.1.toNat (⟨e4.kind,e4.a,e4.b,r5.2,e4.input⟩:Step)).set v.2.1.toNat (⟨e6.kind,e6.a,e6.b,e6.data,(⟨(⟨r5.1,e6.input.sh.w,e6.input.sh.c⟩:Shape),e6.input.data⟩:av)⟩:Step)).set v.2.1.toNat (⟨e7.kind,e7.a,e7.b,e7.data,(⟨(⟨e7.input.sh.h,(IntKind.i64.wrap (r5.1+(1:Int))),e7.input.sh.c⟩:Shape),e7.input.data⟩:av)⟩:Step)).set v.2.1.toNat (⟨e8.kind,e8.a,e8.b,e8.data,(⟨(⟨e8.input.sh.h,e8.input.sh.w,(IntKind.i64.wrap ((IntKind.i64.wrap (r5.1+(1:Int)))+(1:Int)))⟩:Shape),e8.input.data⟩:av)⟩:Step)).length:Int))) (((((((((v.2.2.set v.2.1.toNat (⟨v.1,e1.a,e1.b,e1.data,e1.input⟩:Step)).set v.2.1.toNat (⟨e2.kind,(IntKind.i64.wrap (v.1+(1:Int))),e2.b,e2.data,e2.input⟩:Step)).set v.2.1.toNat (⟨e3.kind,e3.a,(IntKind.i64.wrap ((IntKind.i64.wrap (v.1+(1:Int)))+(1:Int))),e3.data,e3.input⟩:Step)).set v.2.1.toNat (⟨e4.kind,e4.a,e4.b,r5.2,e4.input⟩:Step)).set v.2.1.toNat (⟨e6.kind,e6.a,e6.b,e6.data,(⟨(⟨r5.1,e6.input.sh.w,e6.input.sh.c⟩:Shape),e6.input.data⟩:av)⟩:Step)).set v.2.1.toNat (⟨e7.kind,e7.a,e7.b,e7.data,(⟨(⟨e7.input.sh.h,(IntKind.i64.wrap (r5.1+(1:Int))),e7.input.sh.c⟩:Shape),e7.input.data⟩:av)⟩:Step)).set v.2.1.toNat (⟨e8.kind,e8.a,e8.b,e8.data,(⟨(⟨e8.input.sh.h,e8.input.sh.w,(IntKind.i64.wrap ((IntKind.i64.wrap (r5.1+(1:Int)))+(1:Int)))⟩:Shape),e8.input.data⟩:av)⟩:Step))[v.2.1.toNat]?).bind λe9=>(ki k e9.input.data (IntKind.i64.wrap ((IntKind.i64.wrap ((IntKind.i64.wrap (r5.1+(1:Int)))+(1:Int)))+(1:Int)))).bind λr10=>next (r10.1,IntKind.i64.wrap (v.2.1+(1:Int)),(((((((v.2.2.set v.2.1.toNat (⟨v.1,e1.a,e1.b,e1.data,e1.input⟩:Step)).set v.2.1.toNat (⟨e2.kind,(IntKind.i64.wrap (v.1+(1:Int))),e2.b,e2.data,e2.input⟩:Step)).set v.2.1.toNat (⟨e3.kind,e3.a,(IntKind.i64.wrap ((IntKind.i64.wrap (v.1+(1:Int)))+(1:Int))),e3.data,e3.input⟩:Step)).set v.2.1.toNat (⟨e4.kind,e4.a,e4.b,r5.2,e4.input⟩:Step)).set v.2.1.toNat (⟨e6.kind,e6.a,e6.b,e6.data,(⟨(⟨r5.1,e6.input.sh.w,e6.input.sh.c⟩:Shape),e6.input.data⟩:av)⟩:Step)).set v.2.1.toNat (⟨e7.kind,e7.a,e7.b,e7.data,(⟨(⟨e7.input.sh.h,(IntKind.i64.wrap (r5.1+(1:Int))),e7.input.sh.c⟩:Shape),e7.input.data⟩:av)⟩:Step)).set v.2.1.toNat (⟨e8.kind,e8.a,e8.b,e8.data,(⟨(⟨e8.input.sh.h,e8.input.sh.w,(IntKind.i64.wrap ((IntKind.i64.wrap (r5.1+(1:Int)))+(1:Int)))⟩:Shape),e8.input.data⟩:av)⟩:Step)).set v.2.1.toNat (⟨e9.kind,e9.a,e9.b,e9.data,(⟨e9.input.sh,r10.2⟩:av)⟩:Step))) none) none) none) none) none) none) none) none) (x0 (v.1,v.2.2))
def mA (k:Nat) (a0:List Step) (a1:Int):Option (Int× List Step):=
 iter (λu12 n12=>eO k () u12 n12 (λy11=>some (y11.1,y11.2))) k (a1,(0:Int),a0)
def jh {ρ:Type} (k:Nat) (p:List Int) (v:Int× Int) (next:(Int× Int)->Option ρ) (x0:Int->Option ρ) (xret:Int->Option ρ):Option ρ:=
 cond (decide (v.2<(p.length:Int))) ((idx p v.2).bind λe1=>cond (e1 !=(IntKind.u8.wrap (v.1))) (xret (-1:Int)) (next (IntKind.i64.wrap (v.1+(1:Int)),IntKind.i64.wrap (v.2+(1:Int))))) (x0 v.1)
def xu (k:Nat) (a0:List Int) (a1:Int):Option (Int):=
 iter (λu4 n4=>jh k a0 u4 n4 (λy2=>some y2) (λy3=>some y3)) k (a1,(0:Int))
def ji {ρ:Type} (k:Nat) (p:List Step) (v:Int× Int) (next:(Int× Int)->Option ρ) (x0:Int->Option ρ) (xret:Int->Option ρ):Option ρ:=
 cond (decide (v.2<(p.length:Int))) ((idx p v.2).bind λe1=>cond (e1.kind !=v.1) (xret (-1:Int)) ((idx p v.2).bind λe2=>cond (e2.a !=(IntKind.i64.wrap (v.1+(1:Int)))) (xret (-1:Int)) ((idx p v.2).bind λe3=>cond (e3.b !=(IntKind.i64.wrap ((IntKind.i64.wrap (v.1+(1:Int)))+(1:Int)))) (xret (-1:Int)) ((idx p v.2).bind λe4=>(xu k e4.data (IntKind.i64.wrap ((IntKind.i64.wrap ((IntKind.i64.wrap (v.1+(1:Int)))+(1:Int)))+(1:Int)))).bind λr5=>cond (decide (r5<(0:Int))) (xret (-1:Int)) ((idx p v.2).bind λe6=>cond (e6.input.sh.h !=r5) (xret (-1:Int)) ((idx p v.2).bind λe7=>cond (e7.input.sh.w !=(IntKind.i64.wrap (r5+(1:Int)))) (xret (-1:Int)) ((idx p v.2).bind λe8=>cond (e8.input.sh.c !=(IntKind.i64.wrap ((IntKind.i64.wrap (r5+(1:Int)))+(1:Int)))) (xret (-1:Int)) ((idx p v.2).bind λe9=>(mW k e9.input.data (IntKind.i64.wrap ((IntKind.i64.wrap ((IntKind.i64.wrap (r5+(1:Int)))+(1:Int)))+(1:Int)))).bind λr10=>cond (decide (r10<(0:Int))) (xret (-1:Int)) (next (r10,IntKind.i64.wrap (v.2+(1:Int)))))))))))) (x0 v.1)
def FQ (k:Nat) (a0:List Step) (a1:Int):Option (Int):=
 iter (λu13 n13=>ji k a0 u13 n13 (λy11=>some y11) (λy12=>some y12)) k (a1,(0:Int))
def fU {ρ:Type} (k:Nat) (p:Int× Int× Int× Int× Int× Int× Int× List Int× List Int) (v:Int) (next:Int->Option ρ) (x0:Unit->Option ρ) (xret:Bool->Option ρ):Option ρ:=
 cond (decide (v<(p.2.2.2.2.2.2.2.2.length:Int))) ((idx p.2.2.2.2.2.2.2.2 v).bind λe7=>(b9 k e7 (-1000000:Int) (1000000:Int)).bind λr8=>cond (!r8) (xret false) (next (IntKind.i64.wrap (v+(1:Int))))) (x0 ())
def fV {ρ:Type} (k:Nat) (p:Int× Int× Int× Int× Int× Int× Int× List Int× List Int) (v:Int) (next:Int->Option ρ) (x2:Unit->Option ρ) (xret:Bool->Option ρ):Option ρ:=
 cond (decide (v<(p.2.2.2.2.2.2.2.1.length:Int))) ((idx p.2.2.2.2.2.2.2.1 v).bind λe10=>(gw k e10).bind λr11=>cond (!r11) (xret false) (next (IntKind.i64.wrap (v+(1:Int))))) (x2 ())
def p8 (k:Nat) (a0:ax) (a1:Bool) (a2:Bool):Option (Bool):=
 cond (a1) ((b9 k a0.size (1:Int) (3:Int)).bind λr1=>cond (!r1) (some false) ((b9 k a0.step (1:Int) (2:Int)).bind λr2=>cond (!r2) (some false) (cond (a2) ((b9 k a0.out (1:Int) (8:Int)).bind λr3=>cond (!r3) (some false) ((b9 k a0.mult (0:Int) (2147483647:Int)).bind λr4=>cond (!r4) (some false) ((b9 k a0.shift (0:Int) (31:Int)).bind λr5=>cond (!r5) (some false) ((gw k a0.zero).bind λr6=>cond (!r6) (some false) (cond ((a0.mG.length:Int) !=a0.out) (some false) (iter (λu16 n16=>fU k (a0.kind,a0.out,a0.size,a0.step,a0.mult,a0.shift,a0.zero,a0.weights,a0.mG) u16 n16 (λy9=>iter (λu14 n14=>fV k (a0.kind,a0.out,a0.size,a0.step,a0.mult,a0.shift,a0.zero,a0.weights,a0.mG) u14 n14 (λy12=>some true) (λy13=>some y13)) k (0:Int)) (λy15=>some y15)) k (0:Int))))))) (cond (a0.out !=(0:Int)) (some false) (cond (a0.mult !=(0:Int)) (some false) (cond (a0.shift !=(0:Int)) (some false) (cond (decide ((a0.weights.length:Int)>(0:Int))) (some false) (cond (decide ((a0.mG.length:Int)>(0:Int))) (some false) (cond (a0.kind==(4:Int)) ((gw k a0.zero).bind λr17=>some r17) (some (a0.zero==(0:Int)))))))))))) (cond (a0.size !=(0:Int)) (some false) (cond (a0.step !=(0:Int)) (some false) (cond (a2) ((b9 k a0.out (1:Int) (8:Int)).bind λr18=>cond (!r18) (some false) ((b9 k a0.mult (0:Int) (2147483647:Int)).bind λr19=>cond (!r19) (some false) ((b9 k a0.shift (0:Int) (31:Int)).bind λr20=>cond (!r20) (some false) ((gw k a0.zero).bind λr21=>cond (!r21) (some false) (cond ((a0.mG.length:Int) !=a0.out) (some false) (iter (λu31 n31=>fU k (a0.kind,a0.out,a0.size,a0.step,a0.mult,a0.shift,a0.zero,a0.weights,a0.mG) u31 n31 (λy24=>iter (λu29 n29=>fV k (a0.kind,a0.out,a0.size,a0.step,a0.mult,a0.shift,a0.zero,a0.weights,a0.mG) u29 n29 (λy27=>some true) (λy28=>some y28)) k (0:Int)) (λy30=>some y30)) k (0:Int))))))) (cond (a0.out !=(0:Int)) (some false) (cond (a0.mult !=(0:Int)) (some false) (cond (a0.shift !=(0:Int)) (some false) (cond (decide ((a0.weights.length:Int)>(0:Int))) (some false) (cond (decide ((a0.mG.length:Int)>(0:Int))) (some false) (cond (a0.kind==(4:Int)) ((gw k a0.zero).bind λr32=>some r32) (some (a0.zero==(0:Int))))))))))))
def kQ (k:Nat) (a0:Shape) (a1:ax):Option (Shape× Bool):=
 (jC k a0).bind λr1=>cond (!r1) (some ((⟨(0:Int),(0:Int),(0:Int)⟩:Shape),false)) ((b9 k a1.kind (0:Int) (5:Int)).bind λr2=>cond (!r2) (some ((⟨(0:Int),(0:Int),(0:Int)⟩:Shape),false)) ((b9 k a1.kind (1:Int) (3:Int)).bind λr3=>(p8 k a1 r3 (decide (a1.kind<=(1:Int)))).bind λr4=>cond (!r4) (some ((⟨(0:Int),(0:Int),(0:Int)⟩:Shape),false)) (cond (r3) (cond (decide (a1.size>a0.h)) (some ((⟨(0:Int),(0:Int),(0:Int)⟩:Shape),false)) (cond (decide (a1.size>a0.w)) (some ((⟨(0:Int),(0:Int),(0:Int)⟩:Shape),false)) (cond (decide (a1.step=0)) none (cond (decide (a1.step=0)) none (cond (a1.kind==(0:Int)) ((dt k a0).bind λr5=>cond (decide (r5>(64:Int))) (some ((⟨(0:Int),(0:Int),(0:Int)⟩:Shape),false)) ((dt k a0).bind λr6=>cond ((a1.weights.length:Int) !=(IntKind.i64.wrap (a1.out*r6))) (some ((⟨(0:Int),(0:Int),(0:Int)⟩:Shape),false)) (some ((⟨(1:Int),(1:Int),a1.out⟩:Shape),true)))) (cond (a1.kind==(1:Int)) (cond ((a1.weights.length:Int) !=(IntKind.i64.wrap ((IntKind.i64.wrap ((IntKind.i64.wrap (a1.out*a1.size))*a1.size))*a0.c))) (some ((⟨(0:Int),(0:Int),(0:Int)⟩:Shape),false)) (cond (decide ((a1.weights.length:Int)>(600:Int))) (some ((⟨(0:Int),(0:Int),(0:Int)⟩:Shape),false)) (some ((⟨(IntKind.i64.wrap ((IntKind.i64.wrap ((IntKind.i64.wrap (a0.h-a1.size)).tdiv a1.step))+(1:Int))),(IntKind.i64.wrap ((IntKind.i64.wrap ((IntKind.i64.wrap (a0.w-a1.size)).tdiv a1.step))+(1:Int))),a1.out⟩:Shape),true)))) (cond (a1.kind==(5:Int)) ((dt k a0).bind λr7=>cond (decide (r7>(8:Int))) (some ((⟨(0:Int),(0:Int),(0:Int)⟩:Shape),false)) ((dt k a0).bind λr8=>some ((⟨(1:Int),(1:Int),r8⟩:Shape),true))) (some ((⟨(IntKind.i64.wrap ((IntKind.i64.wrap ((IntKind.i64.wrap (a0.h-a1.size)).tdiv a1.step))+(1:Int))),(IntKind.i64.wrap ((IntKind.i64.wrap ((IntKind.i64.wrap (a0.w-a1.size)).tdiv a1.step))+(1:Int))),a0.c⟩:Shape),true))))))))) (cond (a1.kind==(0:Int)) ((dt k a0).bind λr9=>cond (decide (r9>(64:Int))) (some ((⟨(0:Int),(0:Int),(0:Int)⟩:Shape),false)) ((dt k a0).bind λr10=>cond ((a1.weights.length:Int) !=(IntKind.i64.wrap (a1.out*r10))) (some ((⟨(0:Int),(0:Int),(0:Int)⟩:Shape),false)) (some ((⟨(1:Int),(1:Int),a1.out⟩:Shape),true)))) (cond (a1.kind==(1:Int)) (cond ((a1.weights.length:Int) !=(IntKind.i64.wrap ((IntKind.i64.wrap ((IntKind.i64.wrap (a1.out*a1.size))*a1.size))*a0.c))) (some ((⟨(0:Int),(0:Int),(0:Int)⟩:Shape),false)) (cond (decide ((a1.weights.length:Int)>(600:Int))) (some ((⟨(0:Int),(0:Int),(0:Int)⟩:Shape),false)) (some ((⟨a0.h,a0.w,a1.out⟩:Shape),true)))) (cond (a1.kind==(5:Int)) ((dt k a0).bind λr11=>cond (decide (r11>(8:Int))) (some ((⟨(0:Int),(0:Int),(0:Int)⟩:Shape),false)) ((dt k a0).bind λr12=>some ((⟨(1:Int),(1:Int),r12⟩:Shape),true))) (some (a0,true))))))))
def gx {ρ:Type} (k:Nat) (p:Int× Int× Int× List ax) (v:Int× List Shape) (next:(Int× List Shape)->Option ρ) (x0:(List Shape)->Option ρ) (xret:Bool->Option ρ):Option ρ:=
 cond (decide (v.1<(p.2.2.2.length:Int))) (cond (decide (0<=v.1/\v.1<(v.2.length:Int))) ((v.2[v.1.toNat]?).bind λe3=>(idx p.2.2.2 v.1).bind λe4=>(kQ k e3 e4).bind λr5=>cond (!r5.2) (xret false) (cond (Nat.ble (v.2.length+[r5.1].length) aU) (next (IntKind.i64.wrap (v.1+(1:Int)),v.2++[r5.1])) none)) none) (x0 v.2)
def iX (k:Nat) (a0:Model):Option (List Shape× Bool):=
 (jC k a0.inp).bind λr1=>cond (!r1) (some (([]:List Shape),false)) ((b9 k (a0.aB.length:Int) (1:Int) (6:Int)).bind λr2=>cond (!r2) (some (([]:List Shape),false)) (iter (λu8 n8=>gx k (a0.inp.h,a0.inp.w,a0.inp.c,a0.aB) u8 n8 (λy6=>some (y6,true)) (λy7=>some (([]:List Shape),y7))) k ((0:Int),[a0.inp])))
def px (k:Nat) (a0:Model):Option (Bool):=
 (iX k a0).bind λr1=>some r1.2
def vV (k:Nat) (a0:Shape) (a1:ax):Option (Int):=
 (kQ k a0 a1).bind λr1=>cond (!r1.2) (some (0:Int)) ((dt k a0).bind λr2=>cond (a1.kind==(0:Int)) ((dt k r1.1).bind λr3=>(dt k a0).bind λr4=>some (IntKind.i64.wrap ((1:Int)+(IntKind.i64.wrap ((IntKind.i64.wrap (r3*r4)).tdiv (16:Int)))))) (cond (a1.kind==(1:Int)) ((dt k r1.1).bind λr5=>some (IntKind.i64.wrap ((1:Int)+(IntKind.i64.wrap ((IntKind.i64.wrap ((IntKind.i64.wrap ((IntKind.i64.wrap (r5*a1.size))*a1.size))*a0.c)).tdiv (16:Int)))))) (cond (a1.kind==(2:Int)) ((dt k r1.1).bind λr6=>some (IntKind.i64.wrap ((1:Int)+(IntKind.i64.wrap ((IntKind.i64.wrap ((IntKind.i64.wrap (r6*a1.size))*a1.size)).tdiv (16:Int)))))) (cond (a1.kind==(3:Int)) ((dt k r1.1).bind λr7=>some (IntKind.i64.wrap ((1:Int)+(IntKind.i64.wrap ((IntKind.i64.wrap ((IntKind.i64.wrap (r7*a1.size))*a1.size)).tdiv (16:Int)))))) (some (IntKind.i64.wrap ((1:Int)+(IntKind.i64.wrap (r2.tdiv (16:Int))))))))))
def jG {ρ:Type} (k:Nat) (p:Int× Int× Int× List ax× List Shape) (v:Int× List Int) (next:(Int× List Int)->Option ρ) (x0:(List Int)->Option ρ):Option ρ:=
 cond (decide (v.1<(p.2.2.2.1.length:Int))) (cond (decide (0<=v.1/\v.1<(p.2.2.2.2.length:Int))) ((p.2.2.2.2[v.1.toNat]?).bind λe2=>(idx p.2.2.2.1 v.1).bind λe3=>(vV k e2 e3).bind λr4=>cond (Nat.ble (v.2.length+[r4].length) aU) (next (IntKind.i64.wrap (v.1+(1:Int)),v.2++[r4])) none) none) (x0 v.2)
def jH (k:Nat) (a0:Model):Option (List Int):=
 (iX k a0).bind λr1=>cond (!r1.2) (some ([]:List Int)) (iter (λu6 n6=>jG k (a0.inp.h,a0.inp.w,a0.inp.c,a0.aB,r1.1) u6 n6 (λy5=>some y5)) k ((0:Int),([]:List Int)))
def gy {ρ:Type} (k:Nat) (p:List Int) (v:Int× Int) (next:(Int× Int)->Option ρ) (x0:Int->Option ρ):Option ρ:=
 cond (decide (v.2<(p.length:Int))) (cond (decide (0<=v.2/\v.2<(p.length:Int))) ((p[v.2.toNat]?).bind λe2=>next (IntKind.i64.wrap (v.1+e2),IntKind.i64.wrap (v.2+(1:Int)))) none) (x0 v.1)
def nP (k:Nat) (a0:Model):Option (Int):=
 (jH k a0).bind λr1=>iter (λu4 n4=>gy k r1 u4 n4 (λy3=>some y3)) k ((0:Int),(0:Int))
def eP (k:Nat) (a0:ax):Option (Bool):=
 cond (a0.size==(0:Int)) (some (a0.step==(0:Int))) (some false)
def gH (k:Nat) (a0:Int):Option (Bool):=
 (qT k a0 (-1000000:Int) (1000000:Int)).bind λr1=>some (!r1)
def aD {ρ:Type} (k:Nat) (p:List Int× Int) (v:Int) (next:Int->Option ρ) (x0:Unit->Option ρ) (xret:Int->Option ρ):Option ρ:=
 cond (decide (v<p.2)) ((idx p.1 v).bind λe1=>(gH k e1).bind λr2=>cond (r2) (xret v) (next (IntKind.i64.wrap (v+(1:Int))))) (x0 ())
def aW (k:Nat) (a0:List Int):Option (Int):=
 iter (λu5 n5=>aD k (a0,(a0.length:Int)) u5 n5 (λy3=>some (-1:Int)) (λy4=>some y4)) k (0:Int)
def aH (k:Nat) (a0:List Int):Option (Bool):=
 (aW k a0).bind λr1=>some (decide (r1>=(0:Int)))
def ft (k:Nat) (a0:ax) (a1:Int):Option (Bool):=
 (qT k a0.out (1:Int) (8:Int)).bind λr1=>cond (r1) ((qT k a0.mult (0:Int) (2147483647:Int)).bind λr2=>cond (r2) ((qT k a0.shift (0:Int) (31:Int)).bind λr3=>cond (r3) ((qT k a0.zero (-128:Int) (127:Int)).bind λr4=>cond (r4) (cond ((a0.weights.length:Int)==(IntKind.i64.wrap (a0.out*a1))) ((mU k a0.weights).bind λr5=>cond (r5) (cond ((a0.mG.length:Int)==a0.out) ((aH k a0.mG).bind λr6=>some (!r6)) (some false)) (some false)) (some false)) (some false)) (some false)) (some false)) (some false)
def dT (k:Nat) (a0:ax) (a1:Shape):Option (Bool):=
 (qT k a0.size (1:Int) (if a1.w<(if a1.h<(3:Int)then a1.h else(3:Int))then a1.w else(if a1.h<(3:Int)then a1.h else(3:Int)))).bind λr1=>cond (r1) ((qT k a0.step (1:Int) (2:Int)).bind λr2=>some r2) (some false)
def eQ (k:Nat) (a0:ax) (a1:Shape) (a2:Int):Option (Shape):=
 cond (decide (a0.step=0)) none (cond (decide (a0.step=0)) none (some (⟨(IntKind.i64.wrap ((IntKind.i64.wrap ((IntKind.i64.wrap (a1.h-a0.size)).tdiv a0.step))+(1:Int))),(IntKind.i64.wrap ((IntKind.i64.wrap ((IntKind.i64.wrap (a1.w-a0.size)).tdiv a0.step))+(1:Int))),a2⟩:Shape)))
def ey (k:Nat) (a0:ax):Option (Bool):=
 cond (a0.out==(0:Int)) (cond (a0.mult==(0:Int)) (cond (a0.shift==(0:Int)) (cond ((a0.weights.length:Int)==(0:Int)) (some ((a0.mG.length:Int)==(0:Int))) (some false)) (some false)) (some false)) (some false)
def kR (k:Nat) (a0:Shape) (a1:ax):Option (Shape× Bool):=
 (mT k a0).bind λr1=>cond (!r1) (some ((⟨(0:Int),(0:Int),(0:Int)⟩:Shape),false)) ((jg k a0).bind λr2=>cond (a1.kind==(0:Int)) (cond (decide (r2<=(64:Int))) ((eP k a1).bind λr3=>cond (r3) ((ft k a1 r2).bind λr4=>cond (r4) (some ((⟨(1:Int),(1:Int),a1.out⟩:Shape),true)) (some ((⟨(0:Int),(0:Int),(0:Int)⟩:Shape),false))) (some ((⟨(0:Int),(0:Int),(0:Int)⟩:Shape),false))) (some ((⟨(0:Int),(0:Int),(0:Int)⟩:Shape),false))) (cond (a1.kind==(1:Int)) ((dT k a1 a0).bind λr5=>cond (r5) (cond (decide ((a1.weights.length:Int)<=(600:Int))) ((ft k a1 (IntKind.i64.wrap ((IntKind.i64.wrap (a1.size*a1.size))*a0.c))).bind λr6=>cond (r6) ((eQ k a1 a0 a1.out).bind λr7=>some (r7,true)) (some ((⟨(0:Int),(0:Int),(0:Int)⟩:Shape),false))) (some ((⟨(0:Int),(0:Int),(0:Int)⟩:Shape),false))) (some ((⟨(0:Int),(0:Int),(0:Int)⟩:Shape),false))) (cond (a1.kind==(2:Int)) ((dT k a1 a0).bind λr8=>cond (r8) ((ey k a1).bind λr9=>cond (r9) (cond (a1.zero==(0:Int)) ((eQ k a1 a0 a0.c).bind λr10=>some (r10,true)) (some ((⟨(0:Int),(0:Int),(0:Int)⟩:Shape),false))) (some ((⟨(0:Int),(0:Int),(0:Int)⟩:Shape),false))) (some ((⟨(0:Int),(0:Int),(0:Int)⟩:Shape),false))) (cond (a1.kind==(3:Int)) ((dT k a1 a0).bind λr11=>cond (r11) ((ey k a1).bind λr12=>cond (r12) (cond (a1.zero==(0:Int)) ((eQ k a1 a0 a0.c).bind λr13=>some (r13,true)) (some ((⟨(0:Int),(0:Int),(0:Int)⟩:Shape),false))) (some ((⟨(0:Int),(0:Int),(0:Int)⟩:Shape),false))) (some ((⟨(0:Int),(0:Int),(0:Int)⟩:Shape),false))) (cond (a1.kind==(4:Int)) ((eP k a1).bind λr14=>cond (r14) ((ey k a1).bind λr15=>cond (r15) ((qT k a1.zero (-128:Int) (127:Int)).bind λr16=>cond (r16) (some (a0,true)) (some ((⟨(0:Int),(0:Int),(0:Int)⟩:Shape),false))) (some ((⟨(0:Int),(0:Int),(0:Int)⟩:Shape),false))) (some ((⟨(0:Int),(0:Int),(0:Int)⟩:Shape),false))) (cond (a1.kind==(5:Int)) ((eP k a1).bind λr17=>cond (r17) ((ey k a1).bind λr18=>cond (r18) (cond (a1.zero==(0:Int)) (cond (decide (r2<=(8:Int))) (some ((⟨(1:Int),(1:Int),r2⟩:Shape),true)) (some ((⟨(0:Int),(0:Int),(0:Int)⟩:Shape),false))) (some ((⟨(0:Int),(0:Int),(0:Int)⟩:Shape),false))) (some ((⟨(0:Int),(0:Int),(0:Int)⟩:Shape),false))) (some ((⟨(0:Int),(0:Int),(0:Int)⟩:Shape),false))) (some ((⟨(0:Int),(0:Int),(0:Int)⟩:Shape),false))))))))
def eR {ρ:Type} (k:Nat) (p:List ax× Int) (v:Int× List Shape× Int× Int× Int) (next:(Int× List Shape× Int× Int× Int)->Option ρ) (x0:(List Shape)->Option ρ) (xret:Bool->Option ρ):Option ρ:=
 cond (decide (v.1<p.2)) ((idx p.1 v.1).bind λe1=>(kR k (⟨v.2.2.1,v.2.2.2.1,v.2.2.2.2⟩:Shape) e1).bind λr2=>cond (!r2.2) (xret false) (cond (Nat.ble (v.2.1.length+[r2.1].length) aU) (next (IntKind.i64.wrap (v.1+(1:Int)),v.2.1++[r2.1],r2.1.h,r2.1.w,r2.1.c)) none)) (x0 v.2.1)
def gz (k:Nat) (a0:Model):Option (List Shape× Bool):=
 iter (λu5 n5=>eR k (a0.aB,(a0.aB.length:Int)) u5 n5 (λy3=>some (y3,true)) (λy4=>some (([]:List Shape),y4))) k ((0:Int),[a0.inp],a0.inp.h,a0.inp.w,a0.inp.c)
def lh (k:Nat) (a0:Model):Option (Bool):=
 (qT k (a0.aB.length:Int) (1:Int) (6:Int)).bind λr1=>cond (!r1) (some false) ((gz k a0).bind λr2=>some r2.2)
def mY (k:Nat) (a0:Model):Option (List Shape):=
 (lh k a0).bind λr1=>cond (!r1) (some ([]:List Shape)) ((gz k a0).bind λr2=>some r2.1)
def vW (k:Nat) (a0:Shape) (a1:ax):Option (Int):=
 (kR k a0 a1).bind λr1=>cond (!r1.2) (some (0:Int)) ((jg k a0).bind λr2=>cond (a1.kind==(0:Int)) ((jg k r1.1).bind λr3=>some (IntKind.i64.wrap ((1:Int)+(IntKind.i64.wrap ((IntKind.i64.wrap (r2*r3)).tdiv (16:Int)))))) (cond (a1.kind==(1:Int)) ((jg k r1.1).bind λr4=>some (IntKind.i64.wrap ((1:Int)+(IntKind.i64.wrap ((IntKind.i64.wrap ((IntKind.i64.wrap ((IntKind.i64.wrap (r4*a1.size))*a1.size))*a0.c)).tdiv (16:Int)))))) (cond (a1.kind==(2:Int)) ((jg k r1.1).bind λr5=>some (IntKind.i64.wrap ((1:Int)+(IntKind.i64.wrap ((IntKind.i64.wrap ((IntKind.i64.wrap (r5*a1.size))*a1.size)).tdiv (16:Int)))))) (cond (a1.kind==(3:Int)) ((jg k r1.1).bind λr6=>some (IntKind.i64.wrap ((1:Int)+(IntKind.i64.wrap ((IntKind.i64.wrap ((IntKind.i64.wrap (r6*a1.size))*a1.size)).tdiv (16:Int)))))) (some (IntKind.i64.wrap ((1:Int)+(IntKind.i64.wrap (r2.tdiv (16:Int))))))))))
def jI {ρ:Type} (k:Nat) (p:Int× Int× Int× Int× List ax× List Shape) (v:Int× List Int) (next:(Int× List Int)->Option ρ) (x0:(List Int)->Option ρ):Option ρ:=
 cond (decide (v.1<p.1)) (cond (decide (0<=v.1/\v.1<(p.2.2.2.2.2.length:Int))) ((p.2.2.2.2.2[v.1.toNat]?).bind λe2=>cond (decide (v.1<(p.2.2.2.2.1.length:Int))) ((idx p.2.2.2.2.1 v.1).bind λe3=>(vW k e2 e3).bind λr4=>cond (Nat.ble (v.2.length+[r4].length) aU) (next (IntKind.i64.wrap (v.1+(1:Int)),v.2++[r4])) none) (next (IntKind.i64.wrap (v.1+(1:Int)),v.2))) none) (x0 v.2)
def jJ (k:Nat) (a0:Model):Option (List Int):=
 (mY k a0).bind λr1=>iter (λu6 n6=>jI k ((r1.length:Int),a0.inp.h,a0.inp.w,a0.inp.c,a0.aB,r1) u6 n6 (λy5=>some y5)) k ((0:Int),([]:List Int))
def sJ {ρ:Type} (k:Nat) (p:List Int× Int) (v:Int× Int) (next:(Int× Int)->Option ρ) (x0:Int->Option ρ):Option ρ:=
 cond (decide (v.2<p.2)) ((idx p.1 v.2).bind λe1=>next (IntKind.i64.wrap (v.1+e1),IntKind.i64.wrap (v.2+(1:Int)))) (x0 v.1)
def KM (k:Nat) (a0:List Int):Option (Int):=
 iter (λu3 n3=>sJ k (a0,(a0.length:Int)) u3 n3 (λy2=>some y2)) k ((0:Int),(0:Int))
def nQ (k:Nat) (a0:Model):Option (Int):=
 (jJ k a0).bind λr1=>(KM k r1).bind λr2=>some r2
end
end
set_option maxRecDepth 100000
section
noncomputable section
def sK (k:Nat) (a0:ax):Option (ax):=
 (jB k a0.weights).bind λr1=>(jB k a0.mG).bind λr2=>some (⟨a0.kind,a0.out,a0.size,a0.step,a0.mult,a0.shift,a0.zero,r1,r2⟩:ax)
def jj (k:Nat) (a0:ax):Option (ax):=
 (bR k a0.weights).bind λr1=>(bR k a0.mG).bind λr2=>some (⟨a0.kind,a0.out,a0.size,a0.step,a0.mult,a0.shift,a0.zero,r1,r2⟩:ax)
def eS {ρ:Type} (k:Nat) (p:List ax× Int) (v:Int× List ax) (next:(Int× List ax)->Option ρ) (x0:(List ax)->Option ρ):Option ρ:=
 cond (decide (v.1<p.2)) ((idx p.1 v.1).bind λe1=>(jj k e1).bind λr2=>cond (Nat.ble (v.2.length+1) aU) (next (IntKind.i64.wrap (v.1+(1:Int)),v.2++[r2])) none) (x0 v.2)
def mB (k:Nat) (a0:List ax):Option (List ax):=
 iter (λu4 n4=>eS k (a0,(a0.length:Int)) u4 n4 (λy3=>some y3)) k ((0:Int),([]:List ax))
def jK {ρ:Type} (k:Nat) (p:Int× Int× Int× List ax× Int× Int× Int× Int× Int× Int) (v:Int× List ax) (next:(Int× List ax)->Option ρ) (x0:(List ax)->Option ρ):Option ρ:=
 cond (decide (v.1<(p.2.2.2.1.length:Int))) ((idx p.2.2.2.1 v.1).bind λe1=>(sK k e1).bind λr2=>cond (Nat.ble (v.2.length+1) aU) (next (IntKind.i64.wrap (v.1+(1:Int)),v.2++[r2])) none) (x0 v.2)
def sL (k:Nat) (a0:Model):Option (Model):=
 iter (λu4 n4=>jK k (a0.inp.h,a0.inp.w,a0.inp.c,a0.aB,(0:Int),(0:Int),(0:Int),a0.inp.h,a0.inp.w,a0.inp.c) u4 n4 (λy3=>some (⟨a0.inp,y3⟩:Model))) k ((0:Int),([]:List ax))
def mZ {ρ:Type} (k:Nat) (p:Int× Int× Int× List ax× Int× Int× Int× Int× List Int× Int× List Int) (v:Int× Int) (next:(Int× Int)->Option ρ) (x0:Int->Option ρ):Option ρ:=
 cond (decide (v.2<p.2.2.2.2.1)) (cond (decide (0<=v.2/\v.2<(p.2.2.2.2.2.2.2.2.2.2.length:Int))) ((p.2.2.2.2.2.2.2.2.2.2[v.2.toNat]?).bind λe6=>next (IntKind.i64.wrap (v.1+e6),IntKind.i64.wrap (v.2+(1:Int)))) none) (x0 v.1)
def rz (k:Nat) (a0:Job):Option (Bool):=
 (iX k a0.model).bind λr1=>cond (!r1.2) (some false) ((b9 k a0.at_ (0:Int) (a0.model.aB.length:Int)).bind λr2=>cond (!r2) (some false) ((kP k a0.act).bind λr3=>cond (!r3) (some false) (cond (decide (0<=a0.at_/\a0.at_<(r1.1.length:Int))) ((r1.1[a0.at_.toNat]?).bind λe4=>cond (!(cond (a0.act.sh.h==e4.h) (cond (a0.act.sh.w==e4.w) (cond (a0.act.sh.c==e4.c) (true) false) false) false)) (some false) ((jH k a0.model).bind λr5=>iter (λu8 n8=>mZ k (a0.model.inp.h,a0.model.inp.w,a0.model.inp.c,a0.model.aB,a0.at_,a0.act.sh.h,a0.act.sh.w,a0.act.sh.c,a0.act.data,a0.iF,r5) u8 n8 (λy7=>some (a0.iF==y7))) k ((0:Int),(0:Int)))) none)))
def qa (k:Nat) (a0:Model) (a1:av):Option (Job× Bool):=
 (sL k a0).bind λr1=>(pq k a1).bind λr2=>(rz k (⟨r1,(0:Int),r2,(0:Int)⟩:Job)).bind λr3=>cond (!r3) (some ((⟨(⟨(⟨(0:Int),(0:Int),(0:Int)⟩:Shape),([]:List ax)⟩:Model),(0:Int),(⟨(⟨(0:Int),(0:Int),(0:Int)⟩:Shape),([]:List Int)⟩:av),(0:Int)⟩:Job),false)) (some ((⟨r1,(0:Int),r2,(0:Int)⟩:Job),true))
def xv (k:Nat) (a0:Job):Option (Bool):=
 (lh k a0.model).bind λr1=>cond (r1) ((qT k a0.at_ (0:Int) (a0.model.aB.length:Int)).bind λr2=>cond (r2) ((mV k a0.act).bind λr3=>cond (r3) ((mY k a0.model).bind λr4=>cond (decide (0<=a0.at_/\a0.at_<(r4.length:Int))) ((r4[a0.at_.toNat]?).bind λe5=>cond (cond (a0.act.sh.h==e5.h) (cond (a0.act.sh.w==e5.w) (cond (a0.act.sh.c==e5.c) (true) false) false) false) ((jJ k a0.model).bind λr6=>cond (decide (0<=a0.at_/\a0.at_<=(r6.length:Int))) ((KM k (((r6).drop 0).take (a0.at_.toNat-0))).bind λr7=>some (a0.iF==r7)) none) (some false)) none) (some false)) (some false)) (some false)
def jk (k:Nat) (a0:Model):Option (Model):=
 (mB k a0.aB).bind λr1=>some (⟨a0.inp,r1⟩:Model)
def lT (k:Nat) (a0:Job):Option (Job):=
 (jk k a0.model).bind λr1=>(ik k a0.act).bind λr2=>some (⟨r1,a0.at_,r2,a0.iF⟩:Job)
def qb (k:Nat) (a0:Model) (a1:av):Option (Job× Bool):=
 (xv k (⟨a0,(0:Int),a1,(0:Int)⟩:Job)).bind λr1=>cond (!r1) (some ((⟨(⟨(⟨(0:Int),(0:Int),(0:Int)⟩:Shape),([]:List ax)⟩:Model),(0:Int),(⟨(⟨(0:Int),(0:Int),(0:Int)⟩:Shape),([]:List Int)⟩:av),(0:Int)⟩:Job),false)) ((lT k (⟨a0,(0:Int),a1,(0:Int)⟩:Job)).bind λr2=>some (r2,true))
end
end
set_option maxRecDepth 100000
section
noncomputable section
def sM (k:Nat) (a0:Job):Option (Job):=
 (sL k a0.model).bind λr1=>(pq k a0.act).bind λr2=>some (⟨r1,a0.at_,r2,a0.iF⟩:Job)
def sN (k:Nat) (a0:Job):Option (Bool):=
 (rz k a0).bind λr1=>cond (r1) (some (a0.at_==(a0.model.aB.length:Int))) (some false)
def m7 (k:Nat) (a0:Int) (a1:Int) (a2:Int):Option (Int):=
 cond (decide (a0<a1)) (some a1) (cond (decide (a1>a2)) (some a1) (cond (decide (a0>a2)) (some a2) (some a0)))
def xw (k:Nat) (a0:Int):Option (Int):=
 (m7 k a0 (-128:Int) (127:Int)).bind λr1=>some r1
def mC (k:Nat) (a0:Int):Option (Int):=
 (m7 k a0 (-2147483648:Int) (2147483647:Int)).bind λr1=>some r1
def lU (k:Nat) (a0:Int) (a1:Int):Option (Int):=
 (mC k a0).bind λr1=>(mC k a1).bind λr2=>(mC k (IntKind.i64.wrap (r1+r2))).bind λr3=>some r3
def qc {ρ:Type} (k:Nat) (p:List Int× List Int) (v:Int× Int) (next:(Int× Int)->Option ρ) (x0:Int->Option ρ):Option ρ:=
 cond (decide (v.2<(p.1.length:Int))) (cond (decide (v.2<(p.2.length:Int))) ((idx p.1 v.2).bind λe1=>(xw k e1).bind λr2=>(idx p.2 v.2).bind λe3=>(xw k e3).bind λr4=>(lU k v.1 (IntKind.i64.wrap (r2*r4))).bind λr5=>next (r5,IntKind.i64.wrap (v.2+(1:Int)))) (x0 v.1)) (x0 v.1)
def BT (k:Nat) (a0:List Int) (a1:List Int):Option (Int):=
 iter (λu7 n7=>qc k (a0,a1) u7 n7 (λy6=>some y6)) k ((0:Int),(0:Int))
def sO (k:Nat) (a0:Int) (a1:Int):Option (Int):=
 cond (decide (a1=0)) none (cond (decide (a1=0)) none (cond (decide ((a0.tmod a1)<(0:Int))) (some (IntKind.i64.wrap ((IntKind.i64.wrap (a0.tdiv a1))-(1:Int)))) (some (IntKind.i64.wrap (a0.tdiv a1)))))
def sP (k:Nat) (a0:Int) (a1:Int):Option (Int):=
 (mC k a0).bind λr1=>(mC k a1).bind λr2=>(sO k (IntKind.i64.wrap ((IntKind.i64.wrap (r1*r2))+(1073741824:Int))) (2147483648:Int)).bind λr3=>(mC k r3).bind λr4=>some r4
def lV (k:Nat) (a0:Int) (a1:Int):Option (Int):=
 (mC k a0).bind λr1=>(m7 k a1 (0:Int) (31:Int)).bind λr2=>cond (decide ((IntKind.u64.wrap (r2))<0)) none (cond (decide (r1<(0:Int))) (cond (decide ((IntKind.i64.wrap ((1:Int)*2^(min (IntKind.u64.wrap (r2)).toNat IntKind.i64.bits)))=0)) none (some (IntKind.i64.wrap (0-(IntKind.i64.wrap ((IntKind.i64.wrap ((IntKind.i64.wrap (0-r1))+(IntKind.i64.wrap ((IntKind.i64.wrap ((1:Int)*2^(min (IntKind.u64.wrap (r2)).toNat IntKind.i64.bits))).tdiv (2:Int))))).tdiv (IntKind.i64.wrap ((1:Int)*2^(min (IntKind.u64.wrap (r2)).toNat IntKind.i64.bits))))))))) (cond (decide ((IntKind.i64.wrap ((1:Int)*2^(min (IntKind.u64.wrap (r2)).toNat IntKind.i64.bits)))=0)) none (some (IntKind.i64.wrap ((IntKind.i64.wrap (r1+(IntKind.i64.wrap ((IntKind.i64.wrap ((1:Int)*2^(min (IntKind.u64.wrap (r2)).toNat IntKind.i64.bits))).tdiv (2:Int))))).tdiv (IntKind.i64.wrap ((1:Int)*2^(min (IntKind.u64.wrap (r2)).toNat IntKind.i64.bits))))))))
def m8 (k:Nat) (a0:Int) (a1:Int) (a2:Int) (a3:Int):Option (Int):=
 (sP k a0 a1).bind λr1=>(lV k r1 a2).bind λr2=>(xw k a3).bind λr3=>(xw k (IntKind.i64.wrap (r2+r3))).bind λr4=>some r4
def xx (k:Nat) (a0:Shape) (a1:Int) (a2:Int) (a3:Int):Option (Int):=
 (jC k a0).bind λr1=>cond (!r1) (some (-1:Int)) ((b9 k a1 (0:Int) (IntKind.i64.wrap (a0.h-(1:Int)))).bind λr2=>cond (!r2) (some (-1:Int)) ((b9 k a2 (0:Int) (IntKind.i64.wrap (a0.w-(1:Int)))).bind λr3=>cond (!r3) (some (-1:Int)) ((b9 k a3 (0:Int) (IntKind.i64.wrap (a0.c-(1:Int)))).bind λr4=>cond (!r4) (some (-1:Int)) (some (IntKind.i64.wrap ((IntKind.i64.wrap ((IntKind.i64.wrap ((IntKind.i64.wrap (a1*a0.w))+a2))*a0.c))+a3))))))
def nR (k:Nat) (a0:av) (a1:Int) (a2:Int) (a3:Int):Option (Int× Bool):=
 (xx k a0.sh a1 a2 a3).bind λr1=>(kP k a0).bind λr2=>cond (!r2) (some ((0:Int),false)) (cond (decide (r1<(0:Int))) (some ((0:Int),false)) ((idx a0.data r1).bind λe3=>some (e3,true)))
def lW {ρ:Type} (k:Nat) (p:Int× Int× Int× Int× Int× Int× Int× List Int× Int× Int× Int× Int× Int× Int× Int× List Int× List Int) (v:Int× List Int) (next:(Int× List Int)->Option ρ) (x2:(List Int)->Option ρ):Option ρ:=
 cond (decide (v.1<p.2.2.2.2.2.2.2.2.2.2.1)) ((nR k (⟨(⟨p.2.2.2.2.1,p.2.2.2.2.2.1,p.2.2.2.2.2.2.1⟩:Shape),p.2.2.2.2.2.2.2.1⟩:av) (IntKind.i64.wrap ((IntKind.i64.wrap (p.1*p.2.2.2.2.2.2.2.2.2.2.2.1))+p.2.2.2.1)) (IntKind.i64.wrap ((IntKind.i64.wrap (p.2.1*p.2.2.2.2.2.2.2.2.2.2.2.1))+v.1)) p.2.2.1).bind λr1=>cond (Nat.ble (v.2.length+[r1.1].length) aU) (next (IntKind.i64.wrap (v.1+(1:Int)),v.2++[r1.1])) none) (x2 v.2)
def lX {ρ:Type} (k:Nat) (p:Int× Int× Int× Int× Int× Int× List Int× Int× Int× Int× Int× Int× Int× Int× List Int× List Int) (v:Int× List Int) (next:(Int× List Int)->Option ρ) (x0:(List Int)->Option ρ):Option ρ:=
 cond (decide (v.1<p.2.2.2.2.2.2.2.2.2.1)) (iter (λu3 n3=>lW k (p.1,p.2.1,p.2.2.1,v.1,p.2.2.2.1,p.2.2.2.2.1,p.2.2.2.2.2.1,p.2.2.2.2.2.2.1,p.2.2.2.2.2.2.2.1,p.2.2.2.2.2.2.2.2.1,p.2.2.2.2.2.2.2.2.2.1,p.2.2.2.2.2.2.2.2.2.2.1,p.2.2.2.2.2.2.2.2.2.2.2.1,p.2.2.2.2.2.2.2.2.2.2.2.2.1,p.2.2.2.2.2.2.2.2.2.2.2.2.2.1,p.2.2.2.2.2.2.2.2.2.2.2.2.2.2.1,p.2.2.2.2.2.2.2.2.2.2.2.2.2.2.2) u3 n3 (λy2=>next (IntKind.i64.wrap (v.1+(1:Int)),y2))) k ((0:Int),v.2)) (x0 v.2)
def lj (k:Nat) (a0:av) (a1:ax) (a2:Int) (a3:Int) (a4:Int):Option (List Int):=
 iter (λu5 n5=>lX k (a2,a3,a4,a0.sh.h,a0.sh.w,a0.sh.c,a0.data,a1.kind,a1.out,a1.size,a1.step,a1.mult,a1.shift,a1.zero,a1.weights,a1.mG) u5 n5 (λy4=>some y4)) k ((0:Int),([]:List Int))
def lY {ρ:Type} (k:Nat) (p:Int× Int× Int× Int× Int× Int× Int× Int× List Int× Int× Int× Int× Int× Int× Int× Int× List Int× List Int× Int× Int× Int) (v:Int× Int) (next:(Int× Int)->Option ρ) (x5:Int->Option ρ):Option ρ:=
 cond (decide (v.2<p.2.2.2.2.2.2.2.2.2.2.2.2.2.2.2.2.2.2.2.2)) ((nR k (⟨(⟨p.2.2.2.2.2.1,p.2.2.2.2.2.2.1,p.2.2.2.2.2.2.2.1⟩:Shape),p.2.2.2.2.2.2.2.2.1⟩:av) (IntKind.i64.wrap ((IntKind.i64.wrap (p.1*p.2.2.2.2.2.2.2.2.2.2.2.2.1))+p.2.2.2.1)) (IntKind.i64.wrap ((IntKind.i64.wrap (p.2.1*p.2.2.2.2.2.2.2.2.2.2.2.2.1))+p.2.2.2.2.1)) v.2).bind λr6=>(idx p.2.2.2.2.2.2.2.2.2.2.2.2.2.2.2.2.1 (IntKind.i64.wrap ((IntKind.i64.wrap ((IntKind.i64.wrap ((IntKind.i64.wrap ((IntKind.i64.wrap ((IntKind.i64.wrap (p.2.2.1*p.2.2.2.2.2.2.2.2.2.2.2.1))+p.2.2.2.1))*p.2.2.2.2.2.2.2.2.2.2.2.1))+p.2.2.2.2.1))*p.2.2.2.2.2.2.2.2.2.2.2.2.2.2.2.2.2.2.2.2))+v.2))).bind λe7=>(lU k v.1 (IntKind.i64.wrap (r6.1*e7))).bind λr8=>next (r8,IntKind.i64.wrap (v.2+(1:Int)))) (x5 v.1)
def lZ {ρ:Type} (k:Nat) (p:Int× Int× Int× Int× Int× Int× Int× List Int× Int× Int× Int× Int× Int× Int× Int× List Int× List Int× Int× Int× Int) (v:Int× Int) (next:(Int× Int)->Option ρ) (x3:Int->Option ρ):Option ρ:=
 cond (decide (v.2<p.2.2.2.2.2.2.2.2.2.2.1)) (iter (λu10 n10=>lY k (p.1,p.2.1,p.2.2.1,p.2.2.2.1,v.2,p.2.2.2.2.1,p.2.2.2.2.2.1,p.2.2.2.2.2.2.1,p.2.2.2.2.2.2.2.1,p.2.2.2.2.2.2.2.2.1,p.2.2.2.2.2.2.2.2.2.1,p.2.2.2.2.2.2.2.2.2.2.1,p.2.2.2.2.2.2.2.2.2.2.2.1,p.2.2.2.2.2.2.2.2.2.2.2.2.1,p.2.2.2.2.2.2.2.2.2.2.2.2.2.1,p.2.2.2.2.2.2.2.2.2.2.2.2.2.2.1,p.2.2.2.2.2.2.2.2.2.2.2.2.2.2.2.1,p.2.2.2.2.2.2.2.2.2.2.2.2.2.2.2.2.1,p.2.2.2.2.2.2.2.2.2.2.2.2.2.2.2.2.2.1,p.2.2.2.2.2.2.2.2.2.2.2.2.2.2.2.2.2.2.1,p.2.2.2.2.2.2.2.2.2.2.2.2.2.2.2.2.2.2.2) u10 n10 (λy9=>next (y9,IntKind.i64.wrap (v.2+(1:Int))))) k (v.1,(0:Int))) (x3 v.1)
def l3 {ρ:Type} (k:Nat) (p:Int× Int× Int× Int× Int× Int× List Int× Int× Int× Int× Int× Int× Int× Int× List Int× List Int× Int× Int× Int) (v:Int× Int) (next:(Int× Int)->Option ρ) (x1:Int->Option ρ):Option ρ:=
 cond (decide (v.2<p.2.2.2.2.2.2.2.2.2.1)) (iter (λu12 n12=>lZ k (p.1,p.2.1,p.2.2.1,v.2,p.2.2.2.1,p.2.2.2.2.1,p.2.2.2.2.2.1,p.2.2.2.2.2.2.1,p.2.2.2.2.2.2.2.1,p.2.2.2.2.2.2.2.2.1,p.2.2.2.2.2.2.2.2.2.1,p.2.2.2.2.2.2.2.2.2.2.1,p.2.2.2.2.2.2.2.2.2.2.2.1,p.2.2.2.2.2.2.2.2.2.2.2.2.1,p.2.2.2.2.2.2.2.2.2.2.2.2.2.1,p.2.2.2.2.2.2.2.2.2.2.2.2.2.2.1,p.2.2.2.2.2.2.2.2.2.2.2.2.2.2.2.1,p.2.2.2.2.2.2.2.2.2.2.2.2.2.2.2.2.1,p.2.2.2.2.2.2.2.2.2.2.2.2.2.2.2.2.2.1,p.2.2.2.2.2.2.2.2.2.2.2.2.2.2.2.2.2.2) u12 n12 (λy11=>next (y11,IntKind.i64.wrap (v.2+(1:Int))))) k (v.1,(0:Int))) (x1 v.1)
def l4 {ρ:Type} (k:Nat) (p:List Int) (v:Int× Int) (next:(Int× Int)->Option ρ) (x7:Int->Option ρ):Option ρ:=
 cond (decide (v.2<(p.length:Int))) (cond (decide (0<=v.2/\v.2<(p.length:Int))) ((p[v.2.toNat]?).bind λe20=>cond (decide (e20>v.1)) (cond (decide (0<=v.2/\v.2<(p.length:Int))) ((p[v.2.toNat]?).bind λe21=>next (e21,IntKind.i64.wrap (v.2+(1:Int)))) none) (next (v.1,IntKind.i64.wrap (v.2+(1:Int))))) none) (x7 v.1)
def l5 {ρ:Type} (k:Nat) (p:List Int) (v:Int× Int) (next:(Int× Int)->Option ρ) (x9:Int->Option ρ):Option ρ:=
 cond (decide (v.2<(p.length:Int))) (cond (decide (0<=v.2/\v.2<(p.length:Int))) ((p[v.2.toNat]?).bind λe25=>next (IntKind.i64.wrap (v.1+e25),IntKind.i64.wrap (v.2+(1:Int)))) none) (x9 v.1)
def sQ (k:Nat) (a0:av) (a1:ax) (a2:Int) (a3:Int) (a4:Int):Option (Int):=
 cond (a1.kind==(0:Int)) ((dt k a0.sh).bind λr1=>cond (decide (0<=(IntKind.i64.wrap ((IntKind.i64.wrap (a4*r1))+r1))/\(IntKind.i64.wrap ((IntKind.i64.wrap (a4*r1))+r1))<=(a1.weights.length:Int))) (cond (decide (0<=(IntKind.i64.wrap (a4*r1))/\(IntKind.i64.wrap (a4*r1))<=((IntKind.i64.wrap ((IntKind.i64.wrap (a4*r1))+r1)).toNat:Int))) ((BT k a0.data ((a1.weights.take ((IntKind.i64.wrap ((IntKind.i64.wrap (a4*r1))+r1)).toNat)).drop ((IntKind.i64.wrap (a4*r1)).toNat))).bind λr2=>(idx a1.mG a4).bind λe3=>(lU k r2 e3).bind λr4=>(m8 k r4 a1.mult a1.shift a1.zero).bind λr5=>some r5) none) none) (cond (a1.kind==(1:Int)) (iter (λu17 n17=>l3 k (a2,a3,a4,a0.sh.h,a0.sh.w,a0.sh.c,a0.data,a1.kind,a1.out,a1.size,a1.step,a1.mult,a1.shift,a1.zero,a1.weights,a1.mG,a0.sh.h,a0.sh.w,a0.sh.c) u17 n17 (λy13=>(idx a1.mG a4).bind λe14=>(lU k y13 e14).bind λr15=>(m8 k r15 a1.mult a1.shift a1.zero).bind λr16=>some r16)) k ((0:Int),(0:Int))) (cond (a1.kind==(2:Int)) ((lj k a0 a1 a2 a3 a4).bind λr18=>cond (decide (0<=(0:Int)/\(0:Int)<(r18.length:Int))) ((r18[(0:Int).toNat]?).bind λe19=>iter (λu23 n23=>l4 k r18 u23 n23 (λy22=>some y22)) k (e19,(1:Int))) none) (cond (a1.kind==(3:Int)) ((lj k a0 a1 a2 a3 a4).bind λr24=>iter (λu27 n27=>l5 k r24 u27 n27 (λy26=>cond (decide (y26<(0:Int))) (cond (decide ((IntKind.i64.wrap ((2:Int)*(r24.length:Int)))=0)) none (some (IntKind.i64.wrap (0-(IntKind.i64.wrap ((IntKind.i64.wrap ((IntKind.i64.wrap ((-2:Int)*y26))+(r24.length:Int))).tdiv (IntKind.i64.wrap ((2:Int)*(r24.length:Int))))))))) (cond (decide ((IntKind.i64.wrap ((2:Int)*(r24.length:Int)))=0)) none (some (IntKind.i64.wrap ((IntKind.i64.wrap ((IntKind.i64.wrap ((2:Int)*y26))+(r24.length:Int))).tdiv (IntKind.i64.wrap ((2:Int)*(r24.length:Int))))))))) k ((0:Int),(0:Int))) (cond (a1.kind==(4:Int)) ((nR k a0 a2 a3 a4).bind λr28=>cond (decide (r28.1<a1.zero)) (some a1.zero) (some r28.1)) ((idx a0.data a4).bind λe29=>some e29)))))
def kj {ρ:Type} (k:Nat) (p:Int× Int× Int× Int× Int× List Int× Int× Int× Int× Int× Int× Int× Int× List Int× List Int× Int× Int× Int× Int× Int× Int× Int× Int× Int) (v:Int× List Int) (next:(Int× List Int)->Option ρ) (x4:(List Int)->Option ρ):Option ρ:=
 cond (decide (v.1<p.2.2.2.2.2.2.2.2.2.2.2.2.2.2.2.2.2.2.2.2.1)) ((sQ k (⟨(⟨p.2.2.1,p.2.2.2.1,p.2.2.2.2.1⟩:Shape),p.2.2.2.2.2.1⟩:av) (⟨p.2.2.2.2.2.2.1,p.2.2.2.2.2.2.2.1,p.2.2.2.2.2.2.2.2.1,p.2.2.2.2.2.2.2.2.2.1,p.2.2.2.2.2.2.2.2.2.2.1,p.2.2.2.2.2.2.2.2.2.2.2.1,p.2.2.2.2.2.2.2.2.2.2.2.2.1,p.2.2.2.2.2.2.2.2.2.2.2.2.2.1,p.2.2.2.2.2.2.2.2.2.2.2.2.2.2.1⟩:ax) p.1 p.2.1 v.1).bind λr3=>cond (Nat.ble (v.2.length+[r3].length) aU) (next (IntKind.i64.wrap (v.1+(1:Int)),v.2++[r3])) none) (x4 v.2)
def kn {ρ:Type} (k:Nat) (p:Int× Int× Int× Int× List Int× Int× Int× Int× Int× Int× Int× Int× List Int× List Int× Int× Int× Int× Int× Int× Int× Int× Int× Int) (v:Int× List Int) (next:(Int× List Int)->Option ρ) (x2:(List Int)->Option ρ):Option ρ:=
 cond (decide (v.1<p.2.2.2.2.2.2.2.2.2.2.2.2.2.2.2.2.2.2.1)) (iter (λu5 n5=>kj k (p.1,v.1,p.2.1,p.2.2.1,p.2.2.2.1,p.2.2.2.2.1,p.2.2.2.2.2.1,p.2.2.2.2.2.2.1,p.2.2.2.2.2.2.2.1,p.2.2.2.2.2.2.2.2.1,p.2.2.2.2.2.2.2.2.2.1,p.2.2.2.2.2.2.2.2.2.2.1,p.2.2.2.2.2.2.2.2.2.2.2.1,p.2.2.2.2.2.2.2.2.2.2.2.2.1,p.2.2.2.2.2.2.2.2.2.2.2.2.2.1,p.2.2.2.2.2.2.2.2.2.2.2.2.2.2.1,p.2.2.2.2.2.2.2.2.2.2.2.2.2.2.2.1,p.2.2.2.2.2.2.2.2.2.2.2.2.2.2.2.2.1,p.2.2.2.2.2.2.2.2.2.2.2.2.2.2.2.2.2.1,p.2.2.2.2.2.2.2.2.2.2.2.2.2.2.2.2.2.2.1,p.2.2.2.2.2.2.2.2.2.2.2.2.2.2.2.2.2.2.2.1,p.2.2.2.2.2.2.2.2.2.2.2.2.2.2.2.2.2.2.2.2.1,p.2.2.2.2.2.2.2.2.2.2.2.2.2.2.2.2.2.2.2.2.2.1,p.2.2.2.2.2.2.2.2.2.2.2.2.2.2.2.2.2.2.2.2.2.2) u5 n5 (λy4=>next (IntKind.i64.wrap (v.1+(1:Int)),y4))) k ((0:Int),v.2)) (x2 v.2)
def ko {ρ:Type} (k:Nat) (p:Int× Int× Int× List Int× Int× Int× Int× Int× Int× Int× Int× List Int× List Int× Int× Int× Int× Int× Int× Int× Int× Int× Int) (v:Int× List Int) (next:(Int× List Int)->Option ρ) (x0:(List Int)->Option ρ):Option ρ:=
 cond (decide (v.1<p.2.2.2.2.2.2.2.2.2.2.2.2.2.2.2.2.1)) (iter (λu7 n7=>kn k (v.1,p.1,p.2.1,p.2.2.1,p.2.2.2.1,p.2.2.2.2.1,p.2.2.2.2.2.1,p.2.2.2.2.2.2.1,p.2.2.2.2.2.2.2.1,p.2.2.2.2.2.2.2.2.1,p.2.2.2.2.2.2.2.2.2.1,p.2.2.2.2.2.2.2.2.2.2.1,p.2.2.2.2.2.2.2.2.2.2.2.1,p.2.2.2.2.2.2.2.2.2.2.2.2.1,p.2.2.2.2.2.2.2.2.2.2.2.2.2.1,p.2.2.2.2.2.2.2.2.2.2.2.2.2.2.1,p.2.2.2.2.2.2.2.2.2.2.2.2.2.2.2.1,p.2.2.2.2.2.2.2.2.2.2.2.2.2.2.2.2.1,p.2.2.2.2.2.2.2.2.2.2.2.2.2.2.2.2.2.1,p.2.2.2.2.2.2.2.2.2.2.2.2.2.2.2.2.2.2.1,p.2.2.2.2.2.2.2.2.2.2.2.2.2.2.2.2.2.2.2.1,p.2.2.2.2.2.2.2.2.2.2.2.2.2.2.2.2.2.2.2.2.1,p.2.2.2.2.2.2.2.2.2.2.2.2.2.2.2.2.2.2.2.2.2) u7 n7 (λy6=>next (IntKind.i64.wrap (v.1+(1:Int)),y6))) k ((0:Int),v.2)) (x0 v.2)
def qd (k:Nat) (a0:av) (a1:ax):Option (av× Bool):=
 (kP k a0).bind λr1=>cond (!r1) (some ((⟨(⟨(0:Int),(0:Int),(0:Int)⟩:Shape),([]:List Int)⟩:av),false)) ((kQ k a0.sh a1).bind λr2=>cond (!r2.2) (some ((⟨(⟨(0:Int),(0:Int),(0:Int)⟩:Shape),([]:List Int)⟩:av),false)) (iter (λu9 n9=>ko k (a0.sh.h,a0.sh.w,a0.sh.c,a0.data,a1.kind,a1.out,a1.size,a1.step,a1.mult,a1.shift,a1.zero,a1.weights,a1.mG,(0:Int),(0:Int),(0:Int),r2.1.h,r2.1.w,r2.1.c,r2.1.h,r2.1.w,r2.1.c) u9 n9 (λy8=>some ((⟨r2.1,y8⟩:av),true))) k ((0:Int),([]:List Int))))
def lk {ρ:Type} (k:Nat) (p:List Int) (v:Int× List Int) (next:(Int× List Int)->Option ρ) (x0:(List Int)->Option ρ):Option ρ:=
 cond (decide (v.1<(p.length:Int))) (cond (decide (0<=v.1/\v.1<(p.length:Int))) ((p[v.1.toNat]?).bind λe3=>cond (Nat.ble (v.2.length+[e3].length) aU) (next (IntKind.i64.wrap (v.1+(1:Int)),v.2++[e3])) none) none) (x0 v.2)
def vX (k:Nat) (a0:Job):Option (List Int):=
 (rz k a0).bind λr1=>cond (!r1) (some ([]:List Int)) ((jH k a0.model).bind λr2=>iter (λu5 n5=>lk k r2 u5 n5 (λy4=>some y4)) k (a0.at_,([]:List Int)))
def qe (k:Nat) (a0:Job):Option (Int):=
 (vX k a0).bind λr1=>cond ((r1.length:Int)==(0:Int)) (some (0:Int)) (cond (decide (0<=(0:Int)/\(0:Int)<(r1.length:Int))) ((r1[(0:Int).toNat]?).bind λe2=>some e2) none)
def sR (k:Nat) (a0:Job):Option (Job× Bool):=
 (sM k a0).bind λr1=>(rz k a0).bind λr2=>cond (!r2) (some (r1,false)) ((sN k a0).bind λr3=>cond (r3) (some (r1,false)) ((idx a0.model.aB a0.at_).bind λe4=>(qd k a0.act e4).bind λr5=>(qe k a0).bind λr6=>some ((⟨r1.model,(IntKind.i64.wrap (a0.at_+(1:Int))),r5.1,(IntKind.i64.wrap (a0.iF+r6))⟩:Job),true)))
def vY (k:Nat) (a0:Job):Option (List Int):=
 (xv k a0).bind λr1=>cond (!r1) (some ([]:List Int)) ((jJ k a0.model).bind λr2=>cond (decide (0<=a0.at_/\a0.at_<=(r2.length:Int))) (some (((r2).drop a0.at_.toNat).take (r2.length-a0.at_.toNat))) none)
def qf (k:Nat) (a0:Job):Option (Int):=
 (vY k a0).bind λr1=>cond ((r1.length:Int)==(0:Int)) (some (0:Int)) ((idx r1 (0:Int)).bind λe2=>some e2)
def IC (k:Nat) (a0:Int) (a1:Int) (a2:Int):Option (Int):=
 some (if(if a2<a0 then a2 else a0)>a1 then(if a2<a0 then a2 else a0)else a1)
def xy (k:Nat) (a0:Int):Option (Int):=
 (IC k a0 (-128:Int) (127:Int)).bind λr1=>some r1
def mD (k:Nat) (a0:Int):Option (Int):=
 (IC k a0 (-2147483648:Int) (2147483647:Int)).bind λr1=>some r1
def sS (k:Nat) (a0:Int) (a1:Int):Option (Int):=
 (mD k a0).bind λr1=>(mD k a1).bind λr2=>(mD k (IntKind.i64.wrap (r1+r2))).bind λr3=>some r3
def qg {ρ:Type} (k:Nat) (p:List Int× List Int× Int) (v:Int× Int) (next:(Int× Int)->Option ρ) (x0:Int->Option ρ):Option ρ:=
 cond (decide (v.2<p.2.2)) ((idx p.1 v.2).bind λe1=>(xy k e1).bind λr2=>(idx p.2.1 v.2).bind λe3=>(xy k e3).bind λr4=>(sS k v.1 (IntKind.i64.wrap (r2*r4))).bind λr5=>next (r5,IntKind.i64.wrap (v.2+(1:Int)))) (x0 v.1)
def BU (k:Nat) (a0:List Int) (a1:List Int):Option (Int):=
 iter (λu7 n7=>qg k (a0,a1,if(a1.length:Int)<(a0.length:Int)then(a1.length:Int)else(a0.length:Int)) u7 n7 (λy6=>some y6)) k ((0:Int),(0:Int))
def sT (k:Nat) (a0:Int) (a1:Int):Option (Int):=
 (mD k a0).bind λr1=>(mD k a1).bind λr2=>(mD k ((IntKind.i64.wrap ((IntKind.i64.wrap (r1*r2))+(1073741824:Int))).fdiv (2^(min (31:Int).toNat IntKind.i64.bits)))).bind λr3=>some r3
def nS (k:Nat) (a0:Int) (a1:Int):Option (Int):=
 cond (decide (a0<(0:Int))) (none) (cond (decide ((IntKind.i64.wrap ((2:Int)*a1))=0)) none (some (IntKind.i64.wrap ((IntKind.i64.wrap ((IntKind.i64.wrap ((2:Int)*a0))+a1)).tdiv (IntKind.i64.wrap ((2:Int)*a1))))))
def m9 (k:Nat) (a0:Int) (a1:Int):Option (Int):=
 cond (decide (a0<(0:Int))) ((nS k (IntKind.i64.wrap (0-a0)) a1).bind λr1=>some (IntKind.i64.wrap (0-r1))) (cond (decide ((IntKind.i64.wrap ((2:Int)*a1))=0)) none (some (IntKind.i64.wrap ((IntKind.i64.wrap ((IntKind.i64.wrap ((2:Int)*a0))+a1)).tdiv (IntKind.i64.wrap ((2:Int)*a1))))))
def l6 (k:Nat) (a0:Int) (a1:Int):Option (Int):=
 (mD k a0).bind λr1=>(IC k a1 (0:Int) (31:Int)).bind λr2=>cond (decide (r2<0)) none ((m9 k r1 (IntKind.i64.wrap ((1:Int)*2^(min r2.toNat IntKind.i64.bits)))).bind λr3=>some r3)
def sU (k:Nat) (a0:Int) (a1:Int) (a2:Int) (a3:Int):Option (Int):=
 (sT k a0 a1).bind λr1=>(l6 k r1 a2).bind λr2=>(xy k a3).bind λr3=>(xy k (IntKind.i64.wrap (r2+r3))).bind λr4=>some r4
def fy (k:Nat) (a0:ax) (a1:List Int) (a2:Int):Option (Int):=
 cond (decide (0<=(IntKind.i64.wrap ((IntKind.i64.wrap (a2+(1:Int)))*(a1.length:Int)))/\(IntKind.i64.wrap ((IntKind.i64.wrap (a2+(1:Int)))*(a1.length:Int)))<=(a0.weights.length:Int))) (cond (decide (0<=(IntKind.i64.wrap (a2*(a1.length:Int)))/\(IntKind.i64.wrap (a2*(a1.length:Int)))<=((IntKind.i64.wrap ((IntKind.i64.wrap (a2+(1:Int)))*(a1.length:Int))).toNat:Int))) ((BU k a1 ((a0.weights.take ((IntKind.i64.wrap ((IntKind.i64.wrap (a2+(1:Int)))*(a1.length:Int))).toNat)).drop ((IntKind.i64.wrap (a2*(a1.length:Int))).toNat))).bind λr1=>(idx a0.mG a2).bind λe2=>(sS k r1 e2).bind λr3=>(sU k r3 a0.mult a0.shift a0.zero).bind λr4=>some r4) none) none
def im (k:Nat) (a0:Shape) (a1:Int) (a2:Int) (a3:Int):Option (Int):=
 some (IntKind.i64.wrap ((IntKind.i64.wrap ((IntKind.i64.wrap ((IntKind.i64.wrap (a1*a0.w))+a2))*a0.c))+a3))
def dz {ρ:Type} (k:Nat) (p:Int× Int× Int× Int× Int× Int× Int× Int× Int× Int× Int× Int× Int× Int× List Int× List Int× Int× Int× Int× List Int) (v:Int× List Int) (next:(Int× List Int)->Option ρ) (x2:(List Int)->Option ρ):Option ρ:=
 cond (decide (v.1<p.2.2.2.2.2.2.1)) ((im k (⟨p.2.2.2.2.2.2.2.2.2.2.2.2.2.2.2.2.1,p.2.2.2.2.2.2.2.2.2.2.2.2.2.2.2.2.2.1,p.2.2.2.2.2.2.2.2.2.2.2.2.2.2.2.2.2.2.1⟩:Shape) (IntKind.i64.wrap ((IntKind.i64.wrap (p.1*p.2.2.2.2.2.2.2.2.2.2.1))+p.2.2.2.1)) (IntKind.i64.wrap ((IntKind.i64.wrap (p.2.1*p.2.2.2.2.2.2.2.2.2.2.1))+v.1)) (0:Int)).bind λr1=>cond (decide (p.2.2.1<(0:Int))) (cond (decide (0<=(IntKind.i64.wrap (r1+p.2.2.2.2.2.2.2.2.2.2.2.2.2.2.2.2.2.2.1))/\(IntKind.i64.wrap (r1+p.2.2.2.2.2.2.2.2.2.2.2.2.2.2.2.2.2.2.1))<=(p.2.2.2.2.2.2.2.2.2.2.2.2.2.2.2.2.2.2.2.length:Int))) (cond (decide (0<=r1/\r1<=((IntKind.i64.wrap (r1+p.2.2.2.2.2.2.2.2.2.2.2.2.2.2.2.2.2.2.1)).toNat:Int))) (cond (Nat.ble (v.2.length+((p.2.2.2.2.2.2.2.2.2.2.2.2.2.2.2.2.2.2.2.take ((IntKind.i64.wrap (r1+p.2.2.2.2.2.2.2.2.2.2.2.2.2.2.2.2.2.2.1)).toNat)).drop r1.toNat).length) aU) (next (IntKind.i64.wrap (v.1+(1:Int)),v.2++((p.2.2.2.2.2.2.2.2.2.2.2.2.2.2.2.2.2.2.2.take ((IntKind.i64.wrap (r1+p.2.2.2.2.2.2.2.2.2.2.2.2.2.2.2.2.2.2.1)).toNat)).drop r1.toNat))) none) none) none) ((idx p.2.2.2.2.2.2.2.2.2.2.2.2.2.2.2.2.2.2.2 (IntKind.i64.wrap (r1+p.2.2.1))).bind λe2=>cond (Nat.ble (v.2.length+[e2].length) aU) (next (IntKind.i64.wrap (v.1+(1:Int)),v.2++[e2])) none)) (x2 v.2)
def dA {ρ:Type} (k:Nat) (p:Int× Int× Int× Int× Int× Int× Int× Int× Int× Int× Int× List Int× List Int× Int× Int× Int× List Int) (v:Int× List Int) (next:(Int× List Int)->Option ρ) (x0:(List Int)->Option ρ):Option ρ:=
 cond (decide (v.1<p.2.2.2.1)) (iter (λu4 n4=>dz k (p.1,p.2.1,p.2.2.1,v.1,p.2.2.2.1,v.1,p.2.2.2.2.2.2.1,p.2.2.2.2.1,p.2.2.2.2.2.1,p.2.2.2.2.2.2.1,p.2.2.2.2.2.2.2.1,p.2.2.2.2.2.2.2.2.1,p.2.2.2.2.2.2.2.2.2.1,p.2.2.2.2.2.2.2.2.2.2.1,p.2.2.2.2.2.2.2.2.2.2.2.1,p.2.2.2.2.2.2.2.2.2.2.2.2.1,p.2.2.2.2.2.2.2.2.2.2.2.2.2.1,p.2.2.2.2.2.2.2.2.2.2.2.2.2.2.1,p.2.2.2.2.2.2.2.2.2.2.2.2.2.2.2.1,p.2.2.2.2.2.2.2.2.2.2.2.2.2.2.2.2) u4 n4 (λy3=>next (IntKind.i64.wrap (v.1+(1:Int)),y3))) k ((0:Int),v.2)) (x0 v.2)
def cu (k:Nat) (a0:ax) (a1:av) (a2:Int) (a3:Int) (a4:Int):Option (List Int):=
 iter (λu6 n6=>dA k (a2,a3,a4,a0.size,a0.kind,a0.out,a0.size,a0.step,a0.mult,a0.shift,a0.zero,a0.weights,a0.mG,a1.sh.h,a1.sh.w,a1.sh.c,a1.data) u6 n6 (λy5=>some y5)) k ((0:Int),([]:List Int))
def dQ {ρ:Type} (k:Nat) (p:List Int) (v:Int× Int) (next:(Int× Int)->Option ρ) (x0:Int->Option ρ):Option ρ:=
 cond (decide (v.2<(p.length:Int))) ((idx p v.2).bind λe2=>next (if e2>v.1 then e2 else v.1,IntKind.i64.wrap (v.2+(1:Int)))) (x0 v.1)
def fh (k:Nat) (a0:List Int):Option (Int):=
 cond (decide ((a0.length:Int)<(1:Int))) (none) ((idx a0 (0:Int)).bind λe1=>iter (λu4 n4=>dQ k a0 u4 n4 (λy3=>some y3)) k (e1,(1:Int)))
def iq {ρ:Type} (k:Nat) (p:Int× Int× Int× Int× Int× Int× Int× Int× List Int× List Int× List Int) (v:Int× Int) (next:(Int× Int)->Option ρ) (x1:Int->Option ρ):Option ρ:=
 cond (decide (v.2<p.1)) (cond (decide (0<=v.2/\v.2<(p.2.2.2.2.2.2.2.2.2.2.length:Int))) ((p.2.2.2.2.2.2.2.2.2.2[v.2.toNat]?).bind λe7=>next (IntKind.i64.wrap (v.1+e7),IntKind.i64.wrap (v.2+(1:Int)))) none) (x1 v.1)
def l7 (k:Nat) (a0:ax) (a1:av) (a2:Int) (a3:Int) (a4:Int):Option (Int):=
 cond (a0.kind==(0:Int)) ((fy k a0 a1.data a4).bind λr1=>some r1) (cond (a0.kind==(1:Int)) ((cu k a0 a1 a2 a3 (-1:Int)).bind λr2=>(fy k a0 r2 a4).bind λr3=>some r3) (cond (a0.kind==(2:Int)) ((cu k a0 a1 a2 a3 a4).bind λr4=>(fh k r4).bind λr5=>some r5) (cond (a0.kind==(3:Int)) ((cu k a0 a1 a2 a3 a4).bind λr6=>iter (λu10 n10=>iq k ((r6.length:Int),a0.kind,a0.out,a0.size,a0.step,a0.mult,a0.shift,a0.zero,a0.weights,a0.mG,r6) u10 n10 (λy8=>(m9 k y8 (IntKind.i64.wrap (a0.size*a0.size))).bind λr9=>some r9)) k ((0:Int),(0:Int))) (cond (a0.kind==(4:Int)) ((im k a1.sh a2 a3 a4).bind λr11=>(idx a1.data r11).bind λe12=>some (if a0.zero>e12 then a0.zero else e12)) ((idx a1.data a4).bind λe13=>some e13)))))
def kq {ρ:Type} (k:Nat) (p:Int× Int× Int× Int× Int× Int× Int× Int× Int× Int× List Int× Int× Int× Int× Int× Int× Int× Int× List Int× List Int× Int× Int× Int× Int× Int× Int× Int× Int× Int) (v:Int× List Int) (next:(Int× List Int)->Option ρ) (x4:(List Int)->Option ρ):Option ρ:=
 cond (decide (v.1<p.2.2.2.2.2.2.1)) ((l7 k (⟨p.2.2.2.2.2.2.2.2.2.2.2.1,p.2.2.2.2.2.2.2.2.2.2.2.2.1,p.2.2.2.2.2.2.2.2.2.2.2.2.2.1,p.2.2.2.2.2.2.2.2.2.2.2.2.2.2.1,p.2.2.2.2.2.2.2.2.2.2.2.2.2.2.2.1,p.2.2.2.2.2.2.2.2.2.2.2.2.2.2.2.2.1,p.2.2.2.2.2.2.2.2.2.2.2.2.2.2.2.2.2.1,p.2.2.2.2.2.2.2.2.2.2.2.2.2.2.2.2.2.2.1,p.2.2.2.2.2.2.2.2.2.2.2.2.2.2.2.2.2.2.2.1⟩:ax) (⟨(⟨p.2.2.2.2.2.2.2.1,p.2.2.2.2.2.2.2.2.1,p.2.2.2.2.2.2.2.2.2.1⟩:Shape),p.2.2.2.2.2.2.2.2.2.2.1⟩:av) p.1 p.2.1 v.1).bind λr3=>cond (Nat.ble (v.2.length+[r3].length) aU) (next (IntKind.i64.wrap (v.1+(1:Int)),v.2++[r3])) none) (x4 v.2)
def kr {ρ:Type} (k:Nat) (p:Int× Int× Int× Int× Int× Int× Int× List Int× Int× Int× Int× Int× Int× Int× Int× List Int× List Int× Int× Int× Int× Int× Int× Int× Int× Int× Int) (v:Int× List Int) (next:(Int× List Int)->Option ρ) (x2:(List Int)->Option ρ):Option ρ:=
 cond (decide (v.1<p.2.2.2.1)) (iter (λu5 n5=>kq k (p.1,v.1,p.2.1,p.2.2.1,p.2.2.2.1,v.1,p.2.2.2.2.2.2.2.2.2.2.2.2.2.2.2.2.2.2.2.2.2.2.1,p.2.2.2.2.1,p.2.2.2.2.2.1,p.2.2.2.2.2.2.1,p.2.2.2.2.2.2.2.1,p.2.2.2.2.2.2.2.2.1,p.2.2.2.2.2.2.2.2.2.1,p.2.2.2.2.2.2.2.2.2.2.1,p.2.2.2.2.2.2.2.2.2.2.2.1,p.2.2.2.2.2.2.2.2.2.2.2.2.1,p.2.2.2.2.2.2.2.2.2.2.2.2.2.1,p.2.2.2.2.2.2.2.2.2.2.2.2.2.2.1,p.2.2.2.2.2.2.2.2.2.2.2.2.2.2.2.1,p.2.2.2.2.2.2.2.2.2.2.2.2.2.2.2.2.1,p.2.2.2.2.2.2.2.2.2.2.2.2.2.2.2.2.2.1,p.2.2.2.2.2.2.2.2.2.2.2.2.2.2.2.2.2.2.1,p.2.2.2.2.2.2.2.2.2.2.2.2.2.2.2.2.2.2.2.1,p.2.2.2.2.2.2.2.2.2.2.2.2.2.2.2.2.2.2.2.2.1,p.2.2.2.2.2.2.2.2.2.2.2.2.2.2.2.2.2.2.2.2.2.1,p.2.2.2.2.2.2.2.2.2.2.2.2.2.2.2.2.2.2.2.2.2.2.1,p.2.2.2.2.2.2.2.2.2.2.2.2.2.2.2.2.2.2.2.2.2.2.2.1,p.2.2.2.2.2.2.2.2.2.2.2.2.2.2.2.2.2.2.2.2.2.2.2.2.1,p.2.2.2.2.2.2.2.2.2.2.2.2.2.2.2.2.2.2.2.2.2.2.2.2.2) u5 n5 (λy4=>next (IntKind.i64.wrap (v.1+(1:Int)),y4))) k ((0:Int),v.2)) (x2 v.2)
def kt {ρ:Type} (k:Nat) (p:Int× Int× Int× Int× List Int× Int× Int× Int× Int× Int× Int× Int× List Int× List Int× Int× Int× Int× Int× Int× Int× Int× Int× Int) (v:Int× List Int) (next:(Int× List Int)->Option ρ) (x0:(List Int)->Option ρ):Option ρ:=
 cond (decide (v.1<p.1)) (iter (λu7 n7=>kr k (v.1,p.1,v.1,p.2.2.2.2.2.2.2.2.2.2.2.2.2.2.2.2.2.2.1,p.2.1,p.2.2.1,p.2.2.2.1,p.2.2.2.2.1,p.2.2.2.2.2.1,p.2.2.2.2.2.2.1,p.2.2.2.2.2.2.2.1,p.2.2.2.2.2.2.2.2.1,p.2.2.2.2.2.2.2.2.2.1,p.2.2.2.2.2.2.2.2.2.2.1,p.2.2.2.2.2.2.2.2.2.2.2.1,p.2.2.2.2.2.2.2.2.2.2.2.2.1,p.2.2.2.2.2.2.2.2.2.2.2.2.2.1,p.2.2.2.2.2.2.2.2.2.2.2.2.2.2.1,p.2.2.2.2.2.2.2.2.2.2.2.2.2.2.2.1,p.2.2.2.2.2.2.2.2.2.2.2.2.2.2.2.2.1,p.2.2.2.2.2.2.2.2.2.2.2.2.2.2.2.2.2.1,p.2.2.2.2.2.2.2.2.2.2.2.2.2.2.2.2.2.2.1,p.2.2.2.2.2.2.2.2.2.2.2.2.2.2.2.2.2.2.2.1,p.2.2.2.2.2.2.2.2.2.2.2.2.2.2.2.2.2.2.2.2.1,p.2.2.2.2.2.2.2.2.2.2.2.2.2.2.2.2.2.2.2.2.2.1,p.2.2.2.2.2.2.2.2.2.2.2.2.2.2.2.2.2.2.2.2.2.2) u7 n7 (λy6=>next (IntKind.i64.wrap (v.1+(1:Int)),y6))) k ((0:Int),v.2)) (x0 v.2)
def qh (k:Nat) (a0:av) (a1:ax):Option (av× Bool):=
 (kR k a0.sh a1).bind λr1=>cond (!r1.2) (some ((⟨(⟨(0:Int),(0:Int),(0:Int)⟩:Shape),([]:List Int)⟩:av),false)) ((mV k a0).bind λr2=>cond (!r2) (some ((⟨(⟨(0:Int),(0:Int),(0:Int)⟩:Shape),([]:List Int)⟩:av),false)) (iter (λu9 n9=>kt k (r1.1.h,a0.sh.h,a0.sh.w,a0.sh.c,a0.data,a1.kind,a1.out,a1.size,a1.step,a1.mult,a1.shift,a1.zero,a1.weights,a1.mG,(0:Int),(0:Int),(0:Int),r1.1.h,r1.1.w,r1.1.c,r1.1.h,r1.1.w,r1.1.c) u9 n9 (λy8=>some ((⟨r1.1,y8⟩:av),true))) k ((0:Int),([]:List Int))))
end
end
set_option maxRecDepth 100000
set_option maxHeartbeats 4000000
section
noncomputable section
end
end
set_option maxRecDepth 100000
section
noncomputable section
def nT (k:Nat) (a0:Int):Option (Bool):=
 (qT k a0 (-1099511627776:Int) (1099511627775:Int)).bind λr1=>some r1
def fW {ρ:Type} (k:Nat) (p:List Int× Int) (v:Int× Int) (next:(Int× Int)->Option ρ) (x0:Unit->Option ρ) (xret:(Int× Int)->Option ρ):Option ρ:=
 cond (decide (v.2<(6:Int))) (cond (decide (p.2<(0:Int))) (xret ((0:Int),(-1:Int))) (cond (decide (p.2>=(IntKind.i64.wrap ((p.1.length:Int)-v.2)))) (xret ((0:Int),(-1:Int))) ((idx p.1 (IntKind.i64.wrap (p.2+v.2))).bind λe1=>cond (decide ((IntKind.u64.wrap (IntKind.i64.wrap ((7:Int)*v.2)))<0)) none (cond (decide ((IntKind.i64.wrap (e1))<(128:Int))) (cond ((IntKind.i64.wrap (e1))==(0:Int)) (cond (decide (v.2>(0:Int))) (xret ((0:Int),(-1:Int))) (cond (decide ((IntKind.i64.wrap (v.1+(IntKind.i64.wrap (((IntKind.i64.wrap (e1)).tmod (128:Int))*2^(min (IntKind.u64.wrap (IntKind.i64.wrap ((7:Int)*v.2))).toNat IntKind.i64.bits)))))>(2199023255551:Int))) (xret ((0:Int),(-1:Int))) (cond (((IntKind.i64.wrap (v.1+(IntKind.i64.wrap (((IntKind.i64.wrap (e1)).tmod (128:Int))*2^(min (IntKind.u64.wrap (IntKind.i64.wrap ((7:Int)*v.2))).toNat IntKind.i64.bits))))).tmod (2:Int))==(1:Int)) (xret (IntKind.i64.wrap ((IntKind.i64.wrap (0-(IntKind.i64.wrap ((IntKind.i64.wrap (v.1+(IntKind.i64.wrap (((IntKind.i64.wrap (e1)).tmod (128:Int))*2^(min (IntKind.u64.wrap (IntKind.i64.wrap ((7:Int)*v.2))).toNat IntKind.i64.bits)))))+(1:Int))))).tdiv (2:Int)),IntKind.i64.wrap ((IntKind.i64.wrap (p.2+v.2))+(1:Int)))) (xret (IntKind.i64.wrap ((IntKind.i64.wrap (v.1+(IntKind.i64.wrap (((IntKind.i64.wrap (e1)).tmod (128:Int))*2^(min (IntKind.u64.wrap (IntKind.i64.wrap ((7:Int)*v.2))).toNat IntKind.i64.bits))))).tdiv (2:Int)),IntKind.i64.wrap ((IntKind.i64.wrap (p.2+v.2))+(1:Int))))))) (cond (decide ((IntKind.i64.wrap (v.1+(IntKind.i64.wrap (((IntKind.i64.wrap (e1)).tmod (128:Int))*2^(min (IntKind.u64.wrap (IntKind.i64.wrap ((7:Int)*v.2))).toNat IntKind.i64.bits)))))>(2199023255551:Int))) (xret ((0:Int),(-1:Int))) (cond (((IntKind.i64.wrap (v.1+(IntKind.i64.wrap (((IntKind.i64.wrap (e1)).tmod (128:Int))*2^(min (IntKind.u64.wrap (IntKind.i64.wrap ((7:Int)*v.2))).toNat IntKind.i64.bits))))).tmod (2:Int))==(1:Int)) (xret (IntKind.i64.wrap ((IntKind.i64.wrap (0-(IntKind.i64.wrap ((IntKind.i64.wrap (v.1+(IntKind.i64.wrap (((IntKind.i64.wrap (e1)).tmod (128:Int))*2^(min (IntKind.u64.wrap (IntKind.i64.wrap ((7:Int)*v.2))).toNat IntKind.i64.bits)))))+(1:Int))))).tdiv (2:Int)),IntKind.i64.wrap ((IntKind.i64.wrap (p.2+v.2))+(1:Int)))) (xret (IntKind.i64.wrap ((IntKind.i64.wrap (v.1+(IntKind.i64.wrap (((IntKind.i64.wrap (e1)).tmod (128:Int))*2^(min (IntKind.u64.wrap (IntKind.i64.wrap ((7:Int)*v.2))).toNat IntKind.i64.bits))))).tdiv (2:Int)),IntKind.i64.wrap ((IntKind.i64.wrap (p.2+v.2))+(1:Int))))))) (next (IntKind.i64.wrap (v.1+(IntKind.i64.wrap (((IntKind.i64.wrap (e1)).tmod (128:Int))*2^(min (IntKind.u64.wrap (IntKind.i64.wrap ((7:Int)*v.2))).toNat IntKind.i64.bits)))),IntKind.i64.wrap (v.2+(1:Int)))))))) (x0 ())
def qi (k:Nat) (a0:List Int) (a1:Int):Option (Int× Int):=
 iter (λu4 n4=>fW k (a0,a1) u4 n4 (λy2=>some ((0:Int),(-1:Int))) (λy3=>some (y3.1,y3.2))) k ((0:Int),(0:Int))
def cp (k:Nat) (a0_0:List Int) (a0_1:Int) (a0_2:Bool):Option (Int× Int× Bool):=
 cond (a0_2) (cond (decide (a0_0=a0_0)) (some ((0:Int),a0_1,a0_2)) none) ((qi k a0_0 a0_1).bind λr1=>cond (decide (r1.2<(0:Int))) (cond (decide (a0_0=a0_0)) (some ((0:Int),a0_1,true)) none) (cond (decide (a0_0=a0_0)) (some (r1.1,r1.2,a0_2)) none))
def ir {ρ:Type} (k:Nat) (p:Int× List Int× Int) (v:Int× Int) (next:(Int× Int)->Option ρ) (x0:Unit->Option ρ) (xret:(Int× Int)->Option ρ):Option ρ:=
 cond (decide (v.2<p.2.2)) ((idx p.2.1 v.2).bind λe2=>cond (decide ((IntKind.i64.wrap ((7:Int)*v.2))<0)) none (cond (decide (e2>=(128:Int))) (next (IntKind.i64.wrap (((BitVec.ofInt IntKind.i64.bits v.1||| BitVec.ofInt IntKind.i64.bits (IntKind.i64.wrap ((IntKind.i64.wrap (IntKind.u8.wrap (((BitVec.ofInt IntKind.u8.bits e2&&& BitVec.ofInt IntKind.u8.bits (127:Int)).toNat:Int))))*2^(min (IntKind.i64.wrap ((7:Int)*v.2)).toNat IntKind.i64.bits)))).toNat:Int)),IntKind.i64.wrap (v.2+(1:Int)))) (cond (((IntKind.i64.wrap (((BitVec.ofInt IntKind.i64.bits v.1||| BitVec.ofInt IntKind.i64.bits (IntKind.i64.wrap ((IntKind.i64.wrap (IntKind.u8.wrap (((BitVec.ofInt IntKind.u8.bits e2&&& BitVec.ofInt IntKind.u8.bits (127:Int)).toNat:Int))))*2^(min (IntKind.i64.wrap ((7:Int)*v.2)).toNat IntKind.i64.bits)))).toNat:Int))).tmod (2:Int))==(1:Int)) (cond (decide (v.2>(0:Int))) (cond (e2==(0:Int)) (x0 ()) ((nT k (IntKind.i64.wrap ((IntKind.i64.wrap (0-(IntKind.i64.wrap ((IntKind.i64.wrap (((BitVec.ofInt IntKind.i64.bits v.1||| BitVec.ofInt IntKind.i64.bits (IntKind.i64.wrap ((IntKind.i64.wrap (IntKind.u8.wrap (((BitVec.ofInt IntKind.u8.bits e2&&& BitVec.ofInt IntKind.u8.bits (127:Int)).toNat:Int))))*2^(min (IntKind.i64.wrap ((7:Int)*v.2)).toNat IntKind.i64.bits)))).toNat:Int))).tdiv (2:Int)))))-(1:Int)))).bind λr3=>cond (!r3) (x0 ()) (xret (IntKind.i64.wrap ((IntKind.i64.wrap (0-(IntKind.i64.wrap ((IntKind.i64.wrap (((BitVec.ofInt IntKind.i64.bits v.1||| BitVec.ofInt IntKind.i64.bits (IntKind.i64.wrap ((IntKind.i64.wrap (IntKind.u8.wrap (((BitVec.ofInt IntKind.u8.bits e2&&& BitVec.ofInt IntKind.u8.bits (127:Int)).toNat:Int))))*2^(min (IntKind.i64.wrap ((7:Int)*v.2)).toNat IntKind.i64.bits)))).toNat:Int))).tdiv (2:Int)))))-(1:Int)),IntKind.i64.wrap ((IntKind.i64.wrap (p.1+v.2))+(1:Int)))))) ((nT k (IntKind.i64.wrap ((IntKind.i64.wrap (0-(IntKind.i64.wrap ((IntKind.i64.wrap (((BitVec.ofInt IntKind.i64.bits v.1||| BitVec.ofInt IntKind.i64.bits (IntKind.i64.wrap ((IntKind.i64.wrap (IntKind.u8.wrap (((BitVec.ofInt IntKind.u8.bits e2&&& BitVec.ofInt IntKind.u8.bits (127:Int)).toNat:Int))))*2^(min (IntKind.i64.wrap ((7:Int)*v.2)).toNat IntKind.i64.bits)))).toNat:Int))).tdiv (2:Int)))))-(1:Int)))).bind λr4=>cond (!r4) (x0 ()) (xret (IntKind.i64.wrap ((IntKind.i64.wrap (0-(IntKind.i64.wrap ((IntKind.i64.wrap (((BitVec.ofInt IntKind.i64.bits v.1||| BitVec.ofInt IntKind.i64.bits (IntKind.i64.wrap ((IntKind.i64.wrap (IntKind.u8.wrap (((BitVec.ofInt IntKind.u8.bits e2&&& BitVec.ofInt IntKind.u8.bits (127:Int)).toNat:Int))))*2^(min (IntKind.i64.wrap ((7:Int)*v.2)).toNat IntKind.i64.bits)))).toNat:Int))).tdiv (2:Int)))))-(1:Int)),IntKind.i64.wrap ((IntKind.i64.wrap (p.1+v.2))+(1:Int)))))) (cond (decide (v.2>(0:Int))) (cond (e2==(0:Int)) (x0 ()) ((nT k (IntKind.i64.wrap ((IntKind.i64.wrap (((BitVec.ofInt IntKind.i64.bits v.1||| BitVec.ofInt IntKind.i64.bits (IntKind.i64.wrap ((IntKind.i64.wrap (IntKind.u8.wrap (((BitVec.ofInt IntKind.u8.bits e2&&& BitVec.ofInt IntKind.u8.bits (127:Int)).toNat:Int))))*2^(min (IntKind.i64.wrap ((7:Int)*v.2)).toNat IntKind.i64.bits)))).toNat:Int))).tdiv (2:Int)))).bind λr5=>cond (!r5) (x0 ()) (xret (IntKind.i64.wrap ((IntKind.i64.wrap (((BitVec.ofInt IntKind.i64.bits v.1||| BitVec.ofInt IntKind.i64.bits (IntKind.i64.wrap ((IntKind.i64.wrap (IntKind.u8.wrap (((BitVec.ofInt IntKind.u8.bits e2&&& BitVec.ofInt IntKind.u8.bits (127:Int)).toNat:Int))))*2^(min (IntKind.i64.wrap ((7:Int)*v.2)).toNat IntKind.i64.bits)))).toNat:Int))).tdiv (2:Int)),IntKind.i64.wrap ((IntKind.i64.wrap (p.1+v.2))+(1:Int)))))) ((nT k (IntKind.i64.wrap ((IntKind.i64.wrap (((BitVec.ofInt IntKind.i64.bits v.1||| BitVec.ofInt IntKind.i64.bits (IntKind.i64.wrap ((IntKind.i64.wrap (IntKind.u8.wrap (((BitVec.ofInt IntKind.u8.bits e2&&& BitVec.ofInt IntKind.u8.bits (127:Int)).toNat:Int))))*2^(min (IntKind.i64.wrap ((7:Int)*v.2)).toNat IntKind.i64.bits)))).toNat:Int))).tdiv (2:Int)))).bind λr6=>cond (!r6) (x0 ()) (xret (IntKind.i64.wrap ((IntKind.i64.wrap (((BitVec.ofInt IntKind.i64.bits v.1||| BitVec.ofInt IntKind.i64.bits (IntKind.i64.wrap ((IntKind.i64.wrap (IntKind.u8.wrap (((BitVec.ofInt IntKind.u8.bits e2&&& BitVec.ofInt IntKind.u8.bits (127:Int)).toNat:Int))))*2^(min (IntKind.i64.wrap ((7:Int)*v.2)).toNat IntKind.i64.bits)))).toNat:Int))).tdiv (2:Int)),IntKind.i64.wrap ((IntKind.i64.wrap (p.1+v.2))+(1:Int))))))))) (x0 ())
def qj (k:Nat) (a0:List Int) (a1:Int):Option (Int× Int):=
 (qT k a1 (0:Int) (IntKind.i64.wrap ((a0.length:Int)-(1:Int)))).bind λr1=>cond (!r1) (some ((0:Int),(-1:Int))) (cond (decide (0<=(if(IntKind.i64.wrap (a1+(6:Int)))<(a0.length:Int)then(IntKind.i64.wrap (a1+(6:Int)))else(a0.length:Int))/\(if(IntKind.i64.wrap (a1+(6:Int)))<(a0.length:Int)then(IntKind.i64.wrap (a1+(6:Int)))else(a0.length:Int))<=(a0.length:Int))) (cond (decide (0<=a1/\a1<=((if(IntKind.i64.wrap (a1+(6:Int)))<(a0.length:Int)then(IntKind.i64.wrap (a1+(6:Int)))else(a0.length:Int)).toNat:Int))) (iter (λu9 n9=>ir k (a1,(a0.take ((if(IntKind.i64.wrap (a1+(6:Int)))<(a0.length:Int)then(IntKind.i64.wrap (a1+(6:Int)))else(a0.length:Int)).toNat)).drop a1.toNat,(((a0.take ((if(IntKind.i64.wrap (a1+(6:Int)))<(a0.length:Int)then(IntKind.i64.wrap (a1+(6:Int)))else(a0.length:Int)).toNat)).drop a1.toNat).length:Int)) u9 n9 (λy7=>some ((0:Int),(-1:Int))) (λy8=>some (y8.1,y8.2))) k ((0:Int),(0:Int))) none) none)
def aC (k:Nat) (a0:Reader):Option (Int× Int× Bool):=
 cond (a0.bad) (cond (decide (a0.b=a0.b)) (some ((0:Int),a0.at_,a0.bad)) none) ((qj k a0.b a0.at_).bind λr1=>cond (decide (r1.2<(0:Int))) (cond (decide (a0.b=a0.b)) (some ((0:Int),a0.at_,true)) none) (cond (decide (a0.b=a0.b)) (some (r1.1,r1.2,a0.bad)) none))
def de (k:Nat) (a0:Reader) (a1:Int):Option (Int× Int× Bool):=
 (aC k a0).bind λr1=>(qT k r1.1 (0:Int) a1).bind λr2=>cond (!r2) (cond (decide (a0.b=a0.b)) (some ((0:Int),r1.2.1,true)) none) (cond (decide (a0.b=a0.b)) (some (r1.1,r1.2.1,r1.2.2)) none)
def dY (k:Nat) (a0:Reader):Option (Shape× Int× Bool):=
 (aC k a0).bind λr1=>(aC k (⟨a0.b,r1.2.1,r1.2.2⟩:Reader)).bind λr2=>(aC k (⟨a0.b,r2.2.1,r2.2.2⟩:Reader)).bind λr3=>cond (decide (a0.b=a0.b)) (some ((⟨r1.1,r2.1,r3.1⟩:Shape),r3.2.1,r3.2.2)) none
def bT {ρ:Type} (k:Nat) (p:List Int) (v:Int× Int× Bool× List Int) (next:(Int× Int× Bool× List Int)->Option ρ) (x0:(List Int× Int× Bool)->Option ρ):Option ρ:=
 cond (decide (v.1>(0:Int))) (cond (!v.2.2.1) ((aC k (⟨p,v.2.1,v.2.2.1⟩:Reader)).bind λr2=>cond (Nat.ble (v.2.2.2.length+[r2.1].length) aU) (next (IntKind.i64.wrap (v.1-(1:Int)),r2.2.1,r2.2.2,v.2.2.2++[r2.1])) none) (x0 (v.2.2.2,v.2.1,v.2.2.1))) (x0 (v.2.2.2,v.2.1,v.2.2.1))
def dr (k:Nat) (a0:Reader) (a1:Int):Option (List Int× Int× Bool):=
 (de k a0 a1).bind λr1=>iter (λu4 n4=>bT k a0.b u4 n4 (λy3=>cond (decide (a0.b=a0.b)) (some (y3.1,y3.2.1,y3.2.2)) none)) k (r1.1,r1.2.1,r1.2.2,([]:List Int))
def na {ρ:Type} (k:Nat) (p:List Int) (v:Int× Int) (next:(Int× Int)->Option ρ) (x0:Int->Option ρ):Option ρ:=
 cond (decide (v.2<(p.length:Int))) ((idx p v.2).bind λe1=>next ((IntKind.i64.wrap ((IntKind.i64.wrap ((IntKind.i64.wrap ((257:Int)*v.1))+(IntKind.i64.wrap (e1))))+(1:Int))).tmod (1000003:Int),IntKind.i64.wrap (v.2+(1:Int)))) (x0 v.1)
def BV (k:Nat) (a0:List Int):Option (Int):=
 iter (λu3 n3=>na k a0 u3 n3 (λy2=>some y2)) k ((1:Int),(0:Int))
def nc {ρ:Type} (k:Nat) (p:List Int× Int) (v:Int× Int) (next:(Int× Int)->Option ρ) (x0:Int->Option ρ):Option ρ:=
 cond (decide (v.2<p.2)) ((idx p.1 v.2).bind λe1=>next ((IntKind.i64.wrap ((IntKind.i64.wrap ((IntKind.i64.wrap (v.1*(257:Int)))+(IntKind.i64.wrap (e1))))+(1:Int))).tmod (1000003:Int),IntKind.i64.wrap (v.2+(1:Int)))) (x0 v.1)
def xz (k:Nat) (a0:List Int):Option (Int):=
 iter (λu3 n3=>nc k (a0,(a0.length:Int)) u3 n3 (λy2=>some y2)) k ((1:Int),(0:Int))
def iu (k:Nat) (a0:List Int) (a1:List Int):Option (Bool):=
 cond (decide ((a0.length:Int)>=(a1.length:Int))) (cond (decide (0<=(a1.length:Int)/\(a1.length:Int)<=(a0.length:Int))) ((nO k ((a0.take ((a1.length:Int).toNat)).drop 0) a1).bind λr1=>some r1) none) (some false)
end
end
set_option maxRecDepth 100000
section
noncomputable section
def jL {ρ:Type} (k:Nat) (p:Int× Int× Int× List Task× Int× Int× Int× Int× Int× Int× Int× Int× Int× Int× Int× Int× Int× Int× Int× Int× Int× Int) (v:Int× List Task) (next:(Int× List Task)->Option ρ) (x0:(List Task)->Option ρ):Option ρ:=
 cond (decide (v.1<(p.2.2.2.1.length:Int))) ((idx p.2.2.2.1 v.1).bind λe1=>(jB k e1.aq).bind λr2=>cond (Nat.ble (v.2.length+1) aU) (next (IntKind.i64.wrap (v.1+(1:Int)),v.2++[(⟨e1.id,r2,e1.at_,e1.due,e1.born⟩:Task)])) none) (x0 v.2)
def ln (k:Nat) (a0:aj):Option (aj):=
 iter (λu4 n4=>jL k (a0.now,a0.ag,a0.age,a0.tasks,a0.run,a0.left,a0.turns,a0.next,(0:Int),(0:Int),(0:Int),(0:Int),(0:Int),(0:Int),(0:Int),a0.now,a0.ag,a0.age,a0.run,a0.left,a0.turns,a0.next) u4 n4 (λy3=>some (⟨a0.now,a0.ag,a0.age,y3,a0.run,a0.left,a0.turns,a0.next⟩:aj))) k ((0:Int),([]:List Task))
def jM (k:Nat) (a0:Int):Option (Bool):=
 (b9 k a0 (0:Int) (1000000:Int)).bind λr1=>some r1
def nU {ρ:Type} (k:Nat) (p:Int× List Int× Int× Int× Int) (v:Int) (next:Int->Option ρ) (x0:Unit->Option ρ) (xret:Bool->Option ρ):Option ρ:=
 cond (decide (v<(p.2.1.length:Int))) ((idx p.2.1 v).bind λe6=>(b9 k e6 (1:Int) (1000:Int)).bind λr7=>cond (!r7) (xret false) (next (IntKind.i64.wrap (v+(1:Int))))) (x0 ())
def sV (k:Nat) (a0:Task):Option (Bool):=
 (b9 k a0.id (1:Int) (1000000:Int)).bind λr1=>cond (!r1) (some false) ((b9 k (a0.aq.length:Int) (1:Int) (6:Int)).bind λr2=>cond (!r2) (some false) ((b9 k a0.at_ (0:Int) (IntKind.i64.wrap ((a0.aq.length:Int)-(1:Int)))).bind λr3=>cond (!r3) (some false) ((jM k a0.due).bind λr4=>cond (!r4) (some false) ((jM k a0.born).bind λr5=>cond (!r5) (some false) (iter (λu10 n10=>nU k (a0.id,a0.aq,a0.at_,a0.due,a0.born) u10 n10 (λy8=>some true) (λy9=>some y9)) k (0:Int))))))
def qk {ρ:Type} (k:Nat) (p:Int× Int× Int× Int× List Task× Int× Int× Int× Int) (v:Int) (next:Int->Option ρ) (x0:Unit->Option ρ) (xret:Int->Option ρ):Option ρ:=
 cond (decide (v<(p.2.2.2.2.1.length:Int))) ((idx p.2.2.2.2.1 v).bind λe1=>cond (e1.id==p.1) (xret v) (next (IntKind.i64.wrap (v+(1:Int))))) (x0 ())
def ka (k:Nat) (a0:aj) (a1:Int):Option (Int):=
 iter (λu4 n4=>qk k (a1,a0.now,a0.ag,a0.age,a0.tasks,a0.run,a0.left,a0.turns,a0.next) u4 n4 (λy2=>some (-1:Int)) (λy3=>some y3)) k (0:Int)
def l8 {ρ:Type} (k:Nat) (p:Int× Int× Int× List Task× Int× Int× Int× Int) (v:Int) (next:Int->Option ρ) (x0:Unit->Option ρ) (xret:Bool->Option ρ):Option ρ:=
 cond (decide (v<(p.2.2.2.1.length:Int))) ((idx p.2.2.2.1 v).bind λe6=>(sV k e6).bind λr7=>cond (!r7) (xret false) (cond (decide (e6.id>=p.2.2.2.2.2.2.2)) (xret false) (cond (decide (e6.born>p.1)) (xret false) (cond (decide (v>(0:Int))) ((idx p.2.2.2.1 (IntKind.i64.wrap (v-(1:Int)))).bind λe8=>cond (decide (e8.id>=e6.id)) (xret false) (next (IntKind.i64.wrap (v+(1:Int))))) (next (IntKind.i64.wrap (v+(1:Int)))))))) (x0 ())
def eT (k:Nat) (a0:aj):Option (Bool):=
 (jM k a0.now).bind λr1=>cond (!r1) (some false) ((b9 k a0.ag (0:Int) (1000:Int)).bind λr2=>cond (!r2) (some false) ((b9 k a0.age (0:Int) (20:Int)).bind λr3=>cond (!r3) (some false) (cond (decide ((a0.tasks.length:Int)>(12:Int))) (some false) ((jM k a0.turns).bind λr4=>cond (!r4) (some false) ((b9 k a0.next (1:Int) (1000000:Int)).bind λr5=>cond (!r5) (some false) (iter (λu16 n16=>l8 k (a0.now,a0.ag,a0.age,a0.tasks,a0.run,a0.left,a0.turns,a0.next) u16 n16 (λy9=>cond (a0.run==(0:Int)) (some (a0.left==(0:Int))) ((ka k a0 a0.run).bind λr10=>cond (decide (r10>=(0:Int))) ((idx a0.tasks r10).bind λe11=>(idx a0.tasks r10).bind λe12=>(idx e11.aq e12.at_).bind λe13=>(b9 k a0.left (1:Int) e13).bind λr14=>some r14) (some false))) (λy15=>some y15)) k (0:Int)))))))
def lq {ρ:Type} (k:Nat) (p:Int× Int× Int× List Task× Int× Int× Int× Int) (v:Int× List Int) (next:(Int× List Int)->Option ρ) (x0:(List Int)->Option ρ):Option ρ:=
 cond (decide (v.1<(p.2.2.2.1.length:Int))) ((idx p.2.2.2.1 v.1).bind λe2=>cond (decide (e2.due<=p.1)) ((idx p.2.2.2.1 v.1).bind λe3=>cond (Nat.ble (v.2.length+[e3.id].length) aU) (next (IntKind.i64.wrap (v.1+(1:Int)),v.2++[e3.id])) none) (next (IntKind.i64.wrap (v.1+(1:Int)),v.2))) (x0 v.2)
def vZ (k:Nat) (a0:aj):Option (List Int):=
 (eT k a0).bind λr1=>cond (!r1) (some ([]:List Int)) (iter (λu5 n5=>lq k (a0.now,a0.ag,a0.age,a0.tasks,a0.run,a0.left,a0.turns,a0.next) u5 n5 (λy4=>some y4)) k ((0:Int),([]:List Int)))
def iv {ρ:Type} (k:Nat) (p:Int× Int× Int× Int× List Task× Int× Int× Int× Int× Int× List Int× Int× Int× Int) (v:Int× Int) (next:(Int× Int)->Option ρ) (x0:Int->Option ρ):Option ρ:=
 cond (decide (v.2<(p.2.2.2.2.2.2.2.2.2.2.1.length:Int))) ((idx p.2.2.2.2.2.2.2.2.2.2.1 v.2).bind λe4=>next (IntKind.i64.wrap (v.1+e4),IntKind.i64.wrap (v.2+(1:Int)))) (x0 v.1)
def ql (k:Nat) (a0:aj) (a1:Int):Option (Int):=
 (ka k a0 a1).bind λr1=>(eT k a0).bind λr2=>cond (!r2) (some (-1:Int)) (cond (decide (r1<(0:Int))) (some (-1:Int)) ((idx a0.tasks r1).bind λe3=>iter (λu7 n7=>iv k (a1,a0.now,a0.ag,a0.age,a0.tasks,a0.run,a0.left,a0.turns,a0.next,e3.id,e3.aq,e3.at_,e3.due,e3.born) u7 n7 (λy5=>cond (a0.run==a1) ((idx e3.aq e3.at_).bind λe6=>some (IntKind.i64.wrap ((IntKind.i64.wrap (y5-e6))+a0.left))) (some y5))) k ((0:Int),e3.at_)))
def iw {ρ:Type} (k:Nat) (p:Int× Int× Int× Int× List Task× Int× Int× Int× Int) (v:Int× Int) (next:(Int× Int)->Option ρ) (x0:Int->Option ρ):Option ρ:=
 cond (decide (v.2<(p.2.2.2.2.1.length:Int))) ((idx p.2.2.2.2.1 v.2).bind λe2=>cond (decide (e2.due<=p.1)) ((idx p.2.2.2.2.1 v.2).bind λe3=>(ql k (⟨p.2.1,p.2.2.1,p.2.2.2.1,p.2.2.2.2.1,p.2.2.2.2.2.1,p.2.2.2.2.2.2.1,p.2.2.2.2.2.2.2.1,p.2.2.2.2.2.2.2.2⟩:aj) e3.id).bind λr4=>next (IntKind.i64.wrap (v.1+r4),IntKind.i64.wrap (v.2+(1:Int)))) (next (v.1,IntKind.i64.wrap (v.2+(1:Int))))) (x0 v.1)
def qm (k:Nat) (a0:aj) (a1:Int):Option (Int):=
 (eT k a0).bind λr1=>cond (!r1) (some (-1:Int)) (iter (λu6 n6=>iw k (a1,a0.now,a0.ag,a0.age,a0.tasks,a0.run,a0.left,a0.turns,a0.next) u6 n6 (λy5=>some y5)) k ((0:Int),(0:Int)))
def sW (k:Nat) (a0:aj) (a1:Int):Option (Int):=
 (eT k a0).bind λr1=>cond (!r1) (some (-1:Int)) ((ka k a0 a0.run).bind λr2=>cond (decide (r2>=(0:Int))) ((idx a0.tasks r2).bind λe3=>cond (decide (e3.due>a1)) (some a0.left) (some (0:Int))) (some (0:Int)))
def nV {ρ:Type} (k:Nat) (p:Int× Int× Int× List Task× Int× Int× Int× Int) (v:Int) (next:Int->Option ρ) (x0:Unit->Option ρ) (xret:Bool->Option ρ):Option ρ:=
 cond (decide (v<(p.2.2.2.1.length:Int))) ((idx p.2.2.2.1 v).bind λe3=>(qm k (⟨p.1,p.2.1,p.2.2.1,p.2.2.2.1,p.2.2.2.2.1,p.2.2.2.2.2.1,p.2.2.2.2.2.2.1,p.2.2.2.2.2.2.2⟩:aj) e3.due).bind λr4=>(sW k (⟨p.1,p.2.1,p.2.2.1,p.2.2.2.1,p.2.2.2.2.1,p.2.2.2.2.2.1,p.2.2.2.2.2.2.1,p.2.2.2.2.2.2.2⟩:aj) e3.due).bind λr5=>cond (decide ((IntKind.i64.wrap ((IntKind.i64.wrap (r4+r5))+p.2.1))>(IntKind.i64.wrap (e3.due-p.1)))) (xret false) (next (IntKind.i64.wrap (v+(1:Int))))) (x0 ())
def v3 (k:Nat) (a0:aj):Option (Bool):=
 (eT k a0).bind λr1=>cond (!r1) (some false) ((vZ k a0).bind λr2=>cond (decide ((r2.length:Int)>(0:Int))) (some false) (iter (λu8 n8=>nV k (a0.now,a0.ag,a0.age,a0.tasks,a0.run,a0.left,a0.turns,a0.next) u8 n8 (λy6=>some true) (λy7=>some y7)) k (0:Int)))
def BW (k:Nat) (a0:aj) (a1:List Int) (a2:Int):Option (aj× Int× Int):=
 (ln k a0).bind λr1=>(jB k a1).bind λr2=>(eT k a0).bind λr3=>cond (!r3) (some (r1,(0:Int),(1:Int))) ((sV k (⟨a0.next,r2,(0:Int),a2,a0.now⟩:Task)).bind λr4=>cond (!r4) (some (r1,(0:Int),(1:Int))) (cond ((a0.tasks.length:Int)==(12:Int)) (some (r1,(0:Int),(2:Int))) (cond (a0.next==(1000000:Int)) (some (r1,(0:Int),(2:Int))) (cond (Nat.ble (r1.tasks.length+1) aU) ((v3 k (⟨r1.now,r1.ag,r1.age,(r1.tasks++[(⟨a0.next,r2,(0:Int),a2,a0.now⟩:Task)]),r1.run,r1.left,r1.turns,(IntKind.i64.wrap (a0.next+(1:Int)))⟩:aj)).bind λr5=>cond (!r5) ((ln k a0).bind λr6=>some (r6,(0:Int),(3:Int))) (some ((⟨r1.now,r1.ag,r1.age,(r1.tasks++[(⟨a0.next,r2,(0:Int),a2,a0.now⟩:Task)]),r1.run,r1.left,r1.turns,(IntKind.i64.wrap (a0.next+(1:Int)))⟩:aj),a0.next,(0:Int)))) none))))
def eU {ρ:Type} (k:Nat) (p:List Task× Int× Int× Int× Int× Int× Int× Int× Int× Int× Int× Int× Int× Int× Int× Int) (v:Int× List Task) (next:(Int× List Task)->Option ρ) (x0:(List Task)->Option ρ):Option ρ:=
 cond (decide (v.1<p.2.1)) ((idx p.1 v.1).bind λe1=>(bR k e1.aq).bind λr2=>cond (Nat.ble (v.2.length+1) aU) (next (IntKind.i64.wrap (v.1+(1:Int)),v.2++[(⟨e1.id,r2,e1.at_,e1.due,e1.born⟩:Task)])) none) (x0 v.2)
def fA (k:Nat) (a0:aj):Option (aj):=
 iter (λu4 n4=>eU k (a0.tasks,(a0.tasks.length:Int),a0.now,a0.ag,a0.age,a0.run,a0.left,a0.turns,a0.next,(0:Int),(0:Int),(0:Int),(0:Int),(0:Int),(0:Int),(0:Int)) u4 n4 (λy3=>some (⟨a0.now,a0.ag,a0.age,y3,a0.run,a0.left,a0.turns,a0.next⟩:aj))) k ((0:Int),([]:List Task))
def l9 (k:Nat) (a0:Int):Option (Bool):=
 (qT k a0 (0:Int) (1000000:Int)).bind λr1=>some r1
def rA (k:Nat) (a0:Int):Option (Bool):=
 (qT k a0 (1:Int) (1000:Int)).bind λr1=>some (!r1)
def aL {ρ:Type} (k:Nat) (p:List Int× Int) (v:Int) (next:Int->Option ρ) (x0:Unit->Option ρ) (xret:Int->Option ρ):Option ρ:=
 cond (decide (v<p.2)) ((idx p.1 v).bind λe1=>(rA k e1).bind λr2=>cond (r2) (xret v) (next (IntKind.i64.wrap (v+(1:Int))))) (x0 ())
def bG (k:Nat) (a0:List Int):Option (Int):=
 iter (λu5 n5=>aL k (a0,(a0.length:Int)) u5 n5 (λy3=>some (-1:Int)) (λy4=>some y4)) k (0:Int)
def bn (k:Nat) (a0:List Int):Option (Bool):=
 (bG k a0).bind λr1=>some (decide (r1>=(0:Int)))
def sX (k:Nat) (a0:Task):Option (Bool):=
 (qT k a0.id (1:Int) (1000000:Int)).bind λr1=>cond (r1) ((qT k (a0.aq.length:Int) (1:Int) (6:Int)).bind λr2=>cond (r2) ((bn k a0.aq).bind λr3=>cond (!r3) ((qT k a0.at_ (0:Int) (IntKind.i64.wrap ((a0.aq.length:Int)-(1:Int)))).bind λr4=>cond (r4) ((l9 k a0.due).bind λr5=>cond (r5) ((l9 k a0.born).bind λr6=>some r6) (some false)) (some false)) (some false)) (some false)) (some false)
def fi {ρ:Type} (k:Nat) (p:List Task× Int× Int× Int× Int× List Task× Int× Int× Int× Int) (v:Int) (next:Int->Option ρ) (x0:Unit->Option ρ) (xret:Bool->Option ρ):Option ρ:=
 cond (decide (v<p.2.1)) ((idx p.1 v).bind λe1=>(sX k e1).bind λr2=>cond (!r2) (xret false) (cond (decide (e1.id>=p.2.2.2.2.2.2.2.2.2)) (xret false) (cond (decide (e1.born>p.2.2.1)) (xret false) (cond (decide (v>(0:Int))) ((idx p.2.2.2.2.2.1 (IntKind.i64.wrap (v-(1:Int)))).bind λe3=>cond (decide (e3.id>=e1.id)) (xret false) (next (IntKind.i64.wrap (v+(1:Int))))) (next (IntKind.i64.wrap (v+(1:Int)))))))) (x0 ())
def gD (k:Nat) (a0:aj):Option (Bool):=
 iter (λu6 n6=>fi k (a0.tasks,(a0.tasks.length:Int),a0.now,a0.ag,a0.age,a0.tasks,a0.run,a0.left,a0.turns,a0.next) u6 n6 (λy4=>some (decide ((a0.tasks.length:Int)<=(12:Int)))) (λy5=>some y5)) k (0:Int)
def iY (k:Nat) (a0:Task) (a1_0:Int):Option (Bool):=
 cond (decide (a1_0=a1_0)) (some (a0.id==a1_0)) none
def bQ {ρ:Type} (k:Nat) (p:List Task× Int× Int) (v:Int) (next:Int->Option ρ) (x0:Unit->Option ρ) (xret:Int->Option ρ):Option ρ:=
 cond (decide (v<p.2.1)) ((idx p.1 v).bind λe1=>(iY k e1 p.2.2).bind λr2=>cond (r2) (xret v) (next (IntKind.i64.wrap (v+(1:Int))))) (x0 ())
def cS (k:Nat) (a0:List Task) (a1c0_0:Int):Option (Int):=
 iter (λu5 n5=>bQ k (a0,(a0.length:Int),a1c0_0) u5 n5 (λy3=>cond (decide (a1c0_0=a1c0_0)) (some (-1:Int)) none) (λy4=>cond (decide (a1c0_0=a1c0_0)) (some y4) none)) k (0:Int)
def cW (k:Nat) (a0:aj) (a1:Int):Option (Int):=
 (cS k a0.tasks a1).bind λr1=>some r1
def lr (k:Nat) (a0:aj):Option (Bool):=
 (l9 k a0.now).bind λr1=>cond (!r1) (some false) ((qT k a0.ag (0:Int) (1000:Int)).bind λr2=>cond (!r2) (some false) ((qT k a0.age (0:Int) (20:Int)).bind λr3=>cond (!r3) (some false) ((l9 k a0.turns).bind λr4=>cond (!r4) (some false) ((qT k a0.next (1:Int) (1000000:Int)).bind λr5=>cond (!r5) (some false) ((gD k a0).bind λr6=>cond (!r6) (some false) ((cW k a0 a0.run).bind λr7=>cond (a0.run==(0:Int)) (cond (a0.run==(0:Int)) (some (a0.left==(0:Int))) (some false)) (cond (decide (r7<(0:Int))) (cond (a0.run==(0:Int)) (some (a0.left==(0:Int))) (some false)) ((idx a0.tasks r7).bind λe8=>(idx a0.tasks r7).bind λe9=>(idx e8.aq e9.at_).bind λe10=>(qT k a0.left (1:Int) e10).bind λr11=>some r11))))))))
def cO (k:Nat) (a0:aj) (a1:Task):Option (Bool):=
 some (decide (a1.due<=a0.now))
def jl (k:Nat) (a0:aj) (a1:Task):Option (Int):=
 cond (decide (0<=a1.at_/\a1.at_<=(a1.aq.length:Int))) ((KM k ((a1.aq.take a1.aq.length).drop a1.at_.toNat)).bind λr1=>cond (a0.run==a1.id) ((idx a1.aq a1.at_).bind λe2=>some (IntKind.i64.wrap (r1+(IntKind.i64.wrap (a0.left-e2))))) (some r1)) none
def eV {ρ:Type} (k:Nat) (p:Int× List Task× Int× Int× Int× Int× List Task× Int× Int× Int× Int) (v:Int× Int) (next:(Int× Int)->Option ρ) (x0:Int->Option ρ):Option ρ:=
 cond (decide (v.2<p.2.2.1)) ((idx p.2.1 v.2).bind λe1=>cond (decide (e1.due<=p.1)) ((jl k (⟨p.2.2.2.1,p.2.2.2.2.1,p.2.2.2.2.2.1,p.2.2.2.2.2.2.1,p.2.2.2.2.2.2.2.1,p.2.2.2.2.2.2.2.2.1,p.2.2.2.2.2.2.2.2.2.1,p.2.2.2.2.2.2.2.2.2.2⟩:aj) e1).bind λr2=>next (IntKind.i64.wrap (v.1+r2),IntKind.i64.wrap (v.2+(1:Int)))) (next (v.1,IntKind.i64.wrap (v.2+(1:Int))))) (x0 v.1)
def jm (k:Nat) (a0:aj) (a1:Int):Option (Int):=
 iter (λu4 n4=>eV k (a1,a0.tasks,(a0.tasks.length:Int),a0.now,a0.ag,a0.age,a0.tasks,a0.run,a0.left,a0.turns,a0.next) u4 n4 (λy3=>some y3)) k ((0:Int),(0:Int))
def ku (k:Nat) (a0:aj) (a1:Int):Option (Int):=
 (cW k a0 a0.run).bind λr1=>cond (decide (r1>=(0:Int))) ((idx a0.tasks r1).bind λe2=>cond (decide (e2.due>a1)) (some a0.left) (some (0:Int))) (some (0:Int))
def kv (k:Nat) (a0:Task) (a1:aj):Option (Bool):=
 (cO k a1 a0).bind λr1=>cond (r1) (cond (decide (a1.now=a1.now)) (cond (decide (a1.ag=a1.ag)) (cond (decide (a1.age=a1.age)) (cond (decide (a1.tasks=a1.tasks)) (cond (decide (a1.run=a1.run)) (cond (decide (a1.left=a1.left)) (cond (decide (a1.turns=a1.turns)) (cond (decide (a1.next=a1.next)) (some true) none) none) none) none) none) none) none) none) ((jm k a1 a0.due).bind λr2=>(ku k a1 a0.due).bind λr3=>cond (decide (a1.now=a1.now)) (cond (decide (a1.ag=a1.ag)) (cond (decide (a1.age=a1.age)) (cond (decide (a1.tasks=a1.tasks)) (cond (decide (a1.run=a1.run)) (cond (decide (a1.left=a1.left)) (cond (decide (a1.turns=a1.turns)) (cond (decide (a1.next=a1.next)) (some (decide ((IntKind.i64.wrap ((IntKind.i64.wrap (r2+r3))+a1.ag))>(IntKind.i64.wrap (a0.due-a1.now))))) none) none) none) none) none) none) none) none)
def bJ {ρ:Type} (k:Nat) (p:List Task× Int× Int× Int× Int× List Task× Int× Int× Int× Int) (v:Int) (next:Int->Option ρ) (x0:Unit->Option ρ) (xret:Int->Option ρ):Option ρ:=
 cond (decide (v<p.2.1)) ((idx p.1 v).bind λe1=>(kv k e1 (⟨p.2.2.1,p.2.2.2.1,p.2.2.2.2.1,p.2.2.2.2.2.1,p.2.2.2.2.2.2.1,p.2.2.2.2.2.2.2.1,p.2.2.2.2.2.2.2.2.1,p.2.2.2.2.2.2.2.2.2⟩:aj)).bind λr2=>cond (r2) (xret v) (next (IntKind.i64.wrap (v+(1:Int))))) (x0 ())
def cL (k:Nat) (a0:List Task) (a1c0:aj):Option (Int):=
 iter (λu5 n5=>bJ k (a0,(a0.length:Int),a1c0.now,a1c0.ag,a1c0.age,a1c0.tasks,a1c0.run,a1c0.left,a1c0.turns,a1c0.next) u5 n5 (λy3=>cond (decide (a1c0.now=a1c0.now)) (cond (decide (a1c0.ag=a1c0.ag)) (cond (decide (a1c0.age=a1c0.age)) (cond (decide (a1c0.tasks=a1c0.tasks)) (cond (decide (a1c0.run=a1c0.run)) (cond (decide (a1c0.left=a1c0.left)) (cond (decide (a1c0.turns=a1c0.turns)) (cond (decide (a1c0.next=a1c0.next)) (some (-1:Int)) none) none) none) none) none) none) none) none) (λy4=>cond (decide (a1c0.now=a1c0.now)) (cond (decide (a1c0.ag=a1c0.ag)) (cond (decide (a1c0.age=a1c0.age)) (cond (decide (a1c0.tasks=a1c0.tasks)) (cond (decide (a1c0.run=a1c0.run)) (cond (decide (a1c0.left=a1c0.left)) (cond (decide (a1c0.turns=a1c0.turns)) (cond (decide (a1c0.next=a1c0.next)) (some y4) none) none) none) none) none) none) none) none)) k (0:Int)
def cw (k:Nat) (a0:List Task) (a1c0:aj):Option (Bool):=
 (cL k a0 a1c0).bind λr1=>cond (decide (a1c0.now=a1c0.now)) (cond (decide (a1c0.ag=a1c0.ag)) (cond (decide (a1c0.age=a1c0.age)) (cond (decide (a1c0.tasks=a1c0.tasks)) (cond (decide (a1c0.run=a1c0.run)) (cond (decide (a1c0.left=a1c0.left)) (cond (decide (a1c0.turns=a1c0.turns)) (cond (decide (a1c0.next=a1c0.next)) (some (decide (r1>=(0:Int)))) none) none) none) none) none) none) none) none
def v5 (k:Nat) (a0:aj):Option (Bool):=
 (lr k a0).bind λr1=>cond (r1) ((cw k a0.tasks a0).bind λr2=>some (!r2)) (some false)
def BX (k:Nat) (a0:aj) (a1:List Int) (a2:Int):Option (aj× Int× Int):=
 (bR k a1).bind λr1=>(fA k a0).bind λr2=>(lr k a0).bind λr3=>cond (!r3) (some (r2,(0:Int),(1:Int))) ((sX k (⟨a0.next,r1,(0:Int),a2,a0.now⟩:Task)).bind λr4=>cond (!r4) (some (r2,(0:Int),(1:Int))) (cond ((a0.tasks.length:Int)==(12:Int)) (some (r2,(0:Int),(2:Int))) (cond (a0.next==(1000000:Int)) (some (r2,(0:Int),(2:Int))) ((fA k a0).bind λr5=>cond (Nat.ble (r5.tasks.length+1) aU) ((v5 k (⟨r5.now,r5.ag,r5.age,(r5.tasks++[(⟨a0.next,r1,(0:Int),a2,a0.now⟩:Task)]),r5.run,r5.left,r5.turns,(IntKind.i64.wrap (r5.next+(1:Int)))⟩:aj)).bind λr6=>cond (!r6) (some (r2,(0:Int),(3:Int))) (some ((⟨r5.now,r5.ag,r5.age,(r5.tasks++[(⟨a0.next,r1,(0:Int),a2,a0.now⟩:Task)]),r5.run,r5.left,r5.turns,(IntKind.i64.wrap (r5.next+(1:Int)))⟩:aj),a0.next,(0:Int)))) none))))
end
end
set_option maxRecDepth 100000
section
noncomputable section
def ez {ρ:Type} (k:Nat) (p:Int× Int× Int× Int× Int× Int× Int× Int× List bX) (v:Int× List bX) (next:(Int× List bX)->Option ρ) (x0:(List bX)->Option ρ):Option ρ:=
 cond (decide (v.1<(p.2.2.2.2.2.2.2.2.length:Int))) (cond (decide (0<=v.1/\v.1<(p.2.2.2.2.2.2.2.2.length:Int))) ((p.2.2.2.2.2.2.2.2[v.1.toNat]?).bind λe1=>cond (e1.id !=p.1) (cond (decide (0<=v.1/\v.1<(p.2.2.2.2.2.2.2.2.length:Int))) ((p.2.2.2.2.2.2.2.2[v.1.toNat]?).bind λe2=>cond (Nat.ble (v.2.length+[e2].length) aU) (next (IntKind.i64.wrap (v.1+(1:Int)),v.2++[e2])) none) none) (next (IntKind.i64.wrap (v.1+(1:Int)),v.2))) none) (x0 v.2)
def fj (k:Nat) (a0_0:Int) (a0_1:Int) (a0_2:Int) (a0_3:List bX) (a0_4:Int) (a0_5:Int) (a0_6:Int) (a0_7:Int) (a1:Int):Option (List bX):=
 iter (λu4 n4=>ez k (a1,a0_0,a0_1,a0_2,a0_4,a0_5,a0_6,a0_7,a0_3) u4 n4 (λy3=>cond (decide (a0_0=a0_0)) (cond (decide (a0_1=a0_1)) (cond (decide (a0_2=a0_2)) (cond (decide (a0_4=a0_4)) (cond (decide (a0_5=a0_5)) (cond (decide (a0_6=a0_6)) (cond (decide (a0_7=a0_7)) (some y3) none) none) none) none) none) none) none)) k ((0:Int),([]:List bX))
def jN (k:Nat) (a0:aj) (a1:Int):Option (aj× Bool):=
 (ln k a0).bind λr1=>(eT k a0).bind λr2=>cond (!r2) (some (r1,false)) ((ka k a0 a1).bind λr3=>cond (decide (r3<(0:Int))) (some (r1,false)) ((j9 r1.tasks).bind λy4=>(fj k r1.now r1.ag r1.age y4 r1.run r1.left r1.turns r1.next a1).bind λr5=>cond (iW r5) ((oz r1.tasks r5).bind λz6=>cond (r1.run==a1) (some ((⟨r1.now,r1.ag,r1.age,z6,(0:Int),(0:Int),r1.turns,r1.next⟩:aj),true)) (some ((⟨r1.now,r1.ag,r1.age,z6,r1.run,r1.left,r1.turns,r1.next⟩:aj),true))) none))
def dH (k:Nat) (a0:bX) (a1_0:Int):Option (Bool):=
 cond (decide (a1_0=a1_0)) (some (a0.id==a1_0)) none
def bK {ρ:Type} (k:Nat) (p:List bX× Int× Int) (v:Int) (next:Int->Option ρ) (x0:Unit->Option ρ) (xret:Int->Option ρ):Option ρ:=
 cond (decide (v<p.2.1)) ((idx p.1 v).bind λe1=>(dH k e1 p.2.2).bind λr2=>cond (r2) (xret v) (next (IntKind.i64.wrap (v+(1:Int))))) (x0 ())
def bZ (k:Nat) (a0:List bX) (a1c0_0:Int):Option (Int):=
 iter (λu5 n5=>bK k (a0,(a0.length:Int),a1c0_0) u5 n5 (λy3=>cond (decide (a1c0_0=a1c0_0)) (some (-1:Int)) none) (λy4=>cond (decide (a1c0_0=a1c0_0)) (some y4) none)) k (0:Int)
def aX {ρ:Type} (k:Nat) (p:Int) (v:Int× Int× List bX) (next:(Int× Int× List bX)->Option ρ) (x0:(Int× List bX)->Option ρ):Option ρ:=
 cond (decide (v.2.1<(v.2.2.length:Int))) (cond (decide (0<=v.2.1/\v.2.1<(v.2.2.length:Int))) ((v.2.2[v.2.1.toNat]?).bind λe2=>(dH k e2 p).bind λr3=>cond (!r3) (cond (decide (0<=v.1/\v.1<(v.2.2.length:Int))) (next (IntKind.i64.wrap (v.1+(1:Int)),IntKind.i64.wrap (v.2.1+(1:Int)),v.2.2.set v.1.toNat e2)) none) (next (v.1,IntKind.i64.wrap (v.2.1+(1:Int)),v.2.2))) none) (x0 (v.1,v.2.2))
def bg (k:Nat) (a0:List bX) (a1c0_0:Int):Option (List bX):=
 (bZ k a0 a1c0_0).bind λr1=>cond (r1==(-1:Int)) (cond (decide (a1c0_0=a1c0_0)) (some a0) none) (iter (λu5 n5=>aX k a1c0_0 u5 n5 (λy4=>cond (decide (0<=y4.1/\y4.1<=(y4.2.length:Int))) (cond (decide (0<=y4.1/\y4.1<=(((y4.2).take y4.1.toNat++List.replicate (y4.2.length-y4.1.toNat) (⟨(0:Int),(0:Nat),(0:Int),(0:Int),(0:Int)⟩:bX)++(y4.2).drop (y4.1.toNat+(y4.2.length-y4.1.toNat))).length:Int))) (cond (decide (a1c0_0=a1c0_0)) (some (((y4.2).take y4.1.toNat++List.replicate (y4.2.length-y4.1.toNat) (⟨(0:Int),(0:Nat),(0:Int),(0:Int),(0:Int)⟩:bX)++(y4.2).drop (y4.1.toNat+(y4.2.length-y4.1.toNat))).take (y4.1.toNat-0))) none) none) none)) k (r1,IntKind.i64.wrap (r1+(1:Int)),a0))
def di (k:Nat) (a0_0:Int) (a0_1:Int) (a0_2:Int) (a0_3:List bX) (a0_4:Int) (a0_5:Int) (a0_6:Int) (a0_7:Int) (a1:Int):Option (List bX× Int× Int):=
 (bg k a0_3 a1).bind λr1=>cond (a0_4==a1) (cond (decide (a0_0=a0_0)) (cond (decide (a0_1=a0_1)) (cond (decide (a0_2=a0_2)) (cond (decide (a0_6=a0_6)) (cond (decide (a0_7=a0_7)) (some (r1,(0:Int),(0:Int))) none) none) none) none) none) (cond (decide (a0_0=a0_0)) (cond (decide (a0_1=a0_1)) (cond (decide (a0_2=a0_2)) (cond (decide (a0_6=a0_6)) (cond (decide (a0_7=a0_7)) (some (r1,a0_4,a0_5)) none) none) none) none) none)
end
end
end Go.Proofs.Ev
