/- Text of this claim. -/
import Derived.Test.YtkjdnpefjebmlaaDoorEvK6
set_option linter.unusedVariables false
set_option linter.unusedSimpArgs false
set_option linter.unusedSectionVars false
set_option maxRecDepth 100000
namespace Go.Proofs.Ev
open IntKind(i64 u8 u64)
noncomputable section
def hY (k:Nat) (a0:List Int) (a1:Int):Option (Int):=
 cond (decide ((i64.wrap (a1-(a0.length:Int)))<0)) (some (-1:Int)) (some (i64.wrap (a1-(a0.length:Int))))
def iQ (k:Nat) (a0:aG) (a1:Int):Option (Int):=
 (hY k a0.data a1).bind λr1=>cond (decide (r1<0)) (some (-1:Int)) (some r1)
def ky (k:Nat) (a0:Shape):Option (Shape):=
 some a0
def eE {ρ:Type} (k:Nat) (p:List Int) (v:Int× List Int) (next:(Int× List Int)->Option ρ) (x0:(List Int)->Option ρ):Option ρ:=
 cond (decide (v.1<(p.length:Int))) ((idx p v.1).bind λe1=>cond (decide (0<=v.1/\v.1<(v.2.length:Int))) (next (i64.wrap (v.1+1),v.2.set v.1.toNat e1)) none) (x0 v.2)
def hZ (k:Nat) (a0:List Int):Option (List Int):=
 cond (decide (0<=(a0.length:Int)/\(a0.length:Int)<=(a0.length:Int)/\(a0.length:Int)<=(bO:Int))) (iter (λu3 n3=>eE k a0 u3 n3 (λy2=>some y2)) k ((0:Int),List.replicate ((a0.length:Int).toNat) (0:Int))) none
def fF (k:Nat) (a0:aG):Option (aG):=
 (ky k a0.sh).bind λr1=>(hZ k a0.data).bind λr2=>some (⟨r1,r2⟩:aG)
def gx (k:Nat) (a0:Int) (a1:Int) (a2:Int):Option (Bool):=
 cond (decide (a1<=a0)) (some (decide (a0<=a2))) (some false)
def fj (k:Nat) (a0:Shape):Option (Bool):=
 (gx k a0.h (1:Int) (8:Int)).bind λr1=>cond (r1) ((gx k a0.w (1:Int) (8:Int)).bind λr2=>cond (r2) ((gx k a0.c (1:Int) (8:Int)).bind λr3=>some r3) (some false)) (some false)
def ju (k:Nat) (a0:Shape):Option (Int):=
 (fj k a0).bind λr1=>cond (!r1) (some (0:Int)) (some (i64.wrap ((i64.wrap (a0.h*a0.w))*a0.c)))
def kz (k:Nat) (a0:Int):Option (Bool):=
 (gx k a0 (-128:Int) (127:Int)).bind λr1=>some r1
def cW {ρ:Type} (k:Nat) (p:Int× Int× Int× List Int) (v:Int) (next:Int->Option ρ) (x0:Unit->Option ρ) (xo:Bool->Option ρ):Option ρ:=
 cond (decide (v<(p.2.2.2.length:Int))) ((idx p.2.2.2 v).bind λe3=>(kz k e3).bind λr4=>cond (!r4) (xo false) (next (i64.wrap (v+1)))) (x0 ())
def da (k:Nat) (a0:aG):Option (Bool):=
 (fj k a0.sh).bind λr1=>cond (!r1) (some false) ((ju k a0.sh).bind λr2=>cond ((a0.data.length:Int) !=r2) (some false) (iter (λu7 n7=>cW k (a0.sh.h,a0.sh.w,a0.sh.c,a0.data) u7 n7 (λy5=>some true) (λy6=>some y6)) k (0:Int)))
def xp (k:Nat) (a0:Int) (a1:Int) (a2:Int):Option (Bool):=
 cond (decide (a1<=a0)) (some (decide (a0<=a2))) (some false)
def fk (k:Nat) (a0:Shape):Option (Bool):=
 (xp k a0.h (1:Int) (8:Int)).bind λr1=>cond (r1) ((xp k a0.w (1:Int) (8:Int)).bind λr2=>cond (r2) ((xp k a0.c (1:Int) (8:Int)).bind λr3=>some r3) (some false)) (some false)
def jv (k:Nat) (a0:Shape):Option (Int):=
 (fk k a0).bind λr1=>cond (!r1) (some (0:Int)) (some (i64.wrap ((i64.wrap (a0.h*a0.w))*a0.c)))
def eF (k:Nat) (a0:Int):Option (Bool):=
 (xp k a0 (-128:Int) (127:Int)).bind λr1=>some (!r1)
def av {ρ:Type} (k:Nat) (p:List Int× Int) (v:Int) (next:Int->Option ρ) (x0:Unit->Option ρ) (xo:Int->Option ρ):Option ρ:=
 cond (decide (v<p.2)) ((idx p.1 v).bind λe1=>(eF k e1).bind λr2=>cond (r2) (xo v) (next (i64.wrap (v+1)))) (x0 ())
def aB (k:Nat) (a0:List Int):Option (Int):=
 iter (λu5 n5=>av k (a0,(a0.length:Int)) u5 n5 (λy3=>some (-1:Int)) (λy4=>some y4)) k (0:Int)
def aA (k:Nat) (a0:List Int):Option (Bool):=
 (aB k a0).bind λr1=>some (decide (r1>=0))
def fG (k:Nat) (a0:List Int):Option (Bool):=
 (aA k a0).bind λr1=>some (!r1)
def db (k:Nat) (a0:aG):Option (Bool):=
 (fk k a0.sh).bind λr1=>cond (r1) ((jv k a0.sh).bind λr2=>cond ((a0.data.length:Int)==r2) ((fG k a0.data).bind λr3=>some r3) (some false)) (some false)
def kA (k:Nat) (a0:Shape) (a1:Shape):Option (Bool):=
 cond (a0.h !=a1.h) (some false) (cond (a0.w !=a1.w) (some false) (cond (a0.c !=a1.c) (some false) (some true)))
def kB {ρ:Type} (k:Nat) (p:List Int× List Int) (v:Int) (next:Int->Option ρ) (x0:Unit->Option ρ) (xo:Bool->Option ρ):Option ρ:=
 cond (decide (v<(p.1.length:Int))) ((idx p.1 v).bind λe1=>(idx p.2 v).bind λe2=>cond (e1 !=e2) (xo false) (next (i64.wrap (v+1)))) (x0 ())
def jx (k:Nat) (a0:List Int) (a1:List Int):Option (Bool):=
 cond ((a0.length:Int) !=(a1.length:Int)) (some false) (iter (λu5 n5=>kB k (a0,a1) u5 n5 (λy3=>some true) (λy4=>some y4)) k (0:Int))
def iR (k:Nat) (a0:aG) (a1:aG):Option (Bool):=
 (kA k a0.sh a1.sh).bind λr1=>cond (!r1) (some false) ((jx k a0.data a1.data).bind λr2=>cond (!r2) (some false) (some true))
def fl (k:Nat) (a0:List Int) (a1:Int):Option (Int):=
 cond (decide ((i64.wrap (a1-(a0.length:Int)))<0)) (some (-1:Int)) (some (i64.wrap (a1-(a0.length:Int))))
def mN (k:Nat) (a0:Step) (a1:Int):Option (Int):=
 (fl k a0.data a1).bind λr1=>cond (decide (r1<0)) (some (-1:Int)) ((iQ k a0.input r1).bind λr2=>cond (decide (r2<0)) (some (-1:Int)) (some r2))
def dI {ρ:Type} (k:Nat) (p:List Int) (v:Int× List Int) (next:(Int× List Int)->Option ρ) (x0:(List Int)->Option ρ):Option ρ:=
 cond (decide (v.1<(p.length:Int))) ((idx p v.1).bind λe1=>cond (decide (0<=v.1/\v.1<(v.2.length:Int))) (next (i64.wrap (v.1+1),v.2.set v.1.toNat e1)) none) (x0 v.2)
def fm (k:Nat) (a0:List Int):Option (List Int):=
 cond (decide (0<=(a0.length:Int)/\(a0.length:Int)<=(a0.length:Int)/\(a0.length:Int)<=(bO:Int))) (iter (λu3 n3=>dI k a0 u3 n3 (λy2=>some y2)) k ((0:Int),List.replicate ((a0.length:Int).toNat) (0:Int))) none
def fH (k:Nat) (a0:Step):Option (Step):=
 (fm k a0.data).bind λr1=>(fF k a0.input).bind λr2=>some (⟨a0.kind,a0.a,a0.b,r1,r2⟩:Step)
def jc {ρ:Type} (k:Nat) (p:List Int× List Int) (v:Int) (next:Int->Option ρ) (x0:Unit->Option ρ) (xo:Bool->Option ρ):Option ρ:=
 cond (decide (v<(p.1.length:Int))) ((idx p.1 v).bind λe1=>(idx p.2 v).bind λe2=>cond (e1 !=e2) (xo false) (next (i64.wrap (v+1)))) (x0 ())
def ia (k:Nat) (a0:List Int) (a1:List Int):Option (Bool):=
 cond ((a0.length:Int) !=(a1.length:Int)) (some false) (iter (λu5 n5=>jc k (a0,a1) u5 n5 (λy3=>some true) (λy4=>some y4)) k (0:Int))
def mO (k:Nat) (a0:Step) (a1:Step):Option (Bool):=
 cond (a0.kind !=a1.kind) (some false) (cond (a0.a !=a1.a) (some false) (cond (a0.b !=a1.b) (some false) ((ia k a0.data a1.data).bind λr1=>cond (!r1) (some false) ((iR k a0.input a1.input).bind λr2=>cond (!r2) (some false) (some true)))))
end
end Go.Proofs.Ev
