/- Typed functions and what holds of them: part 1. -/
import Derived.Test.YtimmojehndbiiaaEvK6
import Derived.Test.YtimmojehndbiiaaEvK7
import Derived.Test.YtimmojehndbiiaaProg
import Derived.WalkKit
import Derived.Maps.OwnSet
import Derived.Test.YtimmojehndbiiaaEvK8
set_option linter.unusedVariables false
set_option linter.unusedSimpArgs false
set_option linter.unusedSectionVars false
namespace Go.Proofs.Ev
open IntKind(i64 u8 u64)
set_option maxRecDepth 100000
section
noncomputable section
def mY (k:Nat) (a0:Int) (a1:Int) (a2:Int):Option (Bool):=
 cond (decide (a1<=a0)) (some (decide (a0<=a2))) (some false)
def Df (k:Nat) (a0:Int) (a1:Int) (a2:Int):Option (Bool):=
 cond (decide (a1<=a0)) (some (decide (a0<=a2))) (some false)
def mZ {ρ:Type} (k:Nat) (p:List Int× List Int) (v:Int) (next:Int->Option ρ) (x0:Unit->Option ρ) (uD:Bool->Option ρ):Option ρ:=
 cond (decide (v<(p.1.length:Int))) ((idx p.1 v).bind λe1=>(idx p.2 v).bind λe2=>cond (e1 !=e2) (uD false) (next (i64.wrap (v+1)))) (x0 ())
def kq (k:Nat) (a0:List Int) (a1:List Int):Option (Bool):=
 cond ((a0.length:Int) !=(a1.length:Int)) (some false) (iter (λu5 n5=>mZ k (a0,a1) u5 n5 (λy3=>some true) (λy4=>some y4)) k (0:Int))
def cK {ρ:Type} (k:Nat) (p:Unit) (v:Int× Int× List Int) (next:(Int× Int× List Int)->Option ρ) (x0:(Int× List Int)->Option ρ):Option ρ:=
 cond (decide (v.2.1<(v.2.2.length:Int))) (cond (decide (0<=v.2.1/\v.2.1<(v.2.2.length:Int))) (next (i64.wrap (v.1+1),i64.wrap (v.2.1+1),v.2.2.set v.2.1.toNat v.1)) none) (x0 (v.1,v.2.2))
def gK (k:Nat) (a0:List Int) (a1:Int):Option (Int× List Int):=
 iter (λu2 n2=>cK k () u2 n2 (λy1=>some (y1.1,y1.2))) k (a1,(0:Int),a0)
def dI {ρ:Type} (k:Nat) (p:List Int) (v:Int× Int) (next:(Int× Int)->Option ρ) (x0:Int->Option ρ) (uD:Int->Option ρ):Option ρ:=
 cond (decide (v.2<(p.length:Int))) ((idx p v.2).bind λe1=>cond (e1 !=v.1) (uD (-1:Int)) (next (i64.wrap (v.1+1),i64.wrap (v.2+1)))) (x0 v.1)
def ln (k:Nat) (a0:List Int) (a1:Int):Option (Int):=
 iter (λu4 n4=>dI k a0 u4 n4 (λy2=>some y2) (λy3=>some y3)) k (a1,(0:Int))
end
end
set_option maxRecDepth 100000
section
noncomputable section
end
end
set_option maxRecDepth 100000
section
noncomputable section
def kr (k:Nat) (a0:Int):Option (Bool):=
 (mY k a0 (0:Int) (1000000:Int)).bind λr1=>some r1
end
end
set_option maxRecDepth 100000
section
noncomputable section
end
end
set_option maxRecDepth 100000
section
noncomputable section
def eD (k:Nat) (a0:Int):Option (Bool):=
 some (a0 !=a0)
def dJ (k:Nat) (a0:Int) (a1:Int):Option (Int):=
 (eD k a0).bind λr1=>(eD k a1).bind λr2=>cond (r1) (cond (r2) (some (0:Int)) (some (-1:Int))) (cond (r2) (some (1:Int)) (cond (decide (a0<a1)) (some (-1:Int)) (cond (decide (a0>a1)) (some (1:Int)) (some (0:Int)))))
def er {ρ:Type} (k:Nat) (p:List (List Int)× List (List Int)) (v:Int) (next:Int->Option ρ) (x0:Unit->Option ρ) (uD:Bool->Option ρ):Option ρ:=
 cond (decide (v<(p.1.length:Int))) ((idx p.1 v).bind λe1=>(idx p.2 v).bind λe2=>(kq k e1 e2).bind λr3=>cond (!r3) (uD false) (next (i64.wrap (v+1)))) (x0 ())
def gd (k:Nat) (a0:List (List Int)) (a1:List (List Int)):Option (Bool):=
 cond ((a0.length:Int) !=(a1.length:Int)) (some false) (iter (λu6 n6=>er k (a0,a1) u6 n6 (λy4=>some true) (λy5=>some y5)) k (0:Int))
def cE {ρ:Type} (k:Nat) (p:Unit) (v:Int× Int× List (List Int)) (next:(Int× Int× List (List Int))->Option ρ) (x0:(Int× List (List Int))->Option ρ):Option ρ:=
 cond (decide (v.2.1<(v.2.2.length:Int))) (cond (decide (0<=v.2.1/\v.2.1<(v.2.2.length:Int))) ((v.2.2[v.2.1.toNat]?).bind λe1=>(gK k e1 v.1).bind λr2=>next (r2.1,i64.wrap (v.2.1+1),v.2.2.set v.2.1.toNat r2.2)) none) (x0 (v.1,v.2.2))
def fJ (k:Nat) (a0:List (List Int)) (a1:Int):Option (Int× List (List Int)):=
 iter (λu4 n4=>cE k () u4 n4 (λy3=>some (y3.1,y3.2))) k (a1,(0:Int),a0)
end
end
set_option maxRecDepth 100000
set_option maxHeartbeats 4000000
section
noncomputable section
def eE {ρ:Type} (k:Nat) (p:List Int× Int× List Int) (v:Bool× Int× List Int) (next:(Bool× Int× List Int)->Option ρ) (x2:(Bool× List Int)->Option ρ):Option ρ:=
 cond (decide (v.2.1<(p.2.2.length:Int))) (cond (!v.1) ((idx p.1 p.2.1).bind λe1=>cond (decide (0<=v.2.1/\v.2.1<(p.2.2.length:Int))) ((p.2.2[v.2.1.toNat]?).bind λe2=>(idx p.1 e2).bind λe3=>cond (decide (e1<e3)) (cond (Nat.ble (v.2.2.length+[p.2.1].length) fc) (cond (decide (0<=v.2.1/\v.2.1<(p.2.2.length:Int))) ((p.2.2[v.2.1.toNat]?).bind λe4=>cond (Nat.ble ((v.2.2++[p.2.1]).length+[e4].length) fc) (next (true,i64.wrap (v.2.1+1),(v.2.2++[p.2.1])++[e4])) none) none) none) (cond (decide (0<=v.2.1/\v.2.1<(p.2.2.length:Int))) ((p.2.2[v.2.1.toNat]?).bind λe5=>cond (Nat.ble (v.2.2.length+[e5].length) fc) (next (v.1,i64.wrap (v.2.1+1),v.2.2++[e5])) none) none)) none) (cond (decide (0<=v.2.1/\v.2.1<(p.2.2.length:Int))) ((p.2.2[v.2.1.toNat]?).bind λe6=>cond (Nat.ble (v.2.2.length+[e6].length) fc) (next (v.1,i64.wrap (v.2.1+1),v.2.2++[e6])) none) none)) (x2 (v.1,v.2.2))
def gL {ρ:Type} (k:Nat) (p:List Int) (v:Int× List Int) (next:(Int× List Int)->Option ρ) (x0:(List Int)->Option ρ):Option ρ:=
 cond (decide (v.1<(p.length:Int))) (iter (λu8 n8=>eE k (p,v.1,v.2) u8 n8 (λy7=>cond (!y7.1) (cond (Nat.ble (y7.2.length+[v.1].length) fc) (next (i64.wrap (v.1+1),y7.2++[v.1])) none) (next (i64.wrap (v.1+1),y7.2)))) k (false,(0:Int),([]:List Int))) (x0 v.2)
def gf (k:Nat) (a0:List Int):Option (List Int):=
 iter (λu10 n10=>gL k a0 u10 n10 (λy9=>some y9)) k ((0:Int),([]:List Int))
def dK (k:Nat) (a0:Int):Option (Int):=
 some a0
def bF (k:Nat) (a0:Int) (a1:Int) (Dg:List Int):Option (Int):=
 (idx Dg a0).bind λe1=>(dK k e1).bind λr2=>(idx Dg a1).bind λe3=>(dK k e3).bind λr4=>(dJ k r2 r4).bind λr5=>cond (decide (Dg=Dg)) (some r5) none
def aF {ρ:Type} (k:Nat) (p:Int× Int× Int× List Int) (v:Int× List Int) (next:(Int× List Int)->Option ρ) (x2:(List Int)->Option ρ):Option ρ:=
 cond (decide (v.1>p.1)) (cond (decide (0<=v.1/\v.1<(v.2.length:Int))) ((v.2[v.1.toNat]?).bind λe1=>cond (decide (0<=(i64.wrap (v.1-1))/\(i64.wrap (v.1-1))<(v.2.length:Int))) ((v.2[(i64.wrap (v.1-1)).toNat]?).bind λe2=>(bF k e1 e2 p.2.2.2).bind λr3=>cond (decide (r3<0)) (cond (decide (0<=(i64.wrap (v.1-1))/\(i64.wrap (v.1-1))<(v.2.length:Int))) ((v.2[(i64.wrap (v.1-1)).toNat]?).bind λe4=>cond (decide (0<=v.1/\v.1<(v.2.length:Int))) ((v.2[v.1.toNat]?).bind λe5=>cond (decide (0<=v.1/\v.1<(v.2.length:Int))) (cond (decide (0<=(i64.wrap (v.1-1))/\(i64.wrap (v.1-1))<(v.2.length:Int))) (next (i64.wrap (v.1-1),(v.2.set v.1.toNat e4).set ((i64.wrap (v.1-1)).toNat) e5)) none) none) none) none) (x2 v.2)) none) none) (x2 v.2)
def ae {ρ:Type} (k:Nat) (p:Int× Int× List Int) (v:Int× List Int) (next:(Int× List Int)->Option ρ) (x0:(List Int)->Option ρ):Option ρ:=
 cond (decide (v.1<p.2.1)) (iter (λu7 n7=>aF k (p.1,p.2.1,v.1,p.2.2) u7 n7 (λy6=>next (i64.wrap (v.1+1),y6))) k (v.1,v.2)) (x0 v.2)
def aN (k:Nat) (a0:List Int) (a1:Int) (a2:Int) (yA:List Int):Option (List Int):=
 iter (λu9 n9=>ae k (a1,a2,yA) u9 n9 (λy8=>cond (decide (yA=yA)) (some y8) none)) k (i64.wrap (a1+1),a0)
def aQ {ρ:Type} (k:Nat) (p:Int× Int× Int× List Int) (v:Int× List Int) (next:(Int× List Int)->Option ρ) (x0:(List Int)->Option ρ):Option ρ:=
 cond (decide (v.1<p.2.2.1)) (cond (decide (0<=(i64.wrap (p.2.1+v.1))/\(i64.wrap (p.2.1+v.1))<(v.2.length:Int))) ((v.2[(i64.wrap (p.2.1+v.1)).toNat]?).bind λe1=>cond (decide (0<=(i64.wrap (p.1+v.1))/\(i64.wrap (p.1+v.1))<(v.2.length:Int))) ((v.2[(i64.wrap (p.1+v.1)).toNat]?).bind λe2=>cond (decide (0<=(i64.wrap (p.1+v.1))/\(i64.wrap (p.1+v.1))<(v.2.length:Int))) (cond (decide (0<=(i64.wrap (p.2.1+v.1))/\(i64.wrap (p.2.1+v.1))<(v.2.length:Int))) (next (i64.wrap (v.1+1),(v.2.set ((i64.wrap (p.1+v.1)).toNat) e1).set ((i64.wrap (p.2.1+v.1)).toNat) e2)) none) none) none) none) (x0 v.2)
def aD (k:Nat) (a0:List Int) (a1:Int) (a2:Int) (a3:Int) (ba:List Int):Option (List Int):=
 iter (λu4 n4=>aQ k (a1,a2,a3,ba) u4 n4 (λy3=>cond (decide (ba=ba)) (some y3) none)) k ((0:Int),a0)
def au {ρ:Type} (k:Nat) (p:Int× List Int) (v:Int× Int× List Int) (next:(Int× Int× List Int)->Option ρ) (x0:(Int× List Int)->Option ρ):Option ρ:=
 cond (v.1 !=v.2.1) (cond (decide (v.1>v.2.1)) ((aD k v.2.2 (i64.wrap (p.1-v.1)) p.1 v.2.1 p.2).bind λr1=>next (i64.wrap (v.1-v.2.1),v.2.1,r1)) ((aD k v.2.2 (i64.wrap (p.1-v.1)) (i64.wrap ((i64.wrap (p.1+v.2.1))-v.1)) v.1 p.2).bind λr2=>next (v.1,i64.wrap (v.2.1-v.1),r2))) (x0 (v.1,v.2.2))
def bh (k:Nat) (a0:List Int) (a1:Int) (a2:Int) (a3:Int) (ba:List Int):Option (List Int):=
 iter (λu5 n5=>au k (a2,ba) u5 n5 (λy3=>(aD k y3.2 (i64.wrap (a2-y3.1)) a2 y3.1 ba).bind λr4=>cond (decide (ba=ba)) (some r4) none)) k (i64.wrap (a2-a1),i64.wrap (a3-a2),a0)
def av {ρ:Type} (k:Nat) (p:Int× List Int× List Int) (v:Int× Int) (next:(Int× Int)->Option ρ) (x0:Int->Option ρ):Option ρ:=
 cond (decide (v.1<v.2)) (cond (decide (0<=(i64.wrap ((u64.wrap (i64.wrap (v.1+v.2))).fdiv (2^(min (1:Int).toNat u64.bits))))/\(i64.wrap ((u64.wrap (i64.wrap (v.1+v.2))).fdiv (2^(min (1:Int).toNat u64.bits))))<(p.2.1.length:Int))) ((p.2.1[(i64.wrap ((u64.wrap (i64.wrap (v.1+v.2))).fdiv (2^(min (1:Int).toNat u64.bits)))).toNat]?).bind λe1=>cond (decide (0<=p.1/\p.1<(p.2.1.length:Int))) ((p.2.1[p.1.toNat]?).bind λe2=>(bF k e1 e2 p.2.2).bind λr3=>cond (decide (r3<0)) (next (i64.wrap ((i64.wrap ((u64.wrap (i64.wrap (v.1+v.2))).fdiv (2^(min (1:Int).toNat u64.bits))))+1),v.2)) (next (v.1,i64.wrap ((u64.wrap (i64.wrap (v.1+v.2))).fdiv (2^(min (1:Int).toNat u64.bits)))))) none) none) (x0 v.1)
def aj {ρ:Type} (k:Nat) (p:Int× List Int) (v:Int× List Int) (next:(Int× List Int)->Option ρ) (x2:(List Int)->Option ρ):Option ρ:=
 cond (decide (v.1<(i64.wrap (p.1-1)))) (cond (decide (0<=(i64.wrap (v.1+1))/\(i64.wrap (v.1+1))<(v.2.length:Int))) ((v.2[(i64.wrap (v.1+1)).toNat]?).bind λe6=>cond (decide (0<=v.1/\v.1<(v.2.length:Int))) ((v.2[v.1.toNat]?).bind λe7=>cond (decide (0<=v.1/\v.1<(v.2.length:Int))) (cond (decide (0<=(i64.wrap (v.1+1))/\(i64.wrap (v.1+1))<(v.2.length:Int))) (next (i64.wrap (v.1+1),(v.2.set v.1.toNat e6).set ((i64.wrap (v.1+1)).toNat) e7)) none) none) none) none) (x2 v.2)
def ax {ρ:Type} (k:Nat) (p:Int× List Int× List Int) (v:Int× Int) (next:(Int× Int)->Option ρ) (x4:Int->Option ρ):Option ρ:=
 cond (decide (v.1<v.2)) (cond (decide (0<=p.1/\p.1<(p.2.1.length:Int))) ((p.2.1[p.1.toNat]?).bind λe11=>cond (decide (0<=(i64.wrap ((u64.wrap (i64.wrap (v.1+v.2))).fdiv (2^(min (1:Int).toNat u64.bits))))/\(i64.wrap ((u64.wrap (i64.wrap (v.1+v.2))).fdiv (2^(min (1:Int).toNat u64.bits))))<(p.2.1.length:Int))) ((p.2.1[(i64.wrap ((u64.wrap (i64.wrap (v.1+v.2))).fdiv (2^(min (1:Int).toNat u64.bits)))).toNat]?).bind λe12=>(bF k e11 e12 p.2.2).bind λr13=>cond (!(decide (r13<0))) (next (i64.wrap ((i64.wrap ((u64.wrap (i64.wrap (v.1+v.2))).fdiv (2^(min (1:Int).toNat u64.bits))))+1),v.2)) (next (v.1,i64.wrap ((u64.wrap (i64.wrap (v.1+v.2))).fdiv (2^(min (1:Int).toNat u64.bits)))))) none) none) (x4 v.1)
def ak {ρ:Type} (k:Nat) (p:Int× List Int) (v:Int× List Int) (next:(Int× List Int)->Option ρ) (x6:(List Int)->Option ρ):Option ρ:=
 cond (decide (v.1>p.1)) (cond (decide (0<=(i64.wrap (v.1-1))/\(i64.wrap (v.1-1))<(v.2.length:Int))) ((v.2[(i64.wrap (v.1-1)).toNat]?).bind λe16=>cond (decide (0<=v.1/\v.1<(v.2.length:Int))) ((v.2[v.1.toNat]?).bind λe17=>cond (decide (0<=v.1/\v.1<(v.2.length:Int))) (cond (decide (0<=(i64.wrap (v.1-1))/\(i64.wrap (v.1-1))<(v.2.length:Int))) (next (i64.wrap (v.1-1),(v.2.set v.1.toNat e16).set ((i64.wrap (v.1-1)).toNat) e17)) none) none) none) none) (x6 v.2)
def ay {ρ:Type} (k:Nat) (p:Int× Int× Int× Int× Int× Int× List Int× List Int) (v:Int× Int) (next:(Int× Int)->Option ρ) (x8:Int->Option ρ):Option ρ:=
 cond (decide (v.1<v.2)) (cond (decide (0<=(i64.wrap (p.2.2.2.2.2.1-(i64.wrap ((u64.wrap (i64.wrap (v.1+v.2))).fdiv (2^(min (1:Int).toNat u64.bits))))))/\(i64.wrap (p.2.2.2.2.2.1-(i64.wrap ((u64.wrap (i64.wrap (v.1+v.2))).fdiv (2^(min (1:Int).toNat u64.bits))))))<(p.2.2.2.2.2.2.1.length:Int))) ((p.2.2.2.2.2.2.1[(i64.wrap (p.2.2.2.2.2.1-(i64.wrap ((u64.wrap (i64.wrap (v.1+v.2))).fdiv (2^(min (1:Int).toNat u64.bits)))))).toNat]?).bind λe22=>cond (decide (0<=(i64.wrap ((u64.wrap (i64.wrap (v.1+v.2))).fdiv (2^(min (1:Int).toNat u64.bits))))/\(i64.wrap ((u64.wrap (i64.wrap (v.1+v.2))).fdiv (2^(min (1:Int).toNat u64.bits))))<(p.2.2.2.2.2.2.1.length:Int))) ((p.2.2.2.2.2.2.1[(i64.wrap ((u64.wrap (i64.wrap (v.1+v.2))).fdiv (2^(min (1:Int).toNat u64.bits)))).toNat]?).bind λe23=>(bF k e22 e23 p.2.2.2.2.2.2.2).bind λr24=>cond (!(decide (r24<0))) (next (i64.wrap ((i64.wrap ((u64.wrap (i64.wrap (v.1+v.2))).fdiv (2^(min (1:Int).toNat u64.bits))))+1),v.2)) (next (v.1,i64.wrap ((u64.wrap (i64.wrap (v.1+v.2))).fdiv (2^(min (1:Int).toNat u64.bits)))))) none) none) (x8 v.1)
def aX (k:Nat) (self:(List Int)->Int->Int->Int->(List Int)->Option (List Int)) (a0:List Int) (a1:Int) (a2:Int) (a3:Int) (ba:List Int):Option (List Int):=
 cond ((i64.wrap (a2-a1))==1) (iter (λu10 n10=>av k (a1,a0,ba) u10 n10 (λy5=>iter (λu9 n9=>aj k (y5,ba) u9 n9 (λy8=>cond (decide (ba=ba)) (some y8) none)) k (a1,a0))) k (a2,a3)) (cond ((i64.wrap (a3-a2))==1) (iter (λu20 n20=>ax k (a2,a0,ba) u20 n20 (λy15=>iter (λu19 n19=>ak k (y15,ba) u19 n19 (λy18=>cond (decide (ba=ba)) (some y18) none)) k (a2,a0))) k (a1,a2)) (bej (λ(j21:Int->Int->Option _)=>cond (decide (a2>(i64.wrap ((u64.wrap (i64.wrap (a1+a3))).fdiv (2^(min (1:Int).toNat u64.bits)))))) ((j21 (i64.wrap ((i64.wrap ((i64.wrap ((u64.wrap (i64.wrap (a1+a3))).fdiv (2^(min (1:Int).toNat u64.bits))))+a2))-a3)) (i64.wrap ((u64.wrap (i64.wrap (a1+a3))).fdiv (2^(min (1:Int).toNat u64.bits)))))) ((j21 a1 a2))) (λ(j21_5:Int) (j21_6:Int)=>iter (λu41 n41=>ay k (a1,a2,a3,i64.wrap ((u64.wrap (i64.wrap (a1+a3))).fdiv (2^(min (1:Int).toNat u64.bits))),i64.wrap ((i64.wrap ((u64.wrap (i64.wrap (a1+a3))).fdiv (2^(min (1:Int).toNat u64.bits))))+a2),i64.wrap ((i64.wrap ((i64.wrap ((u64.wrap (i64.wrap (a1+a3))).fdiv (2^(min (1:Int).toNat u64.bits))))+a2))-1),a0,ba) u41 n41 (λy26=>cond (decide (y26<a2)) (bej (λ(j28:(List Int)->Option _)=>cond (decide (a2<(i64.wrap ((i64.wrap ((i64.wrap ((u64.wrap (i64.wrap (a1+a3))).fdiv (2^(min (1:Int).toNat u64.bits))))+a2))-y26)))) ((bh k a0 y26 a2 (i64.wrap ((i64.wrap ((i64.wrap ((u64.wrap (i64.wrap (a1+a3))).fdiv (2^(min (1:Int).toNat u64.bits))))+a2))-y26)) ba).bind λr27=>(j28 r27)) ((j28 a0))) (λ(j28_5:List Int)=>cond (decide (a1<y26)) (bej (λ(j30:(List Int)->Option _)=>cond (decide (y26<(i64.wrap ((u64.wrap (i64.wrap (a1+a3))).fdiv (2^(min (1:Int).toNat u64.bits)))))) ((self j28_5 a1 y26 (i64.wrap ((u64.wrap (i64.wrap (a1+a3))).fdiv (2^(min (1:Int).toNat u64.bits)))) ba).bind λr29=>(j30 r29)) ((j30 j28_5))) (λ(j30_3:List Int)=>cond (decide ((i64.wrap ((u64.wrap (i64.wrap (a1+a3))).fdiv (2^(min (1:Int).toNat u64.bits))))<(i64.wrap ((i64.wrap ((i64.wrap ((u64.wrap (i64.wrap (a1+a3))).fdiv (2^(min (1:Int).toNat u64.bits))))+a2))-y26)))) (cond (decide ((i64.wrap ((i64.wrap ((i64.wrap ((u64.wrap (i64.wrap (a1+a3))).fdiv (2^(min (1:Int).toNat u64.bits))))+a2))-y26))<a3)) ((self j30_3 (i64.wrap ((u64.wrap (i64.wrap (a1+a3))).fdiv (2^(min (1:Int).toNat u64.bits)))) (i64.wrap ((i64.wrap ((i64.wrap ((u64.wrap (i64.wrap (a1+a3))).fdiv (2^(min (1:Int).toNat u64.bits))))+a2))-y26)) a3 ba).bind λr31=>cond (decide (ba=ba)) (some r31) none) (cond (decide (ba=ba)) (some j30_3) none)) (cond (decide (ba=ba)) (some j30_3) none))) (cond (decide ((i64.wrap ((u64.wrap (i64.wrap (a1+a3))).fdiv (2^(min (1:Int).toNat u64.bits))))<(i64.wrap ((i64.wrap ((i64.wrap ((u64.wrap (i64.wrap (a1+a3))).fdiv (2^(min (1:Int).toNat u64.bits))))+a2))-y26)))) (cond (decide ((i64.wrap ((i64.wrap ((i64.wrap ((u64.wrap (i64.wrap (a1+a3))).fdiv (2^(min (1:Int).toNat u64.bits))))+a2))-y26))<a3)) ((self j28_5 (i64.wrap ((u64.wrap (i64.wrap (a1+a3))).fdiv (2^(min (1:Int).toNat u64.bits)))) (i64.wrap ((i64.wrap ((i64.wrap ((u64.wrap (i64.wrap (a1+a3))).fdiv (2^(min (1:Int).toNat u64.bits))))+a2))-y26)) a3 ba).bind λr33=>cond (decide (ba=ba)) (some r33) none) (cond (decide (ba=ba)) (some j28_5) none)) (cond (decide (ba=ba)) (some j28_5) none)))) (cond (decide (a1<y26)) (bej (λ(j36:(List Int)->Option _)=>cond (decide (y26<(i64.wrap ((u64.wrap (i64.wrap (a1+a3))).fdiv (2^(min (1:Int).toNat u64.bits)))))) ((self a0 a1 y26 (i64.wrap ((u64.wrap (i64.wrap (a1+a3))).fdiv (2^(min (1:Int).toNat u64.bits)))) ba).bind λr35=>(j36 r35)) ((j36 a0))) (λ(j36_3:List Int)=>cond (decide ((i64.wrap ((u64.wrap (i64.wrap (a1+a3))).fdiv (2^(min (1:Int).toNat u64.bits))))<(i64.wrap ((i64.wrap ((i64.wrap ((u64.wrap (i64.wrap (a1+a3))).fdiv (2^(min (1:Int).toNat u64.bits))))+a2))-y26)))) (cond (decide ((i64.wrap ((i64.wrap ((i64.wrap ((u64.wrap (i64.wrap (a1+a3))).fdiv (2^(min (1:Int).toNat u64.bits))))+a2))-y26))<a3)) ((self j36_3 (i64.wrap ((u64.wrap (i64.wrap (a1+a3))).fdiv (2^(min (1:Int).toNat u64.bits)))) (i64.wrap ((i64.wrap ((i64.wrap ((u64.wrap (i64.wrap (a1+a3))).fdiv (2^(min (1:Int).toNat u64.bits))))+a2))-y26)) a3 ba).bind λr37=>cond (decide (ba=ba)) (some r37) none) (cond (decide (ba=ba)) (some j36_3) none)) (cond (decide (ba=ba)) (some j36_3) none))) (cond (decide ((i64.wrap ((u64.wrap (i64.wrap (a1+a3))).fdiv (2^(min (1:Int).toNat u64.bits))))<(i64.wrap ((i64.wrap ((i64.wrap ((u64.wrap (i64.wrap (a1+a3))).fdiv (2^(min (1:Int).toNat u64.bits))))+a2))-y26)))) (cond (decide ((i64.wrap ((i64.wrap ((i64.wrap ((u64.wrap (i64.wrap (a1+a3))).fdiv (2^(min (1:Int).toNat u64.bits))))+a2))-y26))<a3)) ((self a0 (i64.wrap ((u64.wrap (i64.wrap (a1+a3))).fdiv (2^(min (1:Int).toNat u64.bits)))) (i64.wrap ((i64.wrap ((i64.wrap ((u64.wrap (i64.wrap (a1+a3))).fdiv (2^(min (1:Int).toNat u64.bits))))+a2))-y26)) a3 ba).bind λr39=>cond (decide (ba=ba)) (some r39) none) (cond (decide (ba=ba)) (some a0) none)) (cond (decide (ba=ba)) (some a0) none))))) k (j21_5,j21_6))))
def aP:Nat->(List Int)->Int->Int->Int->(List Int)->Option (List Int)
 |0=>λ_ _ _ _ _=>none
 |k+1=>aX k (aP k)
def bo {ρ:Type} (k:Nat) (p:Int× Int× List Int) (v:Int× Int× List Int) (next:(Int× Int× List Int)->Option ρ) (x0:(Int× List Int)->Option ρ):Option ρ:=
 cond (decide (v.2.1<=p.1)) ((aN k v.2.2 v.1 v.2.1 p.2.2).bind λr1=>next (v.2.1,i64.wrap (v.2.1+p.2.1),r1)) (x0 (v.1,v.2.2))
def bp {ρ:Type} (k:Nat) (p:Int× Int× List Int) (v:Int× Int× List Int) (next:(Int× Int× List Int)->Option ρ) (x4:(Int× List Int)->Option ρ):Option ρ:=
 cond (decide (v.2.1<=p.1)) ((aP k v.2.2 v.1 (i64.wrap (v.1+p.2.1)) v.2.1 p.2.2).bind λr4=>next (v.2.1,i64.wrap (v.2.1+(i64.wrap ((2:Int)*p.2.1))),r4)) (x4 (v.1,v.2.2))
def bV {ρ:Type} (k:Nat) (p:Int× List Int) (v:Int× List Int) (next:(Int× List Int)->Option ρ) (x2:(List Int)->Option ρ):Option ρ:=
 cond (decide (v.1<p.1)) (iter (λu7 n7=>bp k (p.1,v.1,p.2) u7 n7 (λy5=>cond (decide ((i64.wrap (y5.1+v.1))<p.1)) ((aP k y5.2 y5.1 (i64.wrap (y5.1+v.1)) p.1 p.2).bind λr6=>next (i64.wrap (v.1*2),r6)) (next (i64.wrap (v.1*2),y5.2)))) k ((0:Int),i64.wrap ((2:Int)*v.1),v.2)) (x2 v.2)
def bG (k:Nat) (a0:List Int) (a1:Int) (rr:List Int):Option (List Int):=
 iter (λu10 n10=>bo k (a1,(20:Int),rr) u10 n10 (λy2=>(aN k y2.2 y2.1 a1 rr).bind λr3=>iter (λu9 n9=>bV k (a1,rr) u9 n9 (λy8=>cond (decide (rr=rr)) (some y8) none)) k ((20:Int),r3))) k ((0:Int),(20:Int),a0)
def bc (k:Nat) (a0:List Int) (yB:List Int):Option (List Int):=
 (bG k a0 (a0.length:Int) yB).bind λr1=>cond (decide (yB=yB)) (some r1) none
end
end
set_option maxRecDepth 100000
set_option maxHeartbeats 4000000
section
noncomputable section
def kt (k:Nat) (a0:List Wish) (a1:Int):Option (Int):=
 cond (decide ((i64.wrap (a1-(a0.length:Int)))<0)) (some (-1:Int)) (some (i64.wrap (a1-(a0.length:Int))))
def l4 (k:Nat) (a0:Wish):Option (Wish):=
 some a0
def et {ρ:Type} (k:Nat) (p:List Wish) (v:Int× List Wish) (next:(Int× List Wish)->Option ρ) (x0:(List Wish)->Option ρ):Option ρ:=
 cond (decide (v.1<(p.length:Int))) ((idx p v.1).bind λe1=>(l4 k e1).bind λr2=>cond (decide (0<=v.1/\v.1<(v.2.length:Int))) (next (i64.wrap (v.1+1),v.2.set v.1.toNat r2)) none) (x0 v.2)
def fb (k:Nat) (a0:List Wish):Option (List Wish):=
 cond (decide (0<=(a0.length:Int)/\(a0.length:Int)<=(a0.length:Int)/\(a0.length:Int)<=(fc:Int))) (iter (λu4 n4=>et k a0 u4 n4 (λy3=>some y3)) k ((0:Int),List.replicate ((a0.length:Int).toNat) (⟨(0:Int),(0:Int),(0:Int)⟩:Wish))) none
def ku (k:Nat) (a0:Wish):Option (Bool):=
 cond (decide (a0.id>=1)) (cond (decide (a0.model>=0)) ((kr k a0.due).bind λr1=>some r1) (some false)) (some false)
def cL {ρ:Type} (k:Nat) (p:List Wish× Int× Int× List Int) (v:Int) (next:Int->Option ρ) (x2:Unit->Option ρ) (uD:Bool->Option ρ):Option ρ:=
 cond (decide (v<p.2.2.1)) ((idx p.1 v).bind λe4=>(idx p.1 p.2.2.1).bind λe5=>cond (e4.id==e5.id) (uD false) (next (i64.wrap (v+1)))) (x2 ())
def ch {ρ:Type} (k:Nat) (p:List Wish× Int) (v:Int× List Int) (next:(Int× List Int)->Option ρ) (x0:(List Int)->Option ρ) (uD:Bool->Option ρ):Option ρ:=
 cond (decide (v.1<(p.1.length:Int))) ((idx p.1 v.1).bind λe2=>(ku k e2).bind λr3=>cond (!r3) (uD false) (iter (λu9 n9=>cL k (p.1,p.2,v.1,v.2) u9 n9 (λy6=>(idx p.1 v.1).bind λe7=>cond (Nat.ble (v.2.length+[e7.due].length) fc) (next (i64.wrap (v.1+1),v.2++[e7.due])) none) (λy8=>uD y8)) k (0:Int))) (x0 v.2)
def cM {ρ:Type} (k:Nat) (p:List Wish× Int× Int× List Int× List (List Int)× List Int× Int× Int× Int) (v:Int) (next:Int->Option ρ) (x6:Int->Option ρ):Option ρ:=
 cond (decide (v<(p.2.2.2.2.1.length:Int))) (cond (decide (0<=v/\v<(p.2.2.2.2.2.1.length:Int))) ((p.2.2.2.2.2.1[v.toNat]?).bind λe14=>cond (e14 !=p.2.2.2.2.2.2.2.1) (next (i64.wrap (v+1))) (cond (decide (0<=v/\v<(p.2.2.2.2.1.length:Int))) ((p.2.2.2.2.1[v.toNat]?).bind λe15=>cond (decide ((e15.length:Int)>=p.2.1)) (next (i64.wrap (v+1))) (x6 v)) none)) none) (x6 v)
def bZ {ρ:Type} (k:Nat) (p:List Wish× Int× List Int) (v:Int× List (List Int)× List Int) (next:(Int× List (List Int)× List Int)->Option ρ) (x4:(List (List Int))->Option ρ):Option ρ:=
 cond (decide (v.1<(p.2.2.length:Int))) (cond (decide (0<=v.1/\v.1<(p.2.2.length:Int))) ((p.2.2[v.1.toNat]?).bind λe12=>(idx p.1 e12).bind λe13=>iter (λu21 n21=>cM k (p.1,p.2.1,v.1,p.2.2,v.2.1,v.2.2,e13.id,e13.model,e13.due) u21 n21 (λy16=>cond (y16==(v.2.1.length:Int)) (cond (Nat.ble (v.2.1.length+1) fc) (cond (Nat.ble (v.2.2.length+[e13.model].length) fc) (cond (decide (0<=y16/\y16<((v.2.1++[([]:List Int)]).length:Int))) (((v.2.1++[([]:List Int)])[y16.toNat]?).bind λe17=>cond (Nat.ble (e17.length+[e13.id].length) fc) (cond (decide (0<=y16/\y16<((jP (v.2.1++[([]:List Int)]) y16.toNat).length:Int))) ((gT ((jP (v.2.1++[([]:List Int)]) y16.toNat).set y16.toNat (some (e17++[e13.id])))).bind λz18=>next (i64.wrap (v.1+1),z18,v.2.2++[e13.model])) none) none) none) none) none) (cond (decide (0<=y16/\y16<(v.2.1.length:Int))) ((v.2.1[y16.toNat]?).bind λe19=>cond (Nat.ble (e19.length+[e13.id].length) fc) (cond (decide (0<=y16/\y16<((jP v.2.1 y16.toNat).length:Int))) ((gT ((jP v.2.1 y16.toNat).set y16.toNat (some (e19++[e13.id])))).bind λz20=>next (i64.wrap (v.1+1),z20,v.2.2)) none) none) none))) k (0:Int)) none) (x4 v.2.1)
def eF (k:Nat) (a0:List Wish) (a1:Int):Option (List (List Int)× Bool):=
 (mY k a1 (1:Int) (8:Int)).bind λr1=>cond (!r1) (some (([]:List (List Int)),false)) (cond (decide ((a0.length:Int)>(300:Int))) (some (([]:List (List Int)),false)) (iter (λu25 n25=>ch k (a0,a1) u25 n25 (λy10=>(gf k y10).bind λr11=>iter (λu23 n23=>bZ k (a0,a1,r11) u23 n23 (λy22=>some (y22,true))) k ((0:Int),([]:List (List Int)),([]:List Int))) (λy24=>some (([]:List (List Int)),y24))) k ((0:Int),([]:List Int))))
def areB:List Int->List Wish->Bool
 |_,[]=>true
 |seen,x::l=>cond (decide (x.id<1)||decide (x.model<0)||!(decide (0<=x.due)&&decide (x.due<=1000000))||seen.contains x.id) false (areB (seen++[x.id]) l)
def I_areWishes (k:Nat) (l:List Wish):Option Bool:=cond (decide (l.length<=2000000)&&l.all λx=>(Go.Lit.int .i64 x.id).wf) (some (areB [] l&&decide (l.length<=300))) none
def bH (k:Nat) (a0:List Wish):Option (List Wish):=
 cond (isNil a0) (both (some ([]:List Wish)) (cond (Nat.ble (([]:List Wish).length+a0.length) fc) (some (([]:List Wish)++a0)) none)) (cond (Nat.ble (([]:List Wish).length+a0.length) fc) (some (([]:List Wish)++a0)) none)
def bP (k:Nat) (a0:Wish) (a1:Wish):Option (Int):=
 (dJ k a0.due a1.due).bind λr1=>some r1
def bd {ρ:Type} (k:Nat) (p:Int× Int× Int) (v:Int× List Wish) (next:(Int× List Wish)->Option ρ) (x2:(List Wish)->Option ρ):Option ρ:=
 cond (decide (v.1>p.1)) (cond (decide (0<=v.1/\v.1<(v.2.length:Int))) ((v.2[v.1.toNat]?).bind λe1=>cond (decide (0<=(i64.wrap (v.1-1))/\(i64.wrap (v.1-1))<(v.2.length:Int))) ((v.2[(i64.wrap (v.1-1)).toNat]?).bind λe2=>(bP k e1 e2).bind λr3=>cond (decide (r3<0)) (cond (decide (0<=(i64.wrap (v.1-1))/\(i64.wrap (v.1-1))<(v.2.length:Int))) ((v.2[(i64.wrap (v.1-1)).toNat]?).bind λe4=>cond (decide (0<=v.1/\v.1<(v.2.length:Int))) ((v.2[v.1.toNat]?).bind λe5=>cond (decide (0<=v.1/\v.1<(v.2.length:Int))) (cond (decide (0<=(i64.wrap (v.1-1))/\(i64.wrap (v.1-1))<(v.2.length:Int))) (next (i64.wrap (v.1-1),(v.2.set v.1.toNat e4).set ((i64.wrap (v.1-1)).toNat) e5)) none) none) none) none) (x2 v.2)) none) none) (x2 v.2)
def bf {ρ:Type} (k:Nat) (p:Int× Int) (v:Int× List Wish) (next:(Int× List Wish)->Option ρ) (x0:(List Wish)->Option ρ):Option ρ:=
 cond (decide (v.1<p.2)) (iter (λu7 n7=>bd k (p.1,p.2,v.1) u7 n7 (λy6=>next (i64.wrap (v.1+1),y6))) k (v.1,v.2)) (x0 v.2)
def aT (k:Nat) (a0:List Wish) (a1:Int) (a2:Int):Option (List Wish):=
 iter (λu9 n9=>bf k (a1,a2) u9 n9 (λy8=>some y8)) k (i64.wrap (a1+1),a0)
def bq {ρ:Type} (k:Nat) (p:Int× Int× Int) (v:Int× List Wish) (next:(Int× List Wish)->Option ρ) (x0:(List Wish)->Option ρ):Option ρ:=
 cond (decide (v.1<p.2.2)) (cond (decide (0<=(i64.wrap (p.2.1+v.1))/\(i64.wrap (p.2.1+v.1))<(v.2.length:Int))) ((v.2[(i64.wrap (p.2.1+v.1)).toNat]?).bind λe1=>cond (decide (0<=(i64.wrap (p.1+v.1))/\(i64.wrap (p.1+v.1))<(v.2.length:Int))) ((v.2[(i64.wrap (p.1+v.1)).toNat]?).bind λe2=>cond (decide (0<=(i64.wrap (p.1+v.1))/\(i64.wrap (p.1+v.1))<(v.2.length:Int))) (cond (decide (0<=(i64.wrap (p.2.1+v.1))/\(i64.wrap (p.2.1+v.1))<(v.2.length:Int))) (next (i64.wrap (v.1+1),(v.2.set ((i64.wrap (p.1+v.1)).toNat) e1).set ((i64.wrap (p.2.1+v.1)).toNat) e2)) none) none) none) none) (x0 v.2)
def aR (k:Nat) (a0:List Wish) (a1:Int) (a2:Int) (a3:Int):Option (List Wish):=
 iter (λu4 n4=>bq k (a1,a2,a3) u4 n4 (λy3=>some y3)) k ((0:Int),a0)
def bI {ρ:Type} (k:Nat) (p:Int) (v:Int× Int× List Wish) (next:(Int× Int× List Wish)->Option ρ) (x0:(Int× List Wish)->Option ρ):Option ρ:=
 cond (v.1 !=v.2.1) (cond (decide (v.1>v.2.1)) ((aR k v.2.2 (i64.wrap (p-v.1)) p v.2.1).bind λr1=>next (i64.wrap (v.1-v.2.1),v.2.1,r1)) ((aR k v.2.2 (i64.wrap (p-v.1)) (i64.wrap ((i64.wrap (p+v.2.1))-v.1)) v.1).bind λr2=>next (v.1,i64.wrap (v.2.1-v.1),r2))) (x0 (v.1,v.2.2))
def bW (k:Nat) (a0:List Wish) (a1:Int) (a2:Int) (a3:Int):Option (List Wish):=
 iter (λu5 n5=>bI k a2 u5 n5 (λy3=>(aR k y3.2 (i64.wrap (a2-y3.1)) a2 y3.1).bind λr4=>some r4)) k (i64.wrap (a2-a1),i64.wrap (a3-a2),a0)
def aH {ρ:Type} (k:Nat) (p:Int× List Wish) (v:Int× Int) (next:(Int× Int)->Option ρ) (x0:Int->Option ρ):Option ρ:=
 cond (decide (v.1<v.2)) (cond (decide (0<=(i64.wrap ((u64.wrap (i64.wrap (v.1+v.2))).fdiv (2^(min (1:Int).toNat u64.bits))))/\(i64.wrap ((u64.wrap (i64.wrap (v.1+v.2))).fdiv (2^(min (1:Int).toNat u64.bits))))<(p.2.length:Int))) ((p.2[(i64.wrap ((u64.wrap (i64.wrap (v.1+v.2))).fdiv (2^(min (1:Int).toNat u64.bits)))).toNat]?).bind λe1=>cond (decide (0<=p.1/\p.1<(p.2.length:Int))) ((p.2[p.1.toNat]?).bind λe2=>(bP k e1 e2).bind λr3=>cond (decide (r3<0)) (next (i64.wrap ((i64.wrap ((u64.wrap (i64.wrap (v.1+v.2))).fdiv (2^(min (1:Int).toNat u64.bits))))+1),v.2)) (next (v.1,i64.wrap ((u64.wrap (i64.wrap (v.1+v.2))).fdiv (2^(min (1:Int).toNat u64.bits)))))) none) none) (x0 v.1)
def aI {ρ:Type} (k:Nat) (p:Int) (v:Int× List Wish) (next:(Int× List Wish)->Option ρ) (x2:(List Wish)->Option ρ):Option ρ:=
 cond (decide (v.1<(i64.wrap (p-1)))) (cond (decide (0<=(i64.wrap (v.1+1))/\(i64.wrap (v.1+1))<(v.2.length:Int))) ((v.2[(i64.wrap (v.1+1)).toNat]?).bind λe6=>cond (decide (0<=v.1/\v.1<(v.2.length:Int))) ((v.2[v.1.toNat]?).bind λe7=>cond (decide (0<=v.1/\v.1<(v.2.length:Int))) (cond (decide (0<=(i64.wrap (v.1+1))/\(i64.wrap (v.1+1))<(v.2.length:Int))) (next (i64.wrap (v.1+1),(v.2.set v.1.toNat e6).set ((i64.wrap (v.1+1)).toNat) e7)) none) none) none) none) (x2 v.2)
def aJ {ρ:Type} (k:Nat) (p:Int× List Wish) (v:Int× Int) (next:(Int× Int)->Option ρ) (x4:Int->Option ρ):Option ρ:=
 cond (decide (v.1<v.2)) (cond (decide (0<=p.1/\p.1<(p.2.length:Int))) ((p.2[p.1.toNat]?).bind λe11=>cond (decide (0<=(i64.wrap ((u64.wrap (i64.wrap (v.1+v.2))).fdiv (2^(min (1:Int).toNat u64.bits))))/\(i64.wrap ((u64.wrap (i64.wrap (v.1+v.2))).fdiv (2^(min (1:Int).toNat u64.bits))))<(p.2.length:Int))) ((p.2[(i64.wrap ((u64.wrap (i64.wrap (v.1+v.2))).fdiv (2^(min (1:Int).toNat u64.bits)))).toNat]?).bind λe12=>(bP k e11 e12).bind λr13=>cond (!(decide (r13<0))) (next (i64.wrap ((i64.wrap ((u64.wrap (i64.wrap (v.1+v.2))).fdiv (2^(min (1:Int).toNat u64.bits))))+1),v.2)) (next (v.1,i64.wrap ((u64.wrap (i64.wrap (v.1+v.2))).fdiv (2^(min (1:Int).toNat u64.bits)))))) none) none) (x4 v.1)
def aK {ρ:Type} (k:Nat) (p:Int) (v:Int× List Wish) (next:(Int× List Wish)->Option ρ) (x6:(List Wish)->Option ρ):Option ρ:=
 cond (decide (v.1>p)) (cond (decide (0<=(i64.wrap (v.1-1))/\(i64.wrap (v.1-1))<(v.2.length:Int))) ((v.2[(i64.wrap (v.1-1)).toNat]?).bind λe16=>cond (decide (0<=v.1/\v.1<(v.2.length:Int))) ((v.2[v.1.toNat]?).bind λe17=>cond (decide (0<=v.1/\v.1<(v.2.length:Int))) (cond (decide (0<=(i64.wrap (v.1-1))/\(i64.wrap (v.1-1))<(v.2.length:Int))) (next (i64.wrap (v.1-1),(v.2.set v.1.toNat e16).set ((i64.wrap (v.1-1)).toNat) e17)) none) none) none) none) (x6 v.2)
def aL {ρ:Type} (k:Nat) (p:Int× Int× Int× Int× Int× Int× List Wish) (v:Int× Int) (next:(Int× Int)->Option ρ) (x8:Int->Option ρ):Option ρ:=
 cond (decide (v.1<v.2)) (cond (decide (0<=(i64.wrap (p.2.2.2.2.2.1-(i64.wrap ((u64.wrap (i64.wrap (v.1+v.2))).fdiv (2^(min (1:Int).toNat u64.bits))))))/\(i64.wrap (p.2.2.2.2.2.1-(i64.wrap ((u64.wrap (i64.wrap (v.1+v.2))).fdiv (2^(min (1:Int).toNat u64.bits))))))<(p.2.2.2.2.2.2.length:Int))) ((p.2.2.2.2.2.2[(i64.wrap (p.2.2.2.2.2.1-(i64.wrap ((u64.wrap (i64.wrap (v.1+v.2))).fdiv (2^(min (1:Int).toNat u64.bits)))))).toNat]?).bind λe22=>cond (decide (0<=(i64.wrap ((u64.wrap (i64.wrap (v.1+v.2))).fdiv (2^(min (1:Int).toNat u64.bits))))/\(i64.wrap ((u64.wrap (i64.wrap (v.1+v.2))).fdiv (2^(min (1:Int).toNat u64.bits))))<(p.2.2.2.2.2.2.length:Int))) ((p.2.2.2.2.2.2[(i64.wrap ((u64.wrap (i64.wrap (v.1+v.2))).fdiv (2^(min (1:Int).toNat u64.bits)))).toNat]?).bind λe23=>(bP k e22 e23).bind λr24=>cond (!(decide (r24<0))) (next (i64.wrap ((i64.wrap ((u64.wrap (i64.wrap (v.1+v.2))).fdiv (2^(min (1:Int).toNat u64.bits))))+1),v.2)) (next (v.1,i64.wrap ((u64.wrap (i64.wrap (v.1+v.2))).fdiv (2^(min (1:Int).toNat u64.bits)))))) none) none) (x8 v.1)
def bB (k:Nat) (self:(List Wish)->Int->Int->Int->Option (List Wish)) (a0:List Wish) (a1:Int) (a2:Int) (a3:Int):Option (List Wish):=
 cond ((i64.wrap (a2-a1))==1) (iter (λu10 n10=>aH k (a1,a0) u10 n10 (λy5=>iter (λu9 n9=>aI k y5 u9 n9 (λy8=>some y8)) k (a1,a0))) k (a2,a3)) (cond ((i64.wrap (a3-a2))==1) (iter (λu20 n20=>aJ k (a2,a0) u20 n20 (λy15=>iter (λu19 n19=>aK k y15 u19 n19 (λy18=>some y18)) k (a2,a0))) k (a1,a2)) (bej (λ(j21:Int->Int->Option _)=>cond (decide (a2>(i64.wrap ((u64.wrap (i64.wrap (a1+a3))).fdiv (2^(min (1:Int).toNat u64.bits)))))) ((j21 (i64.wrap ((i64.wrap ((i64.wrap ((u64.wrap (i64.wrap (a1+a3))).fdiv (2^(min (1:Int).toNat u64.bits))))+a2))-a3)) (i64.wrap ((u64.wrap (i64.wrap (a1+a3))).fdiv (2^(min (1:Int).toNat u64.bits)))))) ((j21 a1 a2))) (λ(j21_5:Int) (j21_6:Int)=>iter (λu41 n41=>aL k (a1,a2,a3,i64.wrap ((u64.wrap (i64.wrap (a1+a3))).fdiv (2^(min (1:Int).toNat u64.bits))),i64.wrap ((i64.wrap ((u64.wrap (i64.wrap (a1+a3))).fdiv (2^(min (1:Int).toNat u64.bits))))+a2),i64.wrap ((i64.wrap ((i64.wrap ((u64.wrap (i64.wrap (a1+a3))).fdiv (2^(min (1:Int).toNat u64.bits))))+a2))-1),a0) u41 n41 (λy26=>cond (decide (y26<a2)) (bej (λ(j28:(List Wish)->Option _)=>cond (decide (a2<(i64.wrap ((i64.wrap ((i64.wrap ((u64.wrap (i64.wrap (a1+a3))).fdiv (2^(min (1:Int).toNat u64.bits))))+a2))-y26)))) ((bW k a0 y26 a2 (i64.wrap ((i64.wrap ((i64.wrap ((u64.wrap (i64.wrap (a1+a3))).fdiv (2^(min (1:Int).toNat u64.bits))))+a2))-y26))).bind λr27=>(j28 r27)) ((j28 a0))) (λ(j28_5:List Wish)=>cond (decide (a1<y26)) (bej (λ(j30:(List Wish)->Option _)=>cond (decide (y26<(i64.wrap ((u64.wrap (i64.wrap (a1+a3))).fdiv (2^(min (1:Int).toNat u64.bits)))))) ((self j28_5 a1 y26 (i64.wrap ((u64.wrap (i64.wrap (a1+a3))).fdiv (2^(min (1:Int).toNat u64.bits))))).bind λr29=>(j30 r29)) ((j30 j28_5))) (λ(j30_3:List Wish)=>cond (decide ((i64.wrap ((u64.wrap (i64.wrap (a1+a3))).fdiv (2^(min (1:Int).toNat u64.bits))))<(i64.wrap ((i64.wrap ((i64.wrap ((u64.wrap (i64.wrap (a1+a3))).fdiv (2^(min (1:Int).toNat u64.bits))))+a2))-y26)))) (cond (decide ((i64.wrap ((i64.wrap ((i64.wrap ((u64.wrap (i64.wrap (a1+a3))).fdiv (2^(min (1:Int).toNat u64.bits))))+a2))-y26))<a3)) ((self j30_3 (i64.wrap ((u64.wrap (i64.wrap (a1+a3))).fdiv (2^(min (1:Int).toNat u64.bits)))) (i64.wrap ((i64.wrap ((i64.wrap ((u64.wrap (i64.wrap (a1+a3))).fdiv (2^(min (1:Int).toNat u64.bits))))+a2))-y26)) a3).bind λr31=>some r31) (some j30_3)) (some j30_3))) (cond (decide ((i64.wrap ((u64.wrap (i64.wrap (a1+a3))).fdiv (2^(min (1:Int).toNat u64.bits))))<(i64.wrap ((i64.wrap ((i64.wrap ((u64.wrap (i64.wrap (a1+a3))).fdiv (2^(min (1:Int).toNat u64.bits))))+a2))-y26)))) (cond (decide ((i64.wrap ((i64.wrap ((i64.wrap ((u64.wrap (i64.wrap (a1+a3))).fdiv (2^(min (1:Int).toNat u64.bits))))+a2))-y26))<a3)) ((self j28_5 (i64.wrap ((u64.wrap (i64.wrap (a1+a3))).fdiv (2^(min (1:Int).toNat u64.bits)))) (i64.wrap ((i64.wrap ((i64.wrap ((u64.wrap (i64.wrap (a1+a3))).fdiv (2^(min (1:Int).toNat u64.bits))))+a2))-y26)) a3).bind λr33=>some r33) (some j28_5)) (some j28_5)))) (cond (decide (a1<y26)) (bej (λ(j36:(List Wish)->Option _)=>cond (decide (y26<(i64.wrap ((u64.wrap (i64.wrap (a1+a3))).fdiv (2^(min (1:Int).toNat u64.bits)))))) ((self a0 a1 y26 (i64.wrap ((u64.wrap (i64.wrap (a1+a3))).fdiv (2^(min (1:Int).toNat u64.bits))))).bind λr35=>(j36 r35)) ((j36 a0))) (λ(j36_3:List Wish)=>cond (decide ((i64.wrap ((u64.wrap (i64.wrap (a1+a3))).fdiv (2^(min (1:Int).toNat u64.bits))))<(i64.wrap ((i64.wrap ((i64.wrap ((u64.wrap (i64.wrap (a1+a3))).fdiv (2^(min (1:Int).toNat u64.bits))))+a2))-y26)))) (cond (decide ((i64.wrap ((i64.wrap ((i64.wrap ((u64.wrap (i64.wrap (a1+a3))).fdiv (2^(min (1:Int).toNat u64.bits))))+a2))-y26))<a3)) ((self j36_3 (i64.wrap ((u64.wrap (i64.wrap (a1+a3))).fdiv (2^(min (1:Int).toNat u64.bits)))) (i64.wrap ((i64.wrap ((i64.wrap ((u64.wrap (i64.wrap (a1+a3))).fdiv (2^(min (1:Int).toNat u64.bits))))+a2))-y26)) a3).bind λr37=>some r37) (some j36_3)) (some j36_3))) (cond (decide ((i64.wrap ((u64.wrap (i64.wrap (a1+a3))).fdiv (2^(min (1:Int).toNat u64.bits))))<(i64.wrap ((i64.wrap ((i64.wrap ((u64.wrap (i64.wrap (a1+a3))).fdiv (2^(min (1:Int).toNat u64.bits))))+a2))-y26)))) (cond (decide ((i64.wrap ((i64.wrap ((i64.wrap ((u64.wrap (i64.wrap (a1+a3))).fdiv (2^(min (1:Int).toNat u64.bits))))+a2))-y26))<a3)) ((self a0 (i64.wrap ((u64.wrap (i64.wrap (a1+a3))).fdiv (2^(min (1:Int).toNat u64.bits)))) (i64.wrap ((i64.wrap ((i64.wrap ((u64.wrap (i64.wrap (a1+a3))).fdiv (2^(min (1:Int).toNat u64.bits))))+a2))-y26)) a3).bind λr39=>some r39) (some a0)) (some a0))))) k (j21_5,j21_6))))
def aG:Nat->(List Wish)->Int->Int->Int->Option (List Wish)
 |0=>λ_ _ _ _=>none
 |k+1=>bB k (aG k)
def bJ {ρ:Type} (k:Nat) (p:Int× Int) (v:Int× Int× List Wish) (next:(Int× Int× List Wish)->Option ρ) (x0:(Int× List Wish)->Option ρ):Option ρ:=
 cond (decide (v.2.1<=p.1)) ((aT k v.2.2 v.1 v.2.1).bind λr1=>next (v.2.1,i64.wrap (v.2.1+p.2),r1)) (x0 (v.1,v.2.2))
def bK {ρ:Type} (k:Nat) (p:Int× Int) (v:Int× Int× List Wish) (next:(Int× Int× List Wish)->Option ρ) (x4:(Int× List Wish)->Option ρ):Option ρ:=
 cond (decide (v.2.1<=p.1)) ((aG k v.2.2 v.1 (i64.wrap (v.1+p.2)) v.2.1).bind λr4=>next (v.2.1,i64.wrap (v.2.1+(i64.wrap ((2:Int)*p.2))),r4)) (x4 (v.1,v.2.2))
def bL {ρ:Type} (k:Nat) (p:Int) (v:Int× List Wish) (next:(Int× List Wish)->Option ρ) (x2:(List Wish)->Option ρ):Option ρ:=
 cond (decide (v.1<p)) (iter (λu7 n7=>bK k (p,v.1) u7 n7 (λy5=>cond (decide ((i64.wrap (y5.1+v.1))<p)) ((aG k y5.2 y5.1 (i64.wrap (y5.1+v.1)) p).bind λr6=>next (i64.wrap (v.1*2),r6)) (next (i64.wrap (v.1*2),y5.2)))) k ((0:Int),i64.wrap ((2:Int)*v.1),v.2)) (x2 v.2)
def bX (k:Nat) (a0:List Wish) (a1:Int):Option (List Wish):=
 iter (λu10 n10=>bJ k (a1,(20:Int)) u10 n10 (λy2=>(aT k y2.2 y2.1 a1).bind λr3=>iter (λu9 n9=>bL k a1 u9 n9 (λy8=>some y8)) k ((20:Int),r3))) k ((0:Int),(20:Int),a0)
def aE (k:Nat) (a0:List Wish):Option (List Wish):=
 (bX k a0 (a0.length:Int)).bind λr1=>some r1
def cN {ρ:Type} (k:Nat) (p:Int× Int× Int× Int× Int× List (List Int)× List Int× Int× Int× Int× List Wish) (v:Int) (next:Int->Option ρ) (x2:Int->Option ρ):Option ρ:=
 cond (decide (v<p.2.2.2.2.1)) (cond (decide (0<=v/\v<(p.2.2.2.2.2.2.1.length:Int))) ((p.2.2.2.2.2.2.1[v.toNat]?).bind λe6=>cond (e6==p.2.2.2.2.2.2.2.2.1) (cond (decide (0<=v/\v<(p.2.2.2.2.2.1.length:Int))) ((p.2.2.2.2.2.1[v.toNat]?).bind λe7=>cond (decide ((e7.length:Int)<p.1)) (x2 v) (next (i64.wrap (v+1)))) none) (next (i64.wrap (v+1)))) none) (x2 p.2.1)
def b6 {ρ:Type} (k:Nat) (p:Int× Int× List Wish) (v:Int× List (List Int)× List Int) (next:(Int× List (List Int)× List Int)->Option ρ) (x0:(List (List Int))->Option ρ):Option ρ:=
 cond (decide (v.1<p.2.1)) (cond (decide (0<=v.1/\v.1<(p.2.2.length:Int))) ((p.2.2[v.1.toNat]?).bind λe5=>iter (λu13 n13=>cN k (p.1,(-1:Int),p.2.1,v.1,(v.2.2.length:Int),v.2.1,v.2.2,e5.id,e5.model,e5.due,p.2.2) u13 n13 (λy8=>cond (decide (y8<0)) (cond (Nat.ble (v.2.1.length+1) fc) (cond (Nat.ble (v.2.2.length+[e5.model].length) fc) (cond (decide (0<=(v.2.1.length:Int)/\(v.2.1.length:Int)<((v.2.1++[([]:List Int)]).length:Int))) (((v.2.1++[([]:List Int)])[(v.2.1.length:Int).toNat]?).bind λe9=>cond (Nat.ble (e9.length+[e5.id].length) fc) (cond (decide (0<=(v.2.1.length:Int)/\(v.2.1.length:Int)<((jP (v.2.1++[([]:List Int)]) ((v.2.1.length:Int).toNat)).length:Int))) ((gT ((jP (v.2.1++[([]:List Int)]) ((v.2.1.length:Int).toNat)).set ((v.2.1.length:Int).toNat) (some (e9++[e5.id])))).bind λz10=>next (i64.wrap (v.1+1),z10,v.2.2++[e5.model])) none) none) none) none) none) (cond (decide (0<=y8/\y8<(v.2.1.length:Int))) ((v.2.1[y8.toNat]?).bind λe11=>cond (Nat.ble (e11.length+[e5.id].length) fc) (cond (decide (0<=y8/\y8<((jP v.2.1 y8.toNat).length:Int))) ((gT ((jP v.2.1 y8.toNat).set y8.toNat (some (e11++[e5.id])))).bind λz12=>next (i64.wrap (v.1+1),z12,v.2.2)) none) none) none))) k (0:Int)) none) (x0 v.2.1)
def dL (k:Nat) (a0:List Wish) (a1:Int):Option (List (List Int)× Bool):=
 (Df k a1 (1:Int) (8:Int)).bind λr1=>cond (!r1) (some (([]:List (List Int)),false)) ((I_areWishes k a0).bind λr2=>cond (!r2) (some (([]:List (List Int)),false)) ((bH k a0).bind λr3=>(aE k r3).bind λr4=>iter (λu15 n15=>b6 k (a1,(r4.length:Int),r4) u15 n15 (λy14=>some (y14,true))) k ((0:Int),([]:List (List Int)),([]:List Int))))
def l5 (k:Nat) (a0:Wish) (a1:Wish):Option (Bool):=
 cond (a0.id !=a1.id) (some false) (cond (a0.model !=a1.model) (some false) (cond (a0.due !=a1.due) (some false) (some true)))
def eu {ρ:Type} (k:Nat) (p:List Wish× List Wish) (v:Int) (next:Int->Option ρ) (x0:Unit->Option ρ) (uD:Bool->Option ρ):Option ρ:=
 cond (decide (v<(p.1.length:Int))) ((idx p.1 v).bind λe1=>(idx p.2 v).bind λe2=>(l5 k e1 e2).bind λr3=>cond (!r3) (uD false) (next (i64.wrap (v+1)))) (x0 ())
def kv (k:Nat) (a0:List Wish) (a1:List Wish):Option (Bool):=
 cond ((a0.length:Int) !=(a1.length:Int)) (some false) (iter (λu6 n6=>eu k (a0,a1) u6 n6 (λy4=>some true) (λy5=>some y5)) k (0:Int))
def cF {ρ:Type} (k:Nat) (p:Unit) (v:Int× Int× List Wish) (next:(Int× Int× List Wish)->Option ρ) (x0:(Int× List Wish)->Option ρ):Option ρ:=
 cond (decide (v.2.1<(v.2.2.length:Int))) (cond (decide (0<=v.2.1/\v.2.1<(v.2.2.length:Int))) ((v.2.2[v.2.1.toNat]?).bind λe1=>cond (decide (0<=v.2.1/\v.2.1<((v.2.2.set v.2.1.toNat (⟨v.1,e1.model,e1.due⟩:Wish)).length:Int))) (((v.2.2.set v.2.1.toNat (⟨v.1,e1.model,e1.due⟩:Wish))[v.2.1.toNat]?).bind λe2=>cond (decide (0<=v.2.1/\v.2.1<(((v.2.2.set v.2.1.toNat (⟨v.1,e1.model,e1.due⟩:Wish)).set v.2.1.toNat (⟨e2.id,(i64.wrap (v.1+1)),e2.due⟩:Wish)).length:Int))) ((((v.2.2.set v.2.1.toNat (⟨v.1,e1.model,e1.due⟩:Wish)).set v.2.1.toNat (⟨e2.id,(i64.wrap (v.1+1)),e2.due⟩:Wish))[v.2.1.toNat]?).bind λe3=>next (i64.wrap ((i64.wrap ((i64.wrap (v.1+1))+1))+1),i64.wrap (v.2.1+1),((v.2.2.set v.2.1.toNat (⟨v.1,e1.model,e1.due⟩:Wish)).set v.2.1.toNat (⟨e2.id,(i64.wrap (v.1+1)),e2.due⟩:Wish)).set v.2.1.toNat (⟨e3.id,e3.model,(i64.wrap ((i64.wrap (v.1+1))+1))⟩:Wish))) none) none) none) (x0 (v.1,v.2.2))
def fK (k:Nat) (a0:List Wish) (a1:Int):Option (Int× List Wish):=
 iter (λu5 n5=>cF k () u5 n5 (λy4=>some (y4.1,y4.2))) k (a1,(0:Int),a0)
def di {ρ:Type} (k:Nat) (p:List (List Int)) (v:Int× Int) (next:(Int× Int)->Option ρ) (x0:Int->Option ρ) (uD:Int->Option ρ):Option ρ:=
 cond (decide (v.2<(p.length:Int))) ((idx p v.2).bind λe1=>(ln k e1 v.1).bind λr2=>cond (decide (r2<0)) (uD (-1:Int)) (next (r2,i64.wrap (v.2+1)))) (x0 v.1)
def gN (k:Nat) (a0:List (List Int)) (a1:Int):Option (Int):=
 iter (λu5 n5=>di k a0 u5 n5 (λy3=>some y3) (λy4=>some y4)) k (a1,(0:Int))
def ca (k:Nat) (a0:List Wish) (a1:Int):Option (Bool):=
 (kt k a0 (1048576:Int)).bind λr1=>cond (decide (r1<0)) (some true) ((fb k a0).bind λr2=>(eF k r2 a1).bind λr3=>(fb k a0).bind λr4=>(dL k r4 a1).bind λr5=>(gd k r5.1 r3.1).bind λr6=>cond (!r6) (some false) (cond (!(r5.2==r3.2)) (some false) ((fb k a0).bind λr7=>(kv k r4 r7).bind λr8=>cond (!r8) (some false) ((fK k r4 (1:Int)).bind λr9=>cond (decide (r9.1<0)) (some false) ((gd k r5.1 r3.1).bind λr10=>cond (!r10) (some false) (cond (!(r5.2==r3.2)) (some false) ((fJ k r5.1 (1:Int)).bind λr11=>(gN k r11.2 (1:Int)).bind λr12=>cond (decide (r12<0)) (some false) (cond (r12 !=r11.1) (some false) ((fb k a0).bind λr13=>(dL k r13 a1).bind λr14=>(gd k r14.1 r3.1).bind λr15=>cond (!r15) (some false) (cond (!(r14.2==r3.2)) (some false) ((gN k r11.2 (1:Int)).bind λr16=>cond (decide (r16<0)) (some false) (cond (r16 !=r11.1) (some false) (some true)))))))))))))
end
end
set_option maxRecDepth 100000
section
noncomputable section
end
end
set_option maxRecDepth 100000
section
noncomputable section
end
end
set_option maxRecDepth 100000
section
noncomputable section
end
end
set_option maxRecDepth 100000
set_option maxHeartbeats 4000000
section
noncomputable section
end
end
set_option maxRecDepth 100000
section
noncomputable section
end
end
set_option maxRecDepth 100000
set_option maxHeartbeats 4000000
section
noncomputable section
end
end
set_option maxRecDepth 100000
set_option maxHeartbeats 4000000
section
noncomputable section
end
end
set_option maxRecDepth 100000
set_option maxHeartbeats 4000000
section
noncomputable section
end
end
set_option maxRecDepth 100000
set_option maxHeartbeats 4000000
section
noncomputable section
end
end
set_option maxRecDepth 100000
set_option maxHeartbeats 4000000
section
noncomputable section
end
end
set_option maxRecDepth 100000
set_option maxHeartbeats 4000000
section
open Go Go.RowKit Go.Maps
noncomputable section
variable [Tok]
theorem inW_calls (x a b:Int) (w:World):Calls Try.prog 51 #[.int .i64 x,.int .i64 a,.int .i64 b] w λe w'=>e=.returned (.bool (decide (a<=x)&&decide (x<=b)))/\w'=w:=by
 go_enter Try.func51,Try.ntmps51
 go_wp2
 all_goals go_ret
 all_goals (simp_all;try omega)
theorem isTickW_calls (x:Int) (w:World):Calls Try.prog 75 #[.int .i64 x] w λe w'=>e=.returned (.bool (decide (0<=x)&&decide (x<=1000000)))/\w'=w:=by
 go_enter Try.func75,Try.ntmps75
 go_wp2_with (go_at_call 51;refine(inW_calls x 0 1000000 w).mono ?_;rintro e w' ⟨rfl,rfl⟩)
 go_ret
 exact⟨rfl,rfl⟩
def idsW (l:List Wish) (k:Nat):List Int:=(l.take k).map Wish.id
def SwW {H:Type} (l:List Wish) (k:Nat):DataW H:=setOf (.lit (.bool true)) ((idsW l k).map (Lit.int .i64))
theorem idsW_succ {l:List Wish} {k:Nat} {x:Wish} (hk:l[k]? =some x):idsW l (k+1)=idsW l k++[x.id]:=by
 unfold idsW;rw[List.take_add_one,F2,hk];rfl
theorem SwW_succ {H:Type} {l:List Wish} {k:Nat} {x:Wish} (hk:l[k]? =some x):SwW (H:=H) l (k+1)=(SwW l k).put (.int .i64 x.id) (.lit (.bool true)):=by
 unfold SwW;rw[idsW_succ hk,F2,List.map_singleton,setOf_snoc]
theorem map_setW {H:Type} (u:DataW H):∀(ks:List Lit) (D:DataW H),IsMap D->IsMap (ks.foldl (λm x=>m.put x u) D)
 |[],D,h=>h
 |x::ks,D,h=>map_setW u ks _ (by obtain⟨es,rfl⟩:=h;exact⟨_,rfl⟩)
theorem at_setW {H:Type} (ks:List Int) (x:Int):(setOf (.lit (.bool true)) (ks.map (Lit.int .i64)):DataW H).atKey (.int .i64 x) (.lit (.bool false))=.lit (.bool (ks.contains x)):=by
 rw[<-List.reverse_reverse ks]
 induction ks.reverse with
 |nil=>simp[setOf,DataW.atKey]
 |cons y r ih=>
  rw[List.reverse_cons,F2,List.map_singleton,setOf_snoc];by_cases e:x=y
  ·subst e;rw[atKey_put_same (k:=.int .i64 x) (show IsMap (setOf (.lit (.bool true)) (r.reverse.map (Lit.int .i64)):DataW H)from map_setW _ _ _ ⟨[],rfl⟩) trivial];simp
  ·rw[atKey_put_other (by intro h;cases h;exact e rfl),ih];simp[e]
theorem areW (b off cap:Nat) (l:List Wish) (w:World) (hb:l≠[]->b<w.heap.size) (hm:l.length<=2000000)
  (hc:∀k x,l[k]? =some x->w.cell? ⟨b,off+k*3,none⟩=some (.int .i64 x.id)/\w.cell? ⟨b,off+(k*3+1),none⟩=some (.int .i64 x.model)/\w.cell? ⟨b,off+(k*3+2),none⟩=some (.int .i64 x.due))
  (hw:∀x∈l,(Lit.int .i64 x.id).wf=true):
  Calls Try.prog 52 #[.slice (some ⟨b,off,none⟩) l.length cap] w λe w'=>e=.returned (.bool (areB [] l&&decide (l.length<=300)))/\Below w.heap.size w w':=by
 have hmm:=@run_makeMap Try.prog
 go_enter Try.func52,Try.ntmps52
 go_wp2
 go_loopw [9] (λi wr=>∃k:Nat,k<=l.length/\i=.int .i64 k/\areB [] l=areB (idsW l k) (l.drop k)/\wr.ownsMap Try.prog 3 (plainElem Try.prog 4) w.heap.size k (SwW (H:=Unit) l k)/\Below w.heap.size w wr)
  (λi _=>l.length-(intOf i).toNat)
 case atStart=>exact⟨0,E9 _,rfl,rfl,by simpa[SwW,idsW,setOf]using World.ownsMap_made _ _ _ _,(Below.refl _ _).alloc (EX _) _⟩
 case round=>
  obtain⟨k,hk,rfl,hs,hown,hnx⟩:=hrel
  have hc1:∀x,l[k]? =some x->wr.cell? ⟨b,off+k*3,none⟩=some (.int .i64 x.id)/\wr.cell? ⟨b,off+k*3+1,none⟩=some (.int .i64 x.model)/\wr.cell? ⟨b,off+k*3+2,none⟩=some (.int .i64 x.due):=λx hx=>by
   have hb:=hb (by rintro rfl;simp at hx);obtain⟨h1,h2,h3⟩:=hc k x hx;exact⟨(hnx.cell (by exact hb)).trans h1,(hnx.cell (by exact hb)).trans h2,(hnx.cell (by exact hb)).trans h3⟩
  by_cases hlt:k<l.length
  ·obtain⟨x,hx⟩:∃x,l[k]? =some x:=⟨l[k],EE hlt⟩;obtain⟨c1,c2,c3⟩:=hc1 x hx;clear hc1 hc hb
   have hlk:∀o:Obj,(Instr.lookup 95 (.map (some w.heap.size)) (.int .i64 x.id) false).run Try.prog (wr.alloc o)=.ok (.bool ((idsW l k).contains x.id)) (wr.alloc o):=λo=>by
    obtain⟨v,ps,hrun,hv⟩:=(hown.alloc o).lookup (int_keyed Try.underlying3) Try.underlying95 (Try.zeroValue4 _) (plainElem_bool Try.underlying4 false) (keyOf_int_mk Try.underlying3 (hw x (EP hx)));obtain⟨c,rfl,hc⟩:=plainElem_bool_inv Try.underlying4 hv;simp only[ER]at hc;rw[SwW,at_setW]at hc;have hc:=hc.1;simp only[DataW.lit.injEq,Lit.bool.injEq]at hc;rw[hrun,hc]
   have hdr:l.drop k=x::l.drop (k+1):=by
    rw[FG hlt,Fy ((EE hlt).symm.trans hx)]
   rw[hdr,areB]at hs
   have hT:(x.id<1\/x.model<0\/¬(0<=x.due/\x.due<=1000000)\/x.id∈idsW l k)->areB [] l=false:=λh=>by
    have:(decide (x.id<1)||decide (x.model<0)||!(decide (0<=x.due)&&decide (x.due<=1000000))||(idsW l k).contains x.id)=true:=by grind
    rw[hs,this];rfl
   have hF:¬(x.id<1\/x.model<0\/¬(0<=x.due/\x.due<=1000000)\/x.id∈idsW l k)->areB [] l=areB (idsW l (k+1)) (l.drop (k+1)):=λh=>by
    have:(decide (x.id<1)||decide (x.model<0)||!(decide (0<=x.due)&&decide (x.due<=1000000))||(idsW l k).contains x.id)=false:=by grind
    rw[hs,this,idsW_succ hx];rfl
   clear hs
   have hown':=hown.alloc (.cells #[.int .i64 x.id,.int .i64 x.model,.int .i64 x.due] 73)
   go_wp2_with (first
    |(go_at_call 75;refine(isTickW_calls _ _).mono ?_;rintro e w' ⟨rfl,rfl⟩)
    |(at_mapUpdate;refine wpList_mapUpdate_own _ rfl _ _ _ 95 rfl 3 4 (int_keyed Try.underlying3) Try.underlying95 (plainElem (H:=Unit) Try.prog 4) w.heap.size k _ rfl hown' (by unfold maxLen;omega) _ _ _ rfl rfl (keyOf_int_mk Try.underlying3 (hw x (EP hx))) _ [] (plainElem_bool Try.underlying4 true) ?_;intro w1 hown1 hgrow1))
   ·go_ret
    refine⟨?_,hnx.alloc hnx.size _⟩;show Ending.returned (.bool false)=_;have hq:=‹(x.id<1\/x.model<0)\/x.id∈idsW l k›;rw[hT (hq.elim (λh=>h.elim .inl λh=>.inr (.inl h)) λh=>.inr (.inr (.inr h)))];rfl
   ·have hb1:=(hnx.alloc hnx.size (.cells #[.int .i64 x.id,.int .i64 x.model,.int .i64 x.due] 73))
    obtain⟨⟨q1,q2⟩,q3⟩:=‹(1<=x.id/\0<=x.model)/\¬x.id∈idsW l k›;have q4:=‹0<=x.due/\x.due<=1000000›;refine⟨⟨k+1,by omega,by simp,hF ?_,(SwW_succ hx).symm▸hown1,hb1.grown hgrow1 hb1.size (λj hj=>by cases hj;exact EX _)⟩,by simp[intOf];omega⟩
    rintro (h|h|h|h)
    ·omega
    ·omega
    ·exact h q4
    ·exact q3 h
   ·go_ret
    refine⟨?_,hnx.alloc hnx.size _⟩;show Ending.returned (.bool false)=_;rw[hT (.inr (.inr (.inl ‹_›)))];rfl
   all_goals (go_ret;refine⟨?_,hnx.alloc hnx.size _⟩;show Ending.returned (.bool false)=_;first|rfl|(rw[hT (by omega)];rfl))
  ·clear hc1 hc hb
   go_wp2
   go_ret
   have e:k=l.length:=by omega
   subst e;rw[FT,areB]at hs;rw[hs];refine⟨?_,hnx⟩;show Ending.returned (.bool (decide ((l.length:Int)<=300)))=_;rw[Bool.true_and]
   congr 2
   exact decide_eq_decide.2 (by omega)
theorem areW0 (a:Option Addr) (cap:Nat) (w:World):Calls Try.prog 52 #[.slice a 0 cap] w λe w'=>e=.returned (.bool true)/\Below w.heap.size w w':=by
 have hmm:=@run_makeMap Try.prog
 go_enter Try.func52,Try.ntmps52
 go_wp2
 refine wp_loop_rounds 1 ?_;rw[rounds_succ]
 go_wp2
 go_ret
 exact⟨rfl,(Below.refl _ _).alloc (EX _) _⟩
theorem I_areWishes_some {k:Nat} {l:List Wish} {b:Bool} (h:I_areWishes k l=some b):l.length<=2000000/\(∀x∈l,(Lit.int .i64 x.id).wf=true)/\b=(areB [] l&&decide (l.length<=300)):=by
 unfold I_areWishes at h
 cases hc:(decide (l.length<=2000000)&&l.all λx=>(Lit.int .i64 x.id).wf)with
 |false=>rw[hc]at h;exact nomatch h
 |true=>
  rw[hc]at h;cases h;rw[EG,decide_eq_true_eq,List.all_eq_true]at hc;exact⟨hc.1,hc.2,rfl⟩
def o_I_areWishes (k:Nat):O Try.prog 52:=okH [.one (.sl (.st .wish))] [] (cdL (.st .wish)) ⟨.h 0,[]⟩ cdB (I_areWishes k) λ(l:List Wish) b h=>by
 refine pure_below (enters_of Try.func52 (by kernel_rfl) (by kernel_rfl)) λw us ok hl hr=>?_;obtain⟨hm,hw,rfl⟩:=I_areWishes_some h
 obtain⟨u,rfl⟩:∃u,us=#[u]:=by
  have:us.size=1:=hl.symm;exact⟨us[0],by ext i h1 h2<;>grind⟩
 have h0:RepR w ok (.sl (.st .wish) l) u:=hr 0 _ u rfl rfl
 cases h0 with
 |sl t xs a cap b o vs hcap ha hcc hrr=>
  have cell:∀k x,l[k]? =some x->w.cell? ⟨b,o+k*3,none⟩=some (.int .i64 x.id)/\w.cell? ⟨b,o+(k*3+1),none⟩=some (.int .i64 x.model)/\w.cell? ⟨b,o+(k*3+2),none⟩=some (.int .i64 x.due):=λk x hx=>by
   have g:∀j r,((Ty.st S.wish).cells x)[j]? =some r->w.at? (b,o+(k*3+j))=some (vs k j)/\RepR w ok r (vs k j):=λj r hj=>⟨(hcc k j r ⟨x,hx,hj⟩).2,hrr k j r ⟨x,hx,hj⟩⟩;obtain⟨a0,b0⟩:=g 0 _ rfl;obtain⟨a1,b1⟩:=g 1 _ rfl;obtain⟨a2,b2⟩:=g 2 _ rfl;generalize vs k 0=v0 at a0 b0;generalize vs k 1=v1 at a1 b1;generalize vs k 2=v2 at a2 b2;cases b0;cases b1;cases b2;exact⟨a0,a1,a2⟩
  rcases ha with rfl|rfl
  ·exact areW0 a cap w
  ·exact areW b o cap l w (λhne=>by
    obtain⟨x,l',rfl⟩:∃x l',l=x::l':=by cases l with|nil=>exact absurd rfl hne|cons x l'=>exact⟨x,l',rfl⟩
    have:=(cell 0 x rfl).1;unfold World.cell? at this
    cases hb:w.heap[b]? with
    |none=>simp[hb]at this
    |some o=>exact(ES.1 hb).1) hm cell hw
end
end
section
theorem BG (a b:Nat):((a:Int) !=(b:Int))=decide (a≠b):=by
 rw[BB];congr 1;rw[eq_iff_iff];omega
theorem yC {R:Type} {xs ys:List Int} {i:Nat} (hi:i<xs.length) (hi':i<ys.length) (hx:xs.length<=AD) (next:Int->Option R) (no yes:Option R):
  (cond (decide ((i:Int)<(xs.length:Int))) ((idx xs i).bind λe1=>(idx ys i).bind λe2=>cond (e1 !=e2) no (next (i64.wrap ((i:Int)+(1:Int))))) yes)=if xs[i]=ys[i]then next ((i+1:Nat):Int)else no:=by
 unfold AD at hx;rw[bn,if_pos (by omega),dn,dn,bE hi,bE hi',ET,ET,gJ hi (by omega)];rw[fx]
theorem BH {R:Type} {xs:List Int} (a:Option R) (yes:Option R):(cond (decide ((xs.length:Int)<(xs.length:Int))) a yes)=yes:=by
 rw[bn,if_neg (by omega)]
theorem BI {xs ys:List Int} {r:Option Bool} (h:xs.length=ys.length->r=if xs=ys then some true else some false):(cond ((xs.length:Int) !=(ys.length:Int)) (some false) r)=some (decide (xs=ys)):=by
 rw[BG,bn];by_cases c:xs.length=ys.length
 ·rw[if_neg (by simp[c]),h c];split<;>simp[*]
 ·rw[if_pos c,decide_eq_false (λe=>c (by rw[e]))]
theorem tu {k:Nat} {xs ys:List Int} (hk:xs.length<k) (hx:xs.length<=AD):kq k xs ys=some (decide (xs=ys)):=
 BI λc=>rm xs ys c (λi hi hi' next=>yC hi hi' hx next _ _) (λnext=>BH _ _) hk
end
section
def marked (m:Int) (n:Nat):List Int:=(List.range n).map λ(i:Nat)=>m+(i:Int)
@[simp] theorem Ab (m:Int) (n:Nat):(marked m n).length=n:=by simp[marked]
def inB (x a b:Int):Bool:=decide (a<=x/\x<=b)
theorem oF (k:Nat) (x a b:Int):mY k x a b=some (inB x a b):=by
 unfold mY inB;rw[bn];by_cases h:a<=x<;>simp[h]
theorem BJ (k:Nat) (x a b:Int):Df k x a b=some (inB x a b):=by
 unfold Df inB;rw[bn];by_cases h:a<=x<;>simp[h]
def Shape.okB (s:Shape):Bool:=inB s.h 1 8&&(inB s.w 1 8&&inB s.c 1 8)
def Shape.size (s:Shape):Int:=cond s.okB (s.h*s.w*s.c) 0
def AE (xs:List Int):Bool:=xs.all λx=>inB x (-128) 127
def eM.okB (t:eM):Bool:=t.sh.okB&&(decide ((t.data.length:Int)=t.sh.size)&&AE t.data)
theorem jl {a b:Nat} {α:Type} {x y:α} (h:a<=b):cond (Nat.ble a b) x y=x:=by rw[Fw h];rfl
theorem yD {ρ:Type} (x:Option ρ):both x x=x:=by unfold both;simp
end
section
theorem vJ {k:Nat} {xs ys:List Int} (hk:xs.length<k) (hN:xs.length<=fc):kq k xs ys=some (decide (xs=ys)):=tu hk (by unfold AD;rw[dp]at hN;omega)
theorem m7 {k:Nat} {xs:List Int} {m:Int} (hk:xs.length<k) (hN:xs.length<=fc) (h0:0<=m) (hB:m+16*xs.length<=pR):
    ∃r ys,gK k xs m=some (r,ys)/\m<=r/\r<=m+16*xs.length/\ys.length=xs.length/\ln k ys m=some r:=by
  have ht:ll (λ_=>0) xs=xs.length:=rp xs;rw[dp]at hN;unfold pR at hB
  obtain⟨r,out,a1,a2,a3,a4,a5⟩:=mX (t:=λ_:Int=>0) (N:=xs.length) (g:=λu next=>cK k () u next (λy=>some (y.1,y.2))) (fin:=λy=>some (y.1,y.2)) (hd:=λys u next=>dI k ys u next (λy=>some y) (λy=>some y))
    (λm ys next hl=>by simp only[cK,bn];rw[if_neg (by omega)]) (λys m next hl=>by simp only[dI,bn];rw[if_neg (by omega)]) xs [] m k (by simp) hk h0 (by rw[ht];unfold pR;omega)
    (λx hm m h0 hB=>by
      unfold pR at hB;refine⟨m+1,m,by omega,by omega,λi ys next hl hi hx=>?_,λi ys next hl hi hy=>?_⟩
      · simp(disch:=omega)only[cK,bn,if_pos,Fh,bY]
      · simp(disch:=omega)only[dI,bn,if_pos,dn,hy,aa,fx,bY,if_true])
  rw[ht]at a4;exact⟨r,out,a2,a3,a4,a1,a5 k hk⟩
end
section
end
section
def takes (x:Step):Int:=cond (inB x.kind 4 5&&inB x.a 0 200) x.a 0
end
section
theorem uE {x a b:Int}:inB x a b=true↔a<=x/\x<=b:=by unfold inB;simp
theorem cf {α:Type} {xs:List α} {i:Nat} (h:i<xs.length) (d:α):xs.getD i d=xs[i]:=by rw[FE,bE h];rfl
end
section
end
section
end
section
theorem ru (k:Nat) (x:Int):kr k x=some (inB x 0 1000000):=by unfold kr;rw[oF];rfl
end
section
def block (s:za) (d:Int):Int:=(s.tasks.findIdx? λt=>t.id==s.run).elim 0 λi=>(s.tasks[i]?).elim 0 λt=>cond (decide (t.due>d)) s.left 0
end
section
end
section
end
section
theorem tv {k:Nat} {xs ys:List (List Int)} (hk:ll List.length xs<k) (hN:ll List.length xs<=fc):gd k xs ys=some (decide (xs=ys)):=by
 have hl:xs.length<=ll List.length xs:=pQ _ _;have h2:=dp
 exact xZ (f:=λx y=>kq k x y) (g:=λu next=>er k (xs,ys) u next (λy=>some true) (λy=>some y)) (by omega) (λx hm y=>vJ (by have:=l3 List.length hm;omega) (by have:=l3 List.length hm;omega))
  (λi hi hi' next=>by simp only[er];rw[bn,if_pos (by omega),dn,dn,bE hi,bE hi',aa,aa]) (λnext=>by simp only[er];rw[bn,if_neg (by omega)]) (by omega)
end
section
def aM {α:Type} (o:Option α) (Q:α->Prop):Prop:=∃r,o=some r/\Q r
theorem aM.bind {α β:Type} {o:Option α} {P:α->Prop} {f:α->Option β} {Q:β->Prop} (h:aM o P) (hf:∀a,P a->aM (f a) Q):aM (o.bind f) Q:=by
 obtain⟨r,e,hp⟩:=h;rw[e];exact hf r hp
theorem aM.some {α:Type} {a:α} {Q:α->Prop} (h:Q a):aM (some a) Q:=⟨a,rfl,h⟩
theorem aM.cond {α:Type} {b:Bool} {x y:Option α} {Q:α->Prop} (h1:b=true->aM x Q) (h2:b=false->aM y Q):aM (cond b x y) Q:=by
 cases b
 ·exact h2 rfl
 ·exact h1 rfl
theorem aM.mono {α:Type} {o:Option α} {P Q:α->Prop} (h:aM o P) (hq:∀a,P a->Q a):aM o Q:=by
 obtain⟨r,e,hp⟩:=h;exact⟨r,e,hq r hp⟩
theorem aM.iter {V R:Type} {g:V->(V->Option R)->Option R} {Inv:V->Prop} {m:V->Nat} {Q:R->Prop}
  (h:∀(v:V) (next:V->Option R),Inv v->(∀u,Inv u->m u<m v->aM (next u) Q)->aM (g v next) Q):∀(k:Nat) (v:V),Inv v->m v<k->aM (iter g k v) Q
 |0,v,_,hk=>by omega
 |k+1,v,hv,hk=>by
  rw[bA];exact h v _ hv λu hu hm=>aM.iter h k u hu (by omega)
end
section
theorem aM.must {α:Type} {p:Prop} {i:Decidable p} {x y:Option α} {Q:α->Prop} (h:p) (hx:aM x Q):aM (bif (@decide p i)then x else y) Q:=by
 rw[decide_eq_true h];exact hx
theorem aM.ble {α:Type} {a b:Nat} {x y:Option α} {Q:α->Prop} (h:a<=b) (hx:aM x Q):aM (bif (Nat.ble a b)then x else y) Q:=by
 rw[Fw h];exact hx
end
section
end
section
end
section
end
section
end
section
structure vK (H W C:Nat) (xs:List Int):Prop where
 h1:1<=H
 h8:H<=8
 w1:1<=W
 w8:W<=8
 c1:1<=C
 c8:C<=8
 len:xs.length=H*W*C
 mem:∀x∈xs,-128<=x/\x<=127
def D5 (H W C:Nat) (xs:List Int):eM:=⟨⟨H,W,C⟩,xs⟩
theorem vK.sh {H W C:Nat} {xs:List Int} (r:vK H W C xs):(⟨H,W,C⟩:Shape).okB=true:=by
 obtain⟨a,b,c,d,e,f,_,_⟩:=r;simp only[Shape.okB,inB,EG,decide_eq_true_eq];omega
theorem vK.size {H W C:Nat} {xs:List Int} (r:vK H W C xs):(⟨H,W,C⟩:Shape).size=((H*W*C:Nat):Int):=by
 unfold Shape.size;rw[r.sh,cond_true,Int.natCast_mul,Int.natCast_mul]
theorem vK.ok {H W C:Nat} {xs:List Int} (r:vK H W C xs):(D5 H W C xs).okB=true:=by
 unfold eM.okB D5;simp only[r.sh,r.size,r.len,decide_true,Bool.true_and];unfold AE;rw[List.all_eq_true];intro x hx;have:=r.mem x hx;rw[uE];omega
end
section
end
section
end
section
end
section
end
section
end
section
end
set_option maxRecDepth 100000
section
theorem aM.bej {A R:Type} {B:A->Option R} {K:A} {Q:R->Prop} (h:aM (B K) Q):aM (bej B K) Q:=h
theorem aM.of {α β:Type} {a:α} {f:α->Option β} {Q:β->Prop} (h:aM (f a) Q):aM ((Option.some a).bind f) Q:=h
section
variable {b:List Int} {k:Nat}
end
end
set_option maxRecDepth 100000
section
section
variable {b:List Int} {k:Nat}
end
end
set_option maxRecDepth 100000
section
theorem fy {α:Type} (xs:List α) (x:Nat):(jP xs x).length=xs.length:=by simp[jP]
theorem oG {α:Type}:∀xs:List α,gT (xs.map some)=some xs
 |[]=>rfl
 |x::l=>by rw[Fi,gT,oG l];rfl
theorem ja {α:Type} (xs:List α) (i:Nat) (y:α):gT ((jP xs i).set i (some y))=some (xs.set i y):=by
 unfold jP;rw[List.set_set,show(xs.map some).set i (some y)=(xs.set i y).map some from by rw[FW],oG]
section
variable {b:List Int} {k:Nat}
end
end
set_option maxRecDepth 100000
section
end
set_option maxRecDepth 100000
section
section
variable {α:Type}
theorem iI {A:List α} {x:α} {B:List α} {n:Nat} (h:n=A.length):(A++x::B)[n]? =some x:=by subst h;simp
theorem iJ {A:List α} {x y:α} {B:List α} {n:Nat} (h:n=A.length):(A++x::B).set n y=A++y::B:=by subst h;simp
def Srt (R:α->α->Prop) (l:List α):Prop:=l.Pairwise R
theorem dq {R:α->α->Prop} {U V:List α}:Srt R (U++V)↔Srt R U/\Srt R V/\∀x∈U,∀y∈V,R x y:=FX
theorem ky (l:List α) (n:Nat) (h:n<=l.length):∃A B,l=A++B/\A.length=n:=⟨l.take n,l.drop n,(E2 n l).symm,by rw[E0];omega⟩
theorem rv (l:List α) (n:Nat) (h:n<l.length):∃A x B,l=A++x::B/\A.length=n:=⟨l.take n,l[n],l.drop (n+1),by rw[<-FG h,E2],by rw[E0];omega⟩
def Lt (key pos:α->Int) (x y:α):Prop:=key x<key y\/(key x=key y/\pos x<pos y)
theorem Lt.trans {key pos:α->Int} {x y z:α} (h:Lt key pos x y) (g:Lt key pos y z):Lt key pos x z:=by unfold Lt at*;omega
theorem Lt.le {key pos:α->Int} {x y:α} (h:Lt key pos x y):key x<=key y:=by unfold Lt at h;omega
def BK (key pos:α->Int) (U V:List α):Prop:=∀x∈U,∀y∈V,key x=key y->pos x<pos y
theorem BK.lt {key pos:α->Int} {U V:List α} (h:BK key pos U V) {x y:α} (hx:x∈U) (hy:y∈V) (hk:key x<=key y):Lt key pos x y:=by
 unfold Lt;by_cases c:key x=key y
 ·exact .inr ⟨c,h x hx y hy c⟩
 ·exact .inl (by omega)
theorem ry {key pos:α->Int} {x y:α} (h:key x<key y):Lt key pos x y:=.inl h
theorem CO {key pos:α->Int}:∀{l m:List α},Srt (Lt key pos) l->Srt (Lt key pos) m->l.Perm m->l=m:=λ{l m} h1 h2 hp=>by
 refine hp.eq_of_pairwise (le:=Lt key pos) (λa b _ _ h g=>?_) h1 h2;have:=h.trans g;unfold Lt at this;omega
end
theorem pS {x:Int} (h0:0<=x) (h1:x<=4000000000000000000):i64.wrap ((u64.wrap (i64.wrap x)).fdiv (2^(min (1:Int).toNat u64.bits)))=x/2:=by
 have e:(2:Int)^(min (1:Int).toNat u64.bits)=2:=by decide
 have u:u64.wrap x=x:=Go.IntWalk.u64_in x ⟨by omega,by omega⟩;rw[bY (n:=x) (by omega) (by omega),u,e,Int.fdiv_eq_ediv_of_nonneg x (by omega)];exact bY (by omega) (by omega)
end
set_option maxRecDepth 100000
section
theorem rz {k:Nat} {ds Q:List Int} {a b n:Nat} {R:Type} {fin:List Int->Option R}:∀(U V P M:List Int) (i kf:Nat),U.length=V.length->U.length<kf->a+i=P.length->b+i=P.length+U.length+M.length->n=i+U.length->P.length+U.length+M.length+V.length+Q.length<=4000000000000->
  iter (λu4 n4=>aQ k ((a:Int),(b:Int),(n:Int),ds) u4 n4 fin) kf ((i:Int),P++(U++(M++(V++Q))))=fin (P++(V++(M++(U++Q))))
 |_,_,_,_,_,0,_,h,_,_,_,_=>by omega
 |[],V,P,M,i,kf+1,hl,_,_,_,hn,_=>by
  have hV:V=[]:=EU.1 (by simpa using hl.symm);subst hV;rw[bA];unfold aQ;simp only
  rw[decide_eq_false (by simp at hn;omega),cond_false]
 |u::U,[],P,M,i,kf+1,hl,_,_,_,_,_=>by simp at hl
 |u::U,v::V,P,M,i,kf+1,hl,hk,ha,hb,hn,hN=>by
  simp only[E5]at hl hk hb hn hN;rw[bA];unfold aQ;simp only
  rw[decide_eq_true (show(i:Int)<(n:Int) by omega),cond_true,bY (n:=(b:Int)+(i:Int)) (by omega) (by omega),bY (n:=(a:Int)+(i:Int)) (by omega) (by omega),bY (n:=(i:Int)+1) (by omega) (by omega),
   show((b:Int)+(i:Int)).toNat=b+i from by omega,show((a:Int)+(i:Int)).toNat=a+i from by omega]
  have hlen:(P++(u::U++(M++(v::V++Q)))).length=P.length+(U.length+1)+M.length+(V.length+1)+Q.length:=by simp;omega
  rw[decide_eq_true (by omega),cond_true]
  have h1:(P++(u::U++(M++(v::V++Q))))[b+i]? =some v:=by
   rw[show P++(u::U++(M++(v::V++Q)))=(P++u::(U++M))++v::(V++Q)from by simp];exact iI (by simp;omega)
  have h2:(P++(u::U++(M++(v::V++Q))))[a+i]? =some u:=iI ha
  have h3:((P++(u::U++(M++(v::V++Q)))).set (a+i) v).set (b+i) u=(P++[v])++(U++((M++[u])++(V++Q))):=by
   rw[show P++(u::U++(M++(v::V++Q)))=P++u::(U++(M++(v::V++Q)))from rfl,iJ ha,show P++v::(U++(M++(v::V++Q)))=(P++v::(U++M))++v::(V++Q)from by simp,iJ (by simp;omega)];simp
  rw[h1,aa,decide_eq_true (by omega),cond_true,h2,aa,cond_true,cond_true,h3];have:=rz (k:=k) (ds:=ds) (Q:=Q) (a:=a) (b:=b) (n:=n) (fin:=fin) U V (P++[v]) (M++[u]) (i+1) kf (by omega) (by omega) (by simp;omega) (by simp;omega) (by omega) (by simp;omega);rw[show((i+1:Nat):Int)=(i:Int)+1 from by omega]at this;exact this.trans (by simp)
theorem iK {k:Nat} {ds P U M V Q:List Int} (hl:U.length=V.length) (hk:U.length<k) (hN:P.length+U.length+M.length+V.length+Q.length<=4000000000000) {a b n:Int} (ha:a=P.length) (hb:b=(P.length+U.length+M.length:Nat)) (hn:n=U.length):
  aD k (P++(U++(M++(V++Q)))) a b n ds=some (P++(V++(M++(U++Q)))):=by
 subst ha hb hn;unfold aD;have:=rz (k:=k) (ds:=ds) (Q:=Q) (a:=P.length) (b:=P.length+U.length+M.length) (n:=U.length) (fin:=λy3=>cond (decide (ds=ds)) (some y3) none) U V P M 0 k hl hk rfl rfl (by omega) hN;exact this.trans (by rw[decide_eq_true rfl];rfl)
theorem jI {k:Nat} {ds:List Int} {m N:Nat} (hkN:N<k) (hN:N<=4000000000000) {R:Type} {fin:Int× List Int->Option R}:∀(s:Nat) (P U V Q:List Int) (kf:Nat) (T:List Int),U.length+V.length<=s->s<kf->1<=U.length->1<=V.length->P.length+U.length=m->P.length+U.length+V.length+Q.length=N->T=P++(V++(U++Q))->
  ∃(P' U' V' Q':List Int),U'.length=V'.length/\P'.length+U'.length=m/\P'.length+U'.length+V'.length+Q'.length=N/\T=P'++(V'++(U'++Q'))/\
   iter (λu5 n5=>au k ((m:Int),ds) u5 n5 fin) kf ((U.length:Int),(V.length:Int),P++(U++(V++Q)))=fin ((U'.length:Int),P'++(U'++(V'++Q')))
 |s,P,U,V,Q,0,T,_,h,_,_,_,_,_=>by omega
 |s,P,U,V,Q,kf+1,T,hs,hk,hu,hv,hm,hT,hTe=>by
  rw[bA];by_cases c:U.length=V.length
  ·refine⟨P,U,V,Q,c,hm,hT,hTe,?_⟩;show au k ((m:Int),ds) _ _ fin=_;unfold au;simp only;rw[show((U.length:Int) !=(V.length:Int))=false from by rw[c];simp,cond_false]
  ·have hne:((U.length:Int) !=(V.length:Int))=true:=by simp;omega
   by_cases g:U.length>V.length
   ·obtain⟨U1,U2,rfl,hl⟩:=ky U V.length (by omega);rw[EM]at g hu hm hT hs c
    have st:∀next,au k ((m:Int),ds) (((U1++U2).length:Int),(V.length:Int),P++(U1++U2++(V++Q))) next fin=next ((U2.length:Int),(U1.length:Int),(P++V)++(U2++(U1++Q))):=λnext=>by
     unfold au;simp only;rw[hne,cond_true,decide_eq_true (by rw[EM];omega),cond_true,EM,bY (n:=(m:Int)-((U1.length+U2.length:Nat):Int)) (by omega) (by omega)];have:=iK (k:=k) (ds:=ds) (P:=P) (U:=U1) (M:=U2) (V:=V) (Q:=Q) hl (by omega) (by omega) (a:=(m:Int)-((U1.length+U2.length:Nat):Int)) (b:=m) (n:=V.length) (by omega) (by omega) (by omega);rw[show P++(U1++U2++(V++Q))=P++(U1++(U2++(V++Q)))from by simp,this,aa,bY (n:=((U1.length+U2.length:Nat):Int)-(V.length:Int)) (by omega) (by omega),show((U1.length+U2.length:Nat):Int)-(V.length:Int)=(U2.length:Int)from by omega,show(V.length:Int)=(U1.length:Int)from by omega];simp
    obtain⟨P',U',V',Q',q1,q2,q3,q4,q5⟩:=jI (ds:=ds) (m:=m) hkN hN (fin:=fin) (s-1) (P++V) U2 U1 Q kf T (by omega) (by omega) (by omega) (by omega) (by simp;omega) (by simp;omega) (by rw[hTe];simp);exact⟨P',U',V',Q',q1,q2,q3,q4,(st _).trans q5⟩
   ·obtain⟨V1,V2,rfl,hl⟩:=ky V (V.length-U.length) (by omega);rw[EM]at g hv hT hs c hl
    have st:∀next,au k ((m:Int),ds) ((U.length:Int),((V1++V2).length:Int),P++(U++(V1++V2++Q))) next fin=next ((V2.length:Int),(V1.length:Int),P++(V2++(V1++(U++Q)))):=λnext=>by
     unfold au;simp only
     rw[hne,cond_true,decide_eq_false (by rw[EM];omega),cond_false,EM,bY (n:=(m:Int)-(U.length:Int)) (by omega) (by omega),bY (n:=(m:Int)+((V1.length+V2.length:Nat):Int)) (by omega) (by omega),
      bY (n:=(m:Int)+((V1.length+V2.length:Nat):Int)-(U.length:Int)) (by omega) (by omega),bY (n:=((V1.length+V2.length:Nat):Int)-(U.length:Int)) (by omega) (by omega)]
     have:=iK (k:=k) (ds:=ds) (P:=P) (U:=U) (M:=V1) (V:=V2) (Q:=Q) (by omega) (by omega) (by omega) (a:=(m:Int)-(U.length:Int)) (b:=(m:Int)+((V1.length+V2.length:Nat):Int)-(U.length:Int)) (n:=U.length) (by omega) (by omega) rfl;rw[show P++(U++(V1++V2++Q))=P++(U++(V1++(V2++Q)))from by simp,this,aa,show(U.length:Int)=(V2.length:Int)from by omega,show((V1.length+V2.length:Nat):Int)-(V2.length:Int)=(V1.length:Int)from by omega]
    obtain⟨P',U',V',Q',q1,q2,q3,q4,q5⟩:=jI (ds:=ds) (m:=m) hkN hN (fin:=fin) (s-1) P V2 V1 (U++Q) kf T (by omega) (by omega) (by omega) (by omega) (by omega) (by simp;omega) (by rw[hTe];simp);exact⟨P',U',V',Q',q1,q2,q3,q4,(st _).trans q5⟩
theorem yE {k:Nat} {ds P U V Q:List Int} (hu:1<=U.length) (hv:1<=V.length) (hk:P.length+U.length+V.length+Q.length<k) (hN:P.length+U.length+V.length+Q.length<=4000000000000) {a m b:Int} (ha:a=P.length) (hm:m=(P.length+U.length:Nat)) (hb:b=(P.length+U.length+V.length:Nat)):
  bh k (P++(U++(V++Q))) a m b ds=some (P++(V++(U++Q))):=by
 subst ha hm hb;unfold bh
 rw[bY (n:=((P.length+U.length:Nat):Int)-(P.length:Int)) (by omega) (by omega),bY (n:=((P.length+U.length+V.length:Nat):Int)-((P.length+U.length:Nat):Int)) (by omega) (by omega),
  show((P.length+U.length:Nat):Int)-(P.length:Int)=(U.length:Int)from by omega,show((P.length+U.length+V.length:Nat):Int)-((P.length+U.length:Nat):Int)=(V.length:Int)from by omega]
 obtain⟨P',U',V',Q',q1,q2,q3,q4,q5⟩:=jI (k:=k) (ds:=ds) (m:=P.length+U.length) hk hN (fin:=λy3=>(aD k y3.2 (i64.wrap (((P.length+U.length:Nat):Int)-y3.1)) ((P.length+U.length:Nat):Int) y3.1 ds).bind λr4=>cond (decide (ds=ds)) (some r4) none) (U.length+V.length) P U V Q k _ (EX _) (by omega) hu hv rfl rfl rfl;refine q5.trans ?_;rw[q4];have:=iK (k:=k) (ds:=ds) (P:=P') (U:=U') (M:=[]) (V:=V') (Q:=Q') q1 (by omega) (by simp;omega) (a:=((P.length+U.length:Nat):Int)-(U'.length:Int)) (b:=((P.length+U.length:Nat):Int)) (n:=U'.length) (by omega) (by simp;omega) rfl;simp only[Gb]at this;simp only;rw[bY (by omega) (by omega),this];simp
end
set_option maxRecDepth 100000
section
theorem m8 {R:Type} {g:Int× Int->(Int× Int->Option R)->Option R} {fin:Int->Option R} {lo hi:Nat} {B:Nat->Bool} (Ac:∀h h',lo<=h->h<=h'->h'<hi->B h'=true->B h=true)
    (hg:∀i j:Nat,lo<=i->i<j->j<=hi->∀next,g ((i:Int),(j:Int)) next=cond (B ((i+j)/2)) (next ((((i+j)/2+1:Nat):Int),(j:Int))) (next ((i:Int),(((i+j)/2:Nat):Int))))
    (CP:∀(i:Nat) next,g ((i:Int),(i:Int)) next=fin i):∀(s i j k:Nat),j-i<=s->s<k->lo<=i->i<=j->j<=hi->(∀h,lo<=h->h<i->B h=true)->(∀h,j<=h->h<hi->B h=false)->
    ∃c:Nat,lo<=c/\c<=hi/\(∀h,lo<=h->h<c->B h=true)/\(∀h,c<=h->h<hi->B h=false)/\iter g k ((i:Int),(j:Int))=fin c
  |s,i,j,0,_,h,_,_,_,_,_=>by omega
  | s, i, j, k + 1, hs, hk, h1, h2, h3, h4, h5 => by
    rw[bA];by_cases c:i=j
    · subst c;exact⟨i,h1,h3,h4,h5,CP i _⟩
    · rw [hg i j h1 (by omega) h3];cases hb:B ((i+j)/2)
      · rw [cond_false]
        exact m8 Ac hg CP (s-1) i ((i+j)/2) k (by omega) (by omega) h1 (by omega) (by omega) h4 λh a b=>by
          cases hbh:B h
          · rfl
          · by_cases c2:h<j
            · rw[Ac ((i+j)/2) h (by omega) a b hbh]at hb;exact nomatch hb
            · rw[h5 h (by omega) b]at hbh;exact nomatch hbh
      · rw[cond_true];exact m8 Ac hg CP (s-1) ((i+j)/2+1) j k (by omega) (by omega) (by omega) (by omega) h3 (λh a b=>Ac h ((i+j)/2) a (by omega) (by omega) hb) h5
section
variable {ds:List Int} {k:Nat}
def InD (ds:List Int) (x:Int):Prop:=0<=x/\x<ds.length
def ez (ds:List Int) (x:Int):Int:=ds.getD x.toNat 0
theorem uF {x y:Int} (hx:InD ds x) (hy:InD ds y):∃r,bF k x y ds=some r/\(r<0↔ez ds x<ez ds y):=by
 unfold InD at hx hy;unfold bF dK dJ eD;rw[tq _ hx.1,tq _ hy.1,bE (show x.toNat<ds.length by omega),bE (show y.toNat<ds.length by omega)];have e1:ez ds x=ds[x.toNat]'(by omega):=cf _ _;have e2:ez ds y=ds[y.toNat]'(by omega):=cf _ _;rw[<-e1,<-e2];simp only[aa,decide_true,cond_true,show∀a:Int,(a !=a)=false fromλa=>by simp,cond_false];by_cases c:ez ds x<ez ds y
 ·rw[decide_eq_true c];exact⟨_,rfl,by simp[c]⟩
 ·rw[decide_eq_false c,cond_false];by_cases d:ez ds x>ez ds y
  ·rw[decide_eq_true d];exact⟨_,rfl,by simp[c]⟩
  ·rw[decide_eq_false d];exact⟨_,rfl,by simp[c]⟩
abbrev LtD (ds:List Int):Int->Int->Prop:=Lt (ez ds) id
abbrev kz (ds:List Int):List Int->List Int->Prop:=BK (ez ds) id
def kA (ds:List Int) (l:List Int):Prop:=∀x∈l,InD ds x
theorem fA {l:List Int} (h:Srt (LtD ds) l) {i j:Nat} (hij:i<=j) (hj:j<l.length):ez ds (l.getD i 0)<=ez ds (l.getD j 0):=by
 rw[cf (by omega),cf hj];by_cases c:i=j
 ·subst c;exact Int.le_refl _
 ·exact(List.pairwise_iff_getElem.1 h i j (by omega) hj (by omega)).le
theorem oH {R:Type} {fin:List Int->Option R} {u c:Int} {Q:List Int} {N:Nat} (hN:N<=4000000000000):∀(V P:List Int) (kf:Nat),V.length<kf->c=(P.length+V.length+1:Nat)->P.length+V.length+1+Q.length=N->
  iter (λu9 n9=>aj k (c,ds) u9 n9 fin) kf ((P.length:Int),P++u::(V++Q))=fin (P++(V++u::Q))
 |_,_,0,h,_,_=>by omega
 |[],P,kf+1,_,hc,hn=>by
  rw[bA];show aj k (c,ds) _ _ fin=_;unfold aj;simp only[Ga]at hc;simp only
  rw[bY (n:=c-1) (by omega) (by omega),decide_eq_false (by omega)];rfl
 |v::V,P,kf+1,hk,hc,hn=>by
  simp only[E5]at hk hc hn;rw[bA]
  have st:∀next,aj k (c,ds) ((P.length:Int),P++u::(v::V++Q)) next fin=next (((P++[v]).length:Int),(P++[v])++u::(V++Q)):=λnext=>by
   unfold aj;simp only
   have hl:(P++u::(v::V++Q)).length=P.length+V.length+2+Q.length:=by simp;omega
   rw[bY (n:=c-1) (by omega) (by omega),decide_eq_true (show(P.length:Int)<c-1 by omega),cond_true,bY (n:=(P.length:Int)+1) (by omega) (by omega),decide_eq_true (by omega),cond_true,show((P.length:Int)+1).toNat=P.length+1 from by omega,
    show(P.length:Int).toNat=P.length from by omega]
   have h1:(P++u::(v::V++Q))[P.length+1]? =some v:=by
    rw[show P++u::(v::V++Q)=(P++[u])++v::(V++Q)from by simp];exact iI (by simp)
   have h2:(P++u::(v::V++Q))[P.length]? =some u:=iI rfl
   have h3:((P++u::(v::V++Q)).set P.length v).set (P.length+1) u=(P++[v])++u::(V++Q):=by
    rw[iJ rfl,show P++v::(v::V++Q)=(P++[v])++v::(V++Q)from by simp,iJ (by simp)]
   rw[h1,aa,decide_eq_true (by omega),cond_true,h2,aa,cond_true,cond_true,h3];simp
  have ih:=oH (fin:=fin) (u:=u) (c:=c) (Q:=Q) hN V (P++[v]) kf (by omega) (by simp;omega) (by simp;omega);exact(st _).trans (ih.trans (by simp))
theorem rA {R:Type} {fin:List Int->Option R} {v:Int} {P Q:List Int} {N:Nat} (hN:N<=4000000000000):∀(n:Nat) (V W:List Int) (kf:Nat),V.length=n->n<kf->P.length+V.length+1+W.length+Q.length=N->
  iter (λu19 n19=>ak k ((P.length:Int),ds) u19 n19 fin) kf (((P.length+V.length:Nat):Int),P++(V++v::(W++Q)))=fin (P++(v::(V++(W++Q))))
 |_,_,_,0,_,h,_=>by omega
 |0,V,W,kf+1,hV,_,hn=>by
  have hV:=EU.1 hV;subst hV;rw[bA];show ak k ((P.length:Int),ds) _ _ fin=_;unfold ak;simp only
  rw[decide_eq_false (by simp)];rfl
 |n+1,V,W,kf+1,hV,hk,hn=>by
  obtain⟨V1,y,V2,rfl,hl⟩:=rv V n (by omega);have hV2:V2=[]:=EU.1 (by simp at hV;omega);subst hV2;simp only[EM,E5,Ga]at hV hn;rw[bA]
  have st:∀next,ak k ((P.length:Int),ds) (((P.length+(V1++[y]).length:Nat):Int),P++(V1++[y]++v::(W++Q))) next fin=next (((P.length+V1.length:Nat):Int),P++(V1++v::(y::W++Q))):=λnext=>by
   unfold ak;simp only
   have hl':(P++(V1++[y]++v::(W++Q))).length=P.length+V1.length+2+W.length+Q.length:=by simp;omega
   have hz:(P.length+(V1++[y]).length:Nat)=P.length+V1.length+1:=by simp;omega
   rw[hz,decide_eq_true (show((P.length+V1.length+1:Nat):Int)>(P.length:Int) by omega),cond_true,bY (n:=((P.length+V1.length+1:Nat):Int)-1) (by omega) (by omega),decide_eq_true (by omega),cond_true,
    show(((P.length+V1.length+1:Nat):Int)-1).toNat=P.length+V1.length from by omega,show((P.length+V1.length+1:Nat):Int).toNat=P.length+V1.length+1 from by omega]
   have e:P++(V1++[y]++v::(W++Q))=(P++V1)++y::(v::(W++Q)):=by simp
   have h1:(P++(V1++[y]++v::(W++Q)))[P.length+V1.length]? =some y:=by rw[e];exact iI (by simp)
   have h2:(P++(V1++[y]++v::(W++Q)))[P.length+V1.length+1]? =some v:=by
    rw[show P++(V1++[y]++v::(W++Q))=(P++V1++[y])++v::(W++Q)from by simp];exact iI (by simp;omega)
   have h3:((P++(V1++[y]++v::(W++Q))).set (P.length+V1.length+1) y).set (P.length+V1.length) v=P++(V1++v::(y::W++Q)):=by
    rw[show P++(V1++[y]++v::(W++Q))=(P++V1++[y])++v::(W++Q)from by simp,iJ (by simp;omega),show P++V1++[y]++y::(W++Q)=(P++V1)++y::(y::(W++Q))from by simp,iJ (by simp)];simp
   rw[h1,aa,decide_eq_true (by omega),cond_true,h2,aa,cond_true,cond_true,h3]
   congr 2
   omega
  have ih:=rA (fin:=fin) (v:=v) (P:=P) (Q:=Q) hN n V1 (y::W) kf hl (by omega) (by simp;omega);refine(st _).trans (ih.trans ?_);simp
end
end
set_option maxRecDepth 100000
section
def uG (ds:List Int) (P U V Q:List Int) (r:Option (List Int)):Prop:=∃W,r=some (P++(W++Q))/\W.Perm (U++V)/\Srt (LtD ds) W
section
variable {ds:List Int} {k:Nat}
theorem Ad {u:Int} {P V Q:List Int} (hk:P.length+V.length+Q.length+10<k) (hN:P.length+V.length+Q.length<=3000000000000) (hu:InD ds u) (hV:kA ds V) (sV:Srt (LtD ds) V) (hA:kz ds [u] V):
    uG ds P [u] V Q (iter (λu10 n10=>av k ((P.length:Int),P++u::(V++Q),ds) u10 n10 (λy5=>iter (λu9 n9=>aj k (y5,ds) u9 n9 (λy8=>cond (decide (ds=ds)) (some y8) none)) k ((P.length:Int),P++u::(V++Q)))) k (((P.length+1:Nat):Int),((P.length+1+V.length:Nat):Int))):=by
  have hlen:(P++u::(V++Q)).length=P.length+1+V.length+Q.length:=by simp;omega
  have hat:∀h,P.length+1<=h->h<P.length+1+V.length->(P++u::(V++Q))[h]? =some (V.getD (h-(P.length+1)) 0):=λh h1 h2=>by
    rw[show P++u::(V++Q)=(P++[u])++(V++Q)from by simp,EH (by simp;omega),EJ (by simp;omega),show h-(P++[u]).length=h-(P.length+1)from by simp,EE (by omega),<-cf (show h-(P.length+1)<V.length by omega) 0]
  have hin:∀i,i<V.length->InD ds (V.getD i 0):=λi hi=>by rw[cf hi];exact hV _ (FC hi)
  obtain⟨c,c1,c2,c3,c4,c5⟩:=m8 (g:=λu10 n10=>av k ((P.length:Int),P++u::(V++Q),ds) u10 n10 (λy5=>iter (λu9 n9=>aj k (y5,ds) u9 n9 (λy8=>cond (decide (ds=ds)) (some y8) none)) k ((P.length:Int),P++u::(V++Q))))
    (fin:=λy5=>iter (λu9 n9=>aj k (y5,ds) u9 n9 (λy8=>cond (decide (ds=ds)) (some y8) none)) k ((P.length:Int),P++u::(V++Q)))
    (lo:=P.length+1) (hi:=P.length+1+V.length) (B:=λh=>decide (ez ds (V.getD (h-(P.length+1)) 0)<ez ds u))
    (λh h' h1 h2 h3 hb=>by
      have:=fA sV (show h-(P.length+1)<=h'-(P.length+1) by omega) (by omega);have hb:=of_decide_eq_true hb
      exact decide_eq_true (by omega))
    (λi j h1 h2 h3 next=>by
      show av k _ _ next _=_
      generalize (λy5=>iter (λu9 n9=>aj k (y5,ds) u9 n9 (λy8=>cond (decide (ds=ds)) (some y8) none)) k ((P.length:Int),P++u::(V++Q)))=fin;unfold av;simp only
      rw[decide_eq_true (show(i:Int)<(j:Int) by omega),cond_true,pS (x:=(i:Int)+(j:Int)) (by omega) (by omega),show((i:Int)+(j:Int))/2=(((i+j)/2:Nat):Int)from by omega,decide_eq_true (by omega),cond_true,
        show(((i+j)/2:Nat):Int).toNat=(i+j)/2 from by omega,hat _ (by omega) (by omega),aa,decide_eq_true (by omega),cond_true,show(P.length:Int).toNat=P.length from by omega,iI rfl,aa]
      obtain⟨r,hr,hr2⟩:=uF (ds:=ds) (k:=k) (hin ((i+j)/2-(P.length+1)) (by omega)) hu;rw[hr,aa,bY (by omega) (by omega),show(((i+j)/2:Nat):Int)+1=(((i+j)/2+1:Nat):Int)from by omega];by_cases q:r<0
      · rw[decide_eq_true q,decide_eq_true (hr2.1 q)]
      · rw[decide_eq_false q,decide_eq_false (λh=>q (hr2.2 h))])
    (λi next=>by
      show av k _ _ next _=_
      unfold av;simp only
      rw[decide_eq_false (by omega),cond_false]) V.length (P.length+1) (P.length+1+V.length) k (by omega) (by omega) (EX _) (by omega) (EX _) (λh _ _=>by omega) (λh _ _=>by omega)
  refine⟨V.take (c-(P.length+1))++u::V.drop (c-(P.length+1)),?_,?_,?_⟩
  · refine c5.trans ?_
    have ht:(V.take (c-(P.length+1))).length=c-(P.length+1):=by rw[E0];omega
    have:=oH (ds:=ds) (k:=k) (fin:=λy8=>cond (decide (ds=ds)) (some y8) none) (u:=u) (c:=(c:Int)) (Q:=V.drop (c-(P.length+1))++Q) (N:=P.length+V.length+1+Q.length) (by omega) (V.take (c-(P.length+1))) P k (by omega) (by omega) (by simp;omega);rw[<-EK,E2]at this;refine this.trans ?_;rw[decide_eq_true rfl,cond_true];simp
  · refine(List.perm_middle).trans ?_;rw[E2];exact List.Perm.refl _
  · have hlt:∀i,i<V.length->(i<c-(P.length+1)↔ez ds (V.getD i 0)<ez ds u):=λi hi=>by
      constructor
      · intro h;have:=of_decide_eq_true (c3 (i+(P.length+1)) (by omega) (by omega));rwa [Gd]at this
      · intro h
        cases Nat.lt_or_ge i (c-(P.length+1))with
        |inl h=>exact h
        | inr g =>
          have:=of_decide_eq_false (c4 (i+(P.length+1)) (by omega) (by omega));rw[Gd]at this;exact(this h).elim
    have s2:=sV;rw[<-E2 (c-(P.length+1)) V,dq]at s2;refine dq.2 ⟨s2.1,FJ.2 ⟨λy hy=>?_,s2.2.1⟩,λx hx y hy=>?_⟩
    · obtain⟨i,hi,rfl⟩:=Fv hy;rw[FY]at hi;rw[List.getElem_drop];refine hA.lt (Fb.2 rfl) (FC _) ?_;have:=mt (hlt (c-(P.length+1)+i) (by omega)).2 (by omega);rw[cf (by omega)]at this;omega
    · have hxu:ez ds x<ez ds u:=by
        obtain⟨i,hi,rfl⟩:=Fv hx;rw[E0]at hi;rw[List.getElem_take];have:=(hlt i (by omega)).1 (by omega);rwa [cf (by omega)]at this
      rcases EZ.1 hy with rfl|hy
      · exact ry hxu
      · exact s2.2.2 x hx y hy
theorem yF {v:Int} {P U Q:List Int} (hk:P.length+U.length+Q.length+10<k) (hN:P.length+U.length+Q.length<=3000000000000) (hv:InD ds v) (hU:kA ds U) (sU:Srt (LtD ds) U) (hA:kz ds U [v]):
    uG ds P U [v] Q (iter (λu20 n20=>ax k (((P.length+U.length:Nat):Int),P++(U++v::Q),ds) u20 n20 (λy15=>iter (λu19 n19=>ak k (y15,ds) u19 n19 (λy18=>cond (decide (ds=ds)) (some y18) none)) k (((P.length+U.length:Nat):Int),P++(U++v::Q)))) k ((P.length:Int),((P.length+U.length:Nat):Int))):=by
  have hlen:(P++(U++v::Q)).length=P.length+U.length+1+Q.length:=by simp;omega
  have hat:∀h,P.length<=h->h<P.length+U.length->(P++(U++v::Q))[h]? =some (U.getD (h-P.length) 0):=λh h1 h2=>by
    rw[EH h1,EJ (by omega),EE (by omega),<-cf (show h-P.length<U.length by omega) 0]
  have Ez:(P++(U++v::Q))[P.length+U.length]? =some v:=by
    rw[<-EK];exact iI (by simp)
  have hin:∀i,i<U.length->InD ds (U.getD i 0):=λi hi=>by rw[cf hi];exact hU _ (FC hi)
  obtain⟨c,c1,c2,c3,c4,c5⟩:=m8 (g:=λu20 n20=>ax k (((P.length+U.length:Nat):Int),P++(U++v::Q),ds) u20 n20 (λy15=>iter (λu19 n19=>ak k (y15,ds) u19 n19 (λy18=>cond (decide (ds=ds)) (some y18) none)) k (((P.length+U.length:Nat):Int),P++(U++v::Q))))
    (fin:=λy15=>iter (λu19 n19=>ak k (y15,ds) u19 n19 (λy18=>cond (decide (ds=ds)) (some y18) none)) k (((P.length+U.length:Nat):Int),P++(U++v::Q)))
    (lo:=P.length) (hi:=P.length+U.length) (B:=λh=>!decide (ez ds v<ez ds (U.getD (h-P.length) 0)))
    (λh h' h1 h2 h3 hb=>by
      have:=fA sU (show h-P.length<=h'-P.length by omega) (by omega);rw[FL]at hb⊢;have hb:=of_decide_eq_false hb
      exact decide_eq_false (by omega))
    (λi j h1 h2 h3 next=>by
      show ax k _ _ next _=_
      generalize (λy15=>iter (λu19 n19=>ak k (y15,ds) u19 n19 (λy18=>cond (decide (ds=ds)) (some y18) none)) k (((P.length+U.length:Nat):Int),P++(U++v::Q)))=fin;unfold ax;simp only
      rw[decide_eq_true (show(i:Int)<(j:Int) by omega),cond_true,pS (x:=(i:Int)+(j:Int)) (by omega) (by omega),show((i:Int)+(j:Int))/2=(((i+j)/2:Nat):Int)from by omega,decide_eq_true (by omega),cond_true,
        show((P.length+U.length:Nat):Int).toNat=P.length+U.length from by omega,Ez,aa,decide_eq_true (by omega),cond_true,show(((i+j)/2:Nat):Int).toNat=(i+j)/2 from by omega,hat _ (by omega) (by omega),aa]
      obtain⟨r,hr,hr2⟩:=uF (ds:=ds) (k:=k) hv (hin ((i+j)/2-P.length) (by omega));rw[hr,aa,bY (by omega) (by omega),show(((i+j)/2:Nat):Int)+1=(((i+j)/2+1:Nat):Int)from by omega];by_cases q:r<0
      · rw[decide_eq_true q,decide_eq_true (hr2.1 q)]
      · rw[decide_eq_false q,decide_eq_false (λh=>q (hr2.2 h))])
    (λi next=>by
      show ax k _ _ next _=_
      unfold ax;simp only
      rw[decide_eq_false (by omega),cond_false]) U.length P.length (P.length+U.length) k (by omega) (by omega) (EX _) (by omega) (EX _) (λh _ _=>by omega) (λh _ _=>by omega)
  refine⟨U.take (c-P.length)++v::U.drop (c-P.length),?_,?_,?_⟩
  · refine c5.trans ?_
    have ht:(U.take (c-P.length)).length=c-P.length:=by rw[E0];omega
    have hpt:(P++U.take (c-P.length)).length=c:=by simp;omega
    have:=rA (ds:=ds) (k:=k) (fin:=λy8=>cond (decide (ds=ds)) (some y8) none) (v:=v) (P:=P++U.take (c-P.length)) (Q:=Q) (N:=P.length+U.length+1+Q.length) (by omega) (U.drop (c-P.length)).length (U.drop (c-P.length)) [] k rfl (by simp;omega) (by simp;omega);rw[hpt]at this
    rw[show P++U.take (c-P.length)++(U.drop (c-P.length)++v::([]++Q))=P++(U++v::Q)from by
      rw[EK,<-EK (U.take _),E2];rfl,show c+(U.drop (c-P.length)).length=P.length+U.length from by simp;omega]at this
    refine this.trans ?_;rw[decide_eq_true rfl,cond_true];simp
  · refine(List.perm_middle).trans ?_;rw[E2];exact(F4 (l₁:=[v]) (l₂:=U))
  · have hlt:∀i,i<U.length->(i<c-P.length↔¬ez ds v<ez ds (U.getD i 0)):=λi hi=>by
      constructor
      · intro h;have:=c3 (i+P.length) (by omega) (by omega);rw[Gd,FL]at this;exact of_decide_eq_false this
      · intro h
        cases Nat.lt_or_ge i (c-P.length)with
        |inl h=>exact h
        | inr g =>
          have:=c4 (i+P.length) (by omega) (by omega);rw[Gd,Bool.not_eq_false']at this;exact(h (of_decide_eq_true this)).elim
    have s2:=sU;rw[<-E2 (c-P.length) U,dq]at s2;refine dq.2 ⟨s2.1,FJ.2 ⟨λy hy=>?_,s2.2.1⟩,λx hx y hy=>?_⟩
    · obtain⟨i,hi,rfl⟩:=Fv hy;rw[FY]at hi;rw[List.getElem_drop];have:=mt (hlt (c-P.length+i) (by omega)).2 (by omega);rw[cf (by omega)]at this;exact ry (by omega)
    · rcases EZ.1 hy with rfl|hy
      · obtain⟨i,hi,rfl⟩:=Fv hx;rw[E0]at hi;rw[List.getElem_take];refine hA.lt (FC _) (Fb.2 rfl) ?_;have:=(hlt i (by omega)).1 (by omega);rw[cf (by omega)]at this;omega
      · exact s2.2.2 x hx y hy
end
end
set_option maxRecDepth 100000
set_option maxHeartbeats 4000000
section
section
variable {ds:List Int}
def gO (ds:List Int) (N L:Nat) (F:List Int->Int->Int->Int->List Int->Option (List Int)):Prop:=∀P U V Q:List Int,U.length+V.length<=L->1<=U.length->1<=V.length->P.length+U.length+V.length+Q.length=N->kA ds U->kA ds V->Srt (LtD ds) U->Srt (LtD ds) V->kz ds U V->
 uG ds P U V Q (F (P++(U++(V++Q))) (P.length:Int) ((P.length+U.length:Nat):Int) ((P.length+U.length+V.length:Nat):Int) ds)
theorem kA.app {U V:List Int}:kA ds (U++V)↔kA ds U/\kA ds V:=by
 unfold kA;constructor
 ·exactλh=>⟨λx hx=>h x (Fl _ hx),λx hx=>h x (Fx _ hx)⟩
 ·rintro ⟨h1,h2⟩ x hx
  rcases Fz.1 hx with hx|hx
  ·exact h1 x hx
  ·exact h2 x hx
theorem oI {N L:Nat} {F:List Int->Int->Int->Int->List Int->Option (List Int)} (hF:gO ds N L F) {P U V Q:List Int} {R:Type} {j:List Int->Option R} {a m b:Int} (hL:U.length+V.length<=L) (hn:P.length+U.length+V.length+Q.length=N) (hU:kA ds U) (hV:kA ds V) (sU:Srt (LtD ds) U) (sV:Srt (LtD ds) V) (hA:kz ds U V)
  (ha:a=P.length) (hm:m=(P.length+U.length:Nat)) (hb:b=(P.length+U.length+V.length:Nat)) {Q2:R->Prop} (hj:∀W,W.Perm (U++V)->Srt (LtD ds) W->aM (j (P++(W++Q))) Q2):
  aM (cond (decide (a<m)) (cond (decide (m<b)) ((F (P++(U++(V++Q))) a m b ds).bind λr=>j r) (j (P++(U++(V++Q))))) (j (P++(U++(V++Q))))) Q2:=by
 subst ha hm hb;refine aM.cond (λc=>aM.cond (λd=>?_) λd=>?_) λc=>?_
 ·have c:=of_decide_eq_true c;have d:=of_decide_eq_true d;obtain⟨W,h1,h2,h3⟩:=hF P U V Q hL (by omega) (by omega) hn hU hV sU sV hA;rw[h1];exact hj W h2 h3
 ·have d:=of_decide_eq_false d;have hV0:V=[]:=EU.1 (by omega);subst hV0;exact hj U (by simp) sU
 ·have c:=of_decide_eq_false c;have hU0:U=[]:=EU.1 (by omega);subst hU0;exact hj V (by simp) sV
theorem aM.EA {R α β:Type} {B:(α->β->Option R)->Option R} {K:α->β->Option R} {Q:R->Prop} (P:α->β->Prop) (hK:∀x y,P x y->aM (K x y) Q) (hB:∀j:α->β->Option R,(∀x y,P x y->aM (j x y) Q)->aM (B j) Q):aM (Go.Proofs.Ev.bej B K) Q:=hB K hK
theorem pT {N k hf s0 s1:Nat} {P U V Q:List Int} {a1 a2 a3 mid n n1:Int} (hk:N+20<k) (hN:N<=1000000000000) (hn:P.length+U.length+V.length+Q.length=N) (aU:kA ds U) (aV:kA ds V) (sU:Srt (LtD ds) U) (sV:Srt (LtD ds) V)
    (h01:s0<=s1) (h1u:s1<=U.length) (h1f:s1<=hf) (h0v:hf<=s0+V.length) (hn1:n1=((P.length+hf+P.length+U.length:Nat):Int)-1) {R:Type} {fin:Int->Option R} {Qr:R->Prop} {st sr:Int} (hst:st=((P.length+s0:Nat):Int)) (hsr:sr=((P.length+s1:Nat):Int))
    (qD:∀s,s0<=s->s<=s1->(s0<s->¬ez ds (V.getD (hf-1-(s-1)) 0)<ez ds (U.getD (s-1) 0))->(s<s1->ez ds (V.getD (hf-1-s) 0)<ez ds (U.getD s 0))->aM (fin ((P.length+s:Nat):Int)) Qr):
    aM (iter (λu41 n41=>ay k (a1,a2,a3,mid,n,n1,P++(U++(V++Q)),ds) u41 n41 fin) k (st,sr)) Qr:=by
  subst hst hsr hn1
  have hlen:(P++(U++(V++Q))).length=N:=by simp;omega
  have hatU:∀x,x<U.length->(P++(U++(V++Q)))[P.length+x]? =some (U.getD x 0):=λx hx=>by
    rw[EH (by omega),EJ (by omega),E1,EE hx,<-cf hx 0]
  have hatV:∀y,y<V.length->(P++(U++(V++Q)))[P.length+U.length+y]? =some (V.getD y 0):=λy hy=>by
    rw[EH (by omega),EH (by omega),EJ (by omega),show P.length+U.length+y-P.length-U.length=y from by omega,EE hy,<-cf hy 0]
  have inU:∀i,i<U.length->InD ds (U.getD i 0):=λi hi=>by rw[cf hi];exact aU _ (FC hi)
  have inV:∀i,i<V.length->InD ds (V.getD i 0):=λi hi=>by rw[cf hi];exact aV _ (FC hi)
  obtain⟨c,c1,c2,c3,c4,c5⟩:=m8 (g:=λu41 n41=>ay k (a1,a2,a3,mid,n,((P.length+hf+P.length+U.length:Nat):Int)-1,P++(U++(V++Q)),ds) u41 n41 fin) (fin:=fin)
    (lo:=P.length+s0) (hi:=P.length+s1) (B:=λh=>!decide (ez ds (V.getD (hf-1-(h-P.length)) 0)<ez ds (U.getD (h-P.length) 0)))
    (λh h' h1 h2 h3 hb=>by
      have a1:=fA sU (show h-P.length<=h'-P.length by omega) (by omega);have a2:=fA sV (show hf-1-(h'-P.length)<=hf-1-(h-P.length) by omega) (by omega);rw[FL]at hb⊢;have hb:=of_decide_eq_false hb
      exact decide_eq_false (by omega))
    (λi j h1 h2 h3 next=>by
      show ay k _ _ next fin=_
      unfold ay;simp only;rw[decide_eq_true (show(i:Int)<(j:Int) by omega),cond_true,pS (x:=(i:Int)+(j:Int)) (by omega) (by omega),show((i:Int)+(j:Int))/2=(((i+j)/2:Nat):Int)from by omega];generalize hc:(i+j)/2=c
      rw[bY (n:=((P.length+hf+P.length+U.length:Nat):Int)-1-(c:Int)) (by omega) (by omega),decide_eq_true (by omega),cond_true,
        show(((P.length+hf+P.length+U.length:Nat):Int)-1-(c:Int)).toNat=P.length+U.length+(hf-1-(c-P.length))from by omega,hatV _ (by omega),aa,decide_eq_true (by omega),cond_true,
        show(c:Int).toNat=P.length+(c-P.length)from by omega,hatU _ (by omega),aa]
      obtain⟨r,hr,hr2⟩:=uF (ds:=ds) (k:=k) (inV (hf-1-(c-P.length)) (by omega)) (inU (c-P.length) (by omega));rw[hr,aa,bY (by omega) (by omega),show(c:Int)+1=((c+1:Nat):Int)from by omega];by_cases q:r<0
      · rw[decide_eq_true q,decide_eq_true (hr2.1 q)]
      · rw[decide_eq_false q,decide_eq_false (λh=>q (hr2.2 h))])
    (λi next=>by
      show ay k _ _ next fin=_
      unfold ay;simp only
      rw[decide_eq_false (by omega),cond_false]) (s1-s0) (P.length+s0) (P.length+s1) k (by omega) (by omega) (EX _) (by omega) (EX _) (λh _ _=>by omega) (λh _ _=>by omega)
  obtain⟨s,rfl⟩:∃s,c=P.length+s:=⟨c-P.length,by omega⟩
  obtain⟨r,hr,hq⟩:=qD s (by omega) (by omega) (λh=>by
    have hb:=c3 (P.length+(s-1)) (by omega) (by omega);rw[FL,E1]at hb
    exact of_decide_eq_false hb) (λh=>by
    have hb:=c4 (P.length+s) (by omega) (by omega);rw[Bool.not_eq_false',E1]at hb
    exact of_decide_eq_true hb)
  exact⟨r,c5.trans hr,hq⟩
theorem vL {k:Nat} {P U1 U2 V1 V2 Q:List Int} (hk:P.length+U1.length+U2.length+V1.length+V2.length+Q.length<k) (hN:k<=k/\P.length+U1.length+U2.length+V1.length+V2.length+Q.length<=4000000000000) {y m e:Int} (hy:y=(P.length+U1.length:Nat)) (hm:m=(P.length+U1.length+U2.length:Nat)) (he:e=(P.length+U1.length+U2.length+V1.length:Nat))
  {R:Type} {K:List Int->Option R} {Qr:R->Prop} (hK:aM (K (P++(U1++(V1++(U2++(V2++Q)))))) Qr):
  aM (cond (decide (y<m)) (bej (λ(j28:(List Int)->Option R)=>cond (decide (m<e)) ((bh k (P++(U1++U2++(V1++V2++Q))) y m e ds).bind λr27=>(j28 r27)) ((j28 (P++(U1++U2++(V1++V2++Q)))))) K) (K (P++(U1++U2++(V1++V2++Q))))) Qr:=by
 refine aM.cond (λc=>aM.bej (aM.cond (λd=>?_) λd=>?_)) λc=>?_
 ·have c:=of_decide_eq_true c;have d:=of_decide_eq_true d;have:=yE (k:=k) (ds:=ds) (P:=P++U1) (U:=U2) (V:=V1) (Q:=V2++Q) (by omega) (by omega) (by simp;omega) (by simp;omega) (a:=y) (m:=m) (b:=e) (by rw[hy];simp) (by rw[hm];simp) (by rw[he];simp);rw[show P++(U1++U2++(V1++V2++Q))=P++U1++(U2++(V1++(V2++Q)))from by simp,this,aa,EK];exact hK
 ·have d:=of_decide_eq_false d;have hV:V1=[]:=EU.1 (by omega);subst hV;rw[show P++(U1++U2++([]++V2++Q))=P++(U1++([]++(U2++(V2++Q))))from by simp];exact hK
 ·have c:=of_decide_eq_false c;have hU:U2=[]:=EU.1 (by omega);subst hU;rw[show P++(U1++[]++(V1++V2++Q))=P++(U1++(V1++([]++(V2++Q))))from by simp];exact hK
theorem rB {W:List Int} {Qr:List Int->Prop} (h:Qr W):aM (cond (decide (ds=ds)) (some W) none) Qr:=by rw[decide_eq_true rfl,cond_true];exact aM.some h
theorem vM {N L k:Nat} {F:List Int->Int->Int->Int->List Int->Option (List Int)} (hk:N+20<k) (hN:N<=1000000000000) (hF:gO ds N L F):gO ds N (L+1) (aX k F):=by
 intro P U V Q hL hu hv hn aU aV sU sV hA
 have DQ:((P.length+U.length+V.length:Nat):Int)-((P.length+U.length:Nat):Int)=(V.length:Int):=by omega
 unfold aX
 rw[bY (n:=((P.length+U.length:Nat):Int)-(P.length:Int)) (by omega) (by omega),bY (n:=((P.length+U.length+V.length:Nat):Int)-((P.length+U.length:Nat):Int)) (by omega) (by omega),DQ,
  show((P.length+U.length:Nat):Int)-(P.length:Int)=(U.length:Int)from by omega]
 by_cases u1:U.length=1
 ·obtain⟨u,rfl⟩:=List.length_eq_one_iff.1 u1;rw[show((([u]:List Int).length:Int)==1)=true from rfl,cond_true];have:=Ad (ds:=ds) (k:=k) (u:=u) (P:=P) (V:=V) (Q:=Q) (by simp at hn;omega) (by simp at hn;omega) (aU u (by simp)) aV sV hA;exact this
 rw[show((U.length:Int)==1)=false from by simp;omega,cond_false];by_cases v1:V.length=1
 ·obtain⟨v,rfl⟩:=List.length_eq_one_iff.1 v1;rw[show((([v]:List Int).length:Int)==1)=true from rfl,cond_true];have:=yF (ds:=ds) (k:=k) (v:=v) (P:=P) (U:=U) (Q:=Q) (by simp at hn;omega) (by simp at hn;omega) (aV v (by simp)) aU sU hA;exact this
 rw[show((V.length:Int)==1)=false from by simp;omega,cond_false];obtain⟨hf,hhf⟩:∃hf:Nat,hf=(U.length+V.length)/2:=⟨_,rfl⟩
 have EB:i64.wrap ((u64.wrap (i64.wrap ((P.length:Int)+((P.length+U.length+V.length:Nat):Int)))).fdiv (2^(min (1:Int).toNat u64.bits)))=((P.length+hf:Nat):Int):=by
  rw[pS (by omega) (by omega)];omega
 rw[EB];generalize he:((P.length+hf:Nat):Int)=mid;rw[bY (n:=mid+((P.length+U.length:Nat):Int)) (by omega) (by omega),bY (n:=mid+((P.length+U.length:Nat):Int)-((P.length+U.length+V.length:Nat):Int)) (by omega) (by omega),bY (n:=mid+((P.length+U.length:Nat):Int)-1) (by omega) (by omega)]
 suffices h:aM _ (λr=>∃W,r=P++(W++Q)/\W.Perm (U++V)/\Srt (LtD ds) W) by
  obtain⟨r,h1,W,rfl,h2,h3⟩:=h;exact⟨W,h1,h2,h3⟩
 refine aM.EA (λst sr=>∃s0 s1:Nat,s0<=s1/\s1<=U.length/\s1<=hf/\hf<=s0+V.length/\(s0=0\/hf=s0+V.length)/\(s1=hf\/s1=U.length)/\st=((P.length+s0:Nat):Int)/\sr=((P.length+s1:Nat):Int)) ?_ ?_
 ·rintro st sr ⟨s0,s1,h01,h1u,h1f,h0v,hz,ho,hst,hsr⟩
  refine pT (N:=N) (hf:=hf) hk hN hn aU aV sU sV h01 h1u h1f h0v (by omega) hst hsr λs g0 g1 g2 g3=>?_;obtain⟨t,ht⟩:∃t,t=hf-s:=⟨_,rfl⟩;obtain⟨U1,U2,rfl,l1⟩:=ky U s (by omega);obtain⟨V1,V2,rfl,l2⟩:=ky V t (by omega);have hlU:(U1++U2).length=U1.length+U2.length:=EM;have hlV:(V1++V2).length=V1.length+V2.length:=EM;obtain⟨aU1,aU2⟩:=kA.app.1 aU;obtain⟨aV1,aV2⟩:=kA.app.1 aV;obtain⟨sU1,sU2,sU12⟩:=dq.1 sU;obtain⟨sV1,sV2,sV12⟩:=dq.1 sV
  have k12:∀x∈U1,∀y∈V2,LtD ds x y:=λx hx y hy=>by
   refine hA.lt (Fl _ hx) (Fx _ hy) ?_;obtain⟨i,hi,rfl⟩:=Fv hx;obtain⟨j,hj,rfl⟩:=Fv hy
   have hs0:s0<s:=by omega
   have hb:=g2 hs0;rw[show hf-1-(s-1)=t from by omega]at hb;have b1:=fA sU (show i<=s-1 by omega) (by simp;omega);have b2:=fA sV (show t<=t+j by omega) (by simp;omega)
   have e1:(U1++U2).getD i 0=U1[i]:=by rw[cf (by simp;omega),List.getElem_append_left hi]
   have e2:(V1++V2).getD (t+j) 0=V2[j]:=by
    rw[cf (by simp;omega),List.getElem_append_right (by omega)]
    congr 1
    omega
   rw[e1]at b1;rw[e2]at b2;omega
  have k21:∀y∈V1,∀x∈U2,LtD ds y x:=λy hy x hx=>by
   obtain⟨i,hi,rfl⟩:=Fv hx;obtain⟨j,hj,rfl⟩:=Fv hy
   have hs1:s<s1:=by omega
   have hb:=g3 hs1;rw[show hf-1-s=t-1 from by omega]at hb;have b1:=fA sU (show s<=s+i by omega) (by simp;omega);have b2:=fA sV (show j<=t-1 by omega) (by simp;omega)
   have e1:(U1++U2).getD (s+i) 0=U2[i]:=by
    rw[cf (by simp;omega),List.getElem_append_right (by omega)]
    congr 1
    omega
   have e2:(V1++V2).getD j 0=V1[j]:=by rw[cf (by simp;omega),List.getElem_append_left hj]
   rw[e1]at b1;rw[e2]at b2;exact ry (by omega)
  have hA1:kz ds U1 V1:=λx hx y hy=>hA x (Fl _ hx) y (Fl _ hy);have hA2:kz ds U2 V2:=λx hx y hy=>hA x (Fx _ hx) y (Fx _ hy)
  have fin2:∀W1,W1.Perm (U1++V1)->Srt (LtD ds) W1->∀W2,W2.Perm (U2++V2)->Srt (LtD ds) W2->∃W,P++W1++(W2++Q)=P++(W++Q)/\W.Perm (U1++U2++(V1++V2))/\Srt (LtD ds) W:=λW1 p1 q1 W2 p2 q2=>by
   refine⟨W1++W2,by simp,?_,dq.2 ⟨q1,q2,λx hx y hy=>?_⟩⟩
   ·refine(p1.append p2).trans ?_;rw[EK,EK];refine List.Perm.append_left _ ?_;rw[<-EK,<-EK];exact List.Perm.append_right _ F4
   ·rcases Fz.1 (p1.mem_iff.1 hx)with hx|hx<;>rcases Fz.1 (p2.mem_iff.1 hy)with hy|hy
    ·exact sU12 x hx y hy
    ·exact k12 x hx y hy
    ·exact k21 x hx y hy
    ·exact sV12 x hx y hy
  have CP:i64.wrap (mid+((P.length+(U1++U2).length:Nat):Int)-((P.length+s:Nat):Int))=((P.length+(U1.length+U2.length)+t:Nat):Int):=by
   rw[bY (by omega) (by omega)];omega
  rw[CP];refine vL (k:=k) (P:=P) (U1:=U1) (U2:=U2) (V1:=V1) (V2:=V2) (Q:=Q) (by omega) ⟨EX _,by omega⟩ (by omega) (by omega) (by omega) ?_;refine oI hF (P:=P) (U:=U1) (V:=V1) (Q:=U2++(V2++Q)) (by omega) (by simp;omega) aU1 aV1 sU1 sV1 hA1 rfl (by omega) (by omega) λW1 p1 q1=>?_
  have lW:W1.length=U1.length+V1.length:=by rw[p1.length_eq,EM]
  have e:P++(W1++(U2++(V2++Q)))=(P++W1)++(U2++(V2++Q)):=by simp
  rw[e];exact oI hF (P:=P++W1) (U:=U2) (V:=V2) (Q:=Q) (j:=λr=>cond (decide (ds=ds)) (some r) none) (by omega) (by simp;omega) aU2 aV2 sU2 sV2 hA2 (by simp;omega) (by simp;omega) (by simp;omega) λW2 p2 q2=>rB (fin2 W1 p1 q1 W2 p2 q2)
 ·intro j hj;refine aM.cond (λc=>?_) λc=>?_
  ·have c:=of_decide_eq_true c;exact hj _ _ ⟨hf-V.length,hf,by omega,by omega,by omega,by omega,by omega,by omega,by omega,by omega⟩
  ·have c:=of_decide_eq_false c;exact hj _ _ ⟨0,U.length,by omega,by omega,by omega,by omega,by omega,by omega,by omega,by omega⟩
end
end
end Go.Proofs.Ev
