/- Typed functions and what holds of them: part 1. -/
import Derived.Test.YtimmojehndbiiaaEvK6
import Derived.Test.YtimmojehndbiiaaEvK7
import Derived.Test.YtimmojehndbiiaaProg
import Derived.WalkKit
import Derived.Maps.OwnSet
set_option linter.unusedVariables false
set_option linter.unusedSimpArgs false
set_option linter.unusedSectionVars false
namespace Go.Proofs.Ev
open IntKind(i64 u8 u64)
set_option maxRecDepth 100000
section
noncomputable section
def nG (k:Nat) (a0:Int) (a1:Int) (a2:Int):Option (Bool):=
 cond (decide (a1<=a0)) (some (decide (a0<=a2))) (some false)
def D2 (k:Nat) (a0:Int) (a1:Int) (a2:Int):Option (Bool):=
 cond (decide (a1<=a0)) (some (decide (a0<=a2))) (some false)
end
end
set_option maxRecDepth 100000
section
noncomputable section
end
end
set_option maxRecDepth 100000
section
noncomputable section
def k8 (k:Nat) (a0:Int):Option (Bool):=
 (nG k a0 (0:Int) (1000000:Int)).bind λr1=>some r1
end
end
set_option maxRecDepth 100000
section
noncomputable section
end
end
set_option maxRecDepth 100000
section
noncomputable section
def fi (k:Nat) (a0:Int):Option (Bool):=
 some (a0 !=a0)
def ez (k:Nat) (a0:Int) (a1:Int):Option (Int):=
 (fi k a0).bind λr1=>(fi k a1).bind λr2=>cond (r1) (cond (r2) (some (0:Int)) (some (-1:Int))) (cond (r2) (some (1:Int)) (cond (decide (a0<a1)) (some (-1:Int)) (cond (decide (a0>a1)) (some (1:Int)) (some (0:Int)))))
end
end
set_option maxRecDepth 100000
set_option maxHeartbeats 4000000
section
noncomputable section
def Cy (k:Nat) (a0:List Int):Option (Bool):=
 some (decide ((a0.length:Int)>(1048576:Int)))
def iA {ρ:Type} (k:Nat) (p:List Int) (v:Int× Int) (next:(Int× Int)->Option ρ) (x0:Int->Option ρ):Option ρ:=
 cond (decide (v.2<(p.length:Int))) (cond (decide (v.2<4000)) ((idx p v.2).bind λe1=>next (i64.wrap (((BitVec.ofInt i64.bits (i64.wrap ((i64.wrap ((i64.wrap (v.1*149))+(i64.wrap (e1))))+11))&&& BitVec.ofInt i64.bits (1073741823:Int)).toNat:Int)),i64.wrap (v.2+1))) (x0 v.1)) (x0 v.1)
def gT (k:Nat) (a0:List Int):Option (Int× Int):=
 iter (λu3 n3=>iA k a0 u3 n3 (λy2=>cond (decide (a0=a0)) (some ((0:Int),y2)) none)) k (i64.wrap ((778778:Int)+(a0.length:Int)),(0:Int))
def k9 (k:Nat) (a0:List Int) (a1:Int):Option (Int):=
 cond (decide ((i64.wrap ((2:Int)+(i64.wrap ((a0.length:Int).tdiv (16:Int)))))>a1)) (some a1) (some (i64.wrap ((2:Int)+(i64.wrap ((a0.length:Int).tdiv (16:Int))))))
def dU (k:Nat) (dJ:List Int) (vo:Int) (sC:Int):Option (Int× Int× Int):=
 cond (decide (vo<(dJ.length:Int))) ((idx dJ vo).bind λe1=>cond (decide (dJ=dJ)) (some (i64.wrap (((BitVec.ofInt i64.bits (i64.wrap ((i64.wrap (((BitVec.ofInt i64.bits (i64.wrap (((BitVec.ofInt i64.bits ((i64.wrap ((i64.wrap (sC*6364136223846793005))+1442695040888963407)).fdiv (2^(min (33:Int).toNat i64.bits)))^^^ BitVec.ofInt i64.bits ((i64.wrap ((i64.wrap (sC*6364136223846793005))+1442695040888963407)).fdiv (2^(min (45:Int).toNat i64.bits)))).toNat:Int)))&&& BitVec.ofInt i64.bits (255:Int)).toNat:Int)))+(i64.wrap (e1))))&&& BitVec.ofInt i64.bits (255:Int)).toNat:Int)),i64.wrap (vo+1),i64.wrap ((i64.wrap (sC*6364136223846793005))+1442695040888963407))) none) (cond (decide (dJ=dJ)) (some (i64.wrap (((BitVec.ofInt i64.bits (i64.wrap (((BitVec.ofInt i64.bits ((i64.wrap ((i64.wrap (sC*6364136223846793005))+1442695040888963407)).fdiv (2^(min (33:Int).toNat i64.bits)))^^^ BitVec.ofInt i64.bits ((i64.wrap ((i64.wrap (sC*6364136223846793005))+1442695040888963407)).fdiv (2^(min (45:Int).toNat i64.bits)))).toNat:Int)))&&& BitVec.ofInt i64.bits (255:Int)).toNat:Int)),vo,i64.wrap ((i64.wrap (sC*6364136223846793005))+1442695040888963407))) none)
def ba (k:Nat) (dJ:List Int) (vo:Int) (sC:Int) (a1:Int):Option (Int× Int× Int):=
 cond (decide (a1<=0)) (cond (decide (dJ=dJ)) (some ((0:Int),vo,sC)) none) (cond (decide (a1<=256)) ((dU k dJ vo sC).bind λr1=>cond (decide (a1=0)) none (cond (decide (dJ=dJ)) (some (r1.1.tmod a1,r1.2.1,r1.2.2)) none)) ((dU k dJ vo sC).bind λr2=>(dU k dJ r2.2.1 r2.2.2).bind λr3=>(dU k dJ r3.2.1 r3.2.2).bind λr4=>cond (decide (a1=0)) none (cond (decide (dJ=dJ)) (some ((i64.wrap ((i64.wrap ((i64.wrap (r2.1*65536))+(i64.wrap (r3.1*256))))+r4.1)).tmod a1,r4.2.1,r4.2.2)) none)))
def bB (k:Nat) (dJ:List Int) (vo:Int) (sC:Int) (a1:List Int):Option (Int× Int× Int):=
 (ba k dJ vo sC (a1.length:Int)).bind λr1=>(idx a1 r1.1).bind λe2=>cond (decide (dJ=dJ)) (some (e2,r1.2.1,r1.2.2)) none
def dr (k:Nat) (dJ:List Int) (vo:Int) (sC:Int) (a1:Int):Option (Bool× Int× Int):=
 (ba k dJ vo sC a1).bind λr1=>cond (decide (dJ=dJ)) (some (r1.1==0,r1.2.1,r1.2.2)) none
end
end
set_option maxRecDepth 100000
set_option maxHeartbeats 4000000
section
noncomputable section
def la {ρ:Type} (k:Nat) (p:List Int× List Int) (v:Int) (next:Int->Option ρ) (x0:Unit->Option ρ) (qC:Bool->Option ρ):Option ρ:=
 cond (decide (v<(p.1.length:Int))) ((idx p.1 v).bind λe1=>(idx p.2 v).bind λe2=>cond (e1 !=e2) (qC false) (next (i64.wrap (v+1)))) (x0 ())
def ml (k:Nat) (a0:List Int) (a1:List Int):Option (Bool):=
 cond ((a0.length:Int) !=(a1.length:Int)) (some false) (iter (λu5 n5=>la k (a0,a1) u5 n5 (λy3=>some true) (λy4=>some y4)) k (0:Int))
end
end
set_option maxRecDepth 100000
set_option maxHeartbeats 4000000
section
noncomputable section
def fj {ρ:Type} (k:Nat) (p:List Int× Int× List Int) (v:Bool× Int× List Int) (next:(Bool× Int× List Int)->Option ρ) (x2:(Bool× List Int)->Option ρ):Option ρ:=
 cond (decide (v.2.1<(p.2.2.length:Int))) (cond (!v.1) ((idx p.1 p.2.1).bind λe1=>cond (decide (0<=v.2.1/\v.2.1<(p.2.2.length:Int))) ((p.2.2[v.2.1.toNat]?).bind λe2=>(idx p.1 e2).bind λe3=>cond (decide (e1<e3)) (cond (Nat.ble (v.2.2.length+[p.2.1].length) fC) (cond (decide (0<=v.2.1/\v.2.1<(p.2.2.length:Int))) ((p.2.2[v.2.1.toNat]?).bind λe4=>cond (Nat.ble ((v.2.2++[p.2.1]).length+[e4].length) fC) (next (true,i64.wrap (v.2.1+1),(v.2.2++[p.2.1])++[e4])) none) none) none) (cond (decide (0<=v.2.1/\v.2.1<(p.2.2.length:Int))) ((p.2.2[v.2.1.toNat]?).bind λe5=>cond (Nat.ble (v.2.2.length+[e5].length) fC) (next (v.1,i64.wrap (v.2.1+1),v.2.2++[e5])) none) none)) none) (cond (decide (0<=v.2.1/\v.2.1<(p.2.2.length:Int))) ((p.2.2[v.2.1.toNat]?).bind λe6=>cond (Nat.ble (v.2.2.length+[e6].length) fC) (next (v.1,i64.wrap (v.2.1+1),v.2.2++[e6])) none) none)) (x2 (v.1,v.2.2))
def iB {ρ:Type} (k:Nat) (p:List Int) (v:Int× List Int) (next:(Int× List Int)->Option ρ) (x0:(List Int)->Option ρ):Option ρ:=
 cond (decide (v.1<(p.length:Int))) (iter (λu8 n8=>fj k (p,v.1,v.2) u8 n8 (λy7=>cond (!y7.1) (cond (Nat.ble (y7.2.length+[v.1].length) fC) (next (i64.wrap (v.1+1),y7.2++[v.1])) none) (next (i64.wrap (v.1+1),y7.2)))) k (false,(0:Int),([]:List Int))) (x0 v.2)
def fx (k:Nat) (a0:List Int):Option (List Int):=
 iter (λu10 n10=>iB k a0 u10 n10 (λy9=>some y9)) k ((0:Int),([]:List Int))
def dZ (k:Nat) (a0:List Int):Option (List Int):=
 (fx k a0).bind λr1=>some r1
def dt (k:Nat) (a0:Int):Option (Int):=
 some a0
def bC (k:Nat) (a0:Int) (a1:Int) (D3:List Int):Option (Int):=
 (idx D3 a0).bind λe1=>(dt k e1).bind λr2=>(idx D3 a1).bind λe3=>(dt k e3).bind λr4=>(ez k r2 r4).bind λr5=>cond (decide (D3=D3)) (some r5) none
def aD {ρ:Type} (k:Nat) (p:Int× Int× Int× List Int) (v:Int× List Int) (next:(Int× List Int)->Option ρ) (x2:(List Int)->Option ρ):Option ρ:=
 cond (decide (v.1>p.1)) (cond (decide (0<=v.1/\v.1<(v.2.length:Int))) ((v.2[v.1.toNat]?).bind λe1=>cond (decide (0<=(i64.wrap (v.1-1))/\(i64.wrap (v.1-1))<(v.2.length:Int))) ((v.2[(i64.wrap (v.1-1)).toNat]?).bind λe2=>(bC k e1 e2 p.2.2.2).bind λr3=>cond (decide (r3<0)) (cond (decide (0<=(i64.wrap (v.1-1))/\(i64.wrap (v.1-1))<(v.2.length:Int))) ((v.2[(i64.wrap (v.1-1)).toNat]?).bind λe4=>cond (decide (0<=v.1/\v.1<(v.2.length:Int))) ((v.2[v.1.toNat]?).bind λe5=>cond (decide (0<=v.1/\v.1<(v.2.length:Int))) (cond (decide (0<=(i64.wrap (v.1-1))/\(i64.wrap (v.1-1))<(v.2.length:Int))) (next (i64.wrap (v.1-1),(v.2.set v.1.toNat e4).set ((i64.wrap (v.1-1)).toNat) e5)) none) none) none) none) (x2 v.2)) none) none) (x2 v.2)
def ai {ρ:Type} (k:Nat) (p:Int× Int× List Int) (v:Int× List Int) (next:(Int× List Int)->Option ρ) (x0:(List Int)->Option ρ):Option ρ:=
 cond (decide (v.1<p.2.1)) (iter (λu7 n7=>aD k (p.1,p.2.1,v.1,p.2.2) u7 n7 (λy6=>next (i64.wrap (v.1+1),y6))) k (v.1,v.2)) (x0 v.2)
def aI (k:Nat) (a0:List Int) (a1:Int) (a2:Int) (zp:List Int):Option (List Int):=
 iter (λu9 n9=>ai k (a1,a2,zp) u9 n9 (λy8=>cond (decide (zp=zp)) (some y8) none)) k (i64.wrap (a1+1),a0)
def aK {ρ:Type} (k:Nat) (p:Int× Int× Int× List Int) (v:Int× List Int) (next:(Int× List Int)->Option ρ) (x0:(List Int)->Option ρ):Option ρ:=
 cond (decide (v.1<p.2.2.1)) (cond (decide (0<=(i64.wrap (p.2.1+v.1))/\(i64.wrap (p.2.1+v.1))<(v.2.length:Int))) ((v.2[(i64.wrap (p.2.1+v.1)).toNat]?).bind λe1=>cond (decide (0<=(i64.wrap (p.1+v.1))/\(i64.wrap (p.1+v.1))<(v.2.length:Int))) ((v.2[(i64.wrap (p.1+v.1)).toNat]?).bind λe2=>cond (decide (0<=(i64.wrap (p.1+v.1))/\(i64.wrap (p.1+v.1))<(v.2.length:Int))) (cond (decide (0<=(i64.wrap (p.2.1+v.1))/\(i64.wrap (p.2.1+v.1))<(v.2.length:Int))) (next (i64.wrap (v.1+1),(v.2.set ((i64.wrap (p.1+v.1)).toNat) e1).set ((i64.wrap (p.2.1+v.1)).toNat) e2)) none) none) none) none) (x0 v.2)
def aB (k:Nat) (a0:List Int) (a1:Int) (a2:Int) (a3:Int) (bm:List Int):Option (List Int):=
 iter (λu4 n4=>aK k (a1,a2,a3,bm) u4 n4 (λy3=>cond (decide (bm=bm)) (some y3) none)) k ((0:Int),a0)
def ay {ρ:Type} (k:Nat) (p:Int× List Int) (v:Int× Int× List Int) (next:(Int× Int× List Int)->Option ρ) (x0:(Int× List Int)->Option ρ):Option ρ:=
 cond (v.1 !=v.2.1) (cond (decide (v.1>v.2.1)) ((aB k v.2.2 (i64.wrap (p.1-v.1)) p.1 v.2.1 p.2).bind λr1=>next (i64.wrap (v.1-v.2.1),v.2.1,r1)) ((aB k v.2.2 (i64.wrap (p.1-v.1)) (i64.wrap ((i64.wrap (p.1+v.2.1))-v.1)) v.1 p.2).bind λr2=>next (v.1,i64.wrap (v.2.1-v.1),r2))) (x0 (v.1,v.2.2))
def bd (k:Nat) (a0:List Int) (a1:Int) (a2:Int) (a3:Int) (bm:List Int):Option (List Int):=
 iter (λu5 n5=>ay k (a2,bm) u5 n5 (λy3=>(aB k y3.2 (i64.wrap (a2-y3.1)) a2 y3.1 bm).bind λr4=>cond (decide (bm=bm)) (some r4) none)) k (i64.wrap (a2-a1),i64.wrap (a3-a2),a0)
def ao {ρ:Type} (k:Nat) (p:Int× List Int× List Int) (v:Int× Int) (next:(Int× Int)->Option ρ) (x0:Int->Option ρ):Option ρ:=
 cond (decide (v.1<v.2)) (cond (decide (0<=(i64.wrap ((u64.wrap (i64.wrap (v.1+v.2))).fdiv (2^(min (1:Int).toNat u64.bits))))/\(i64.wrap ((u64.wrap (i64.wrap (v.1+v.2))).fdiv (2^(min (1:Int).toNat u64.bits))))<(p.2.1.length:Int))) ((p.2.1[(i64.wrap ((u64.wrap (i64.wrap (v.1+v.2))).fdiv (2^(min (1:Int).toNat u64.bits)))).toNat]?).bind λe1=>cond (decide (0<=p.1/\p.1<(p.2.1.length:Int))) ((p.2.1[p.1.toNat]?).bind λe2=>(bC k e1 e2 p.2.2).bind λr3=>cond (decide (r3<0)) (next (i64.wrap ((i64.wrap ((u64.wrap (i64.wrap (v.1+v.2))).fdiv (2^(min (1:Int).toNat u64.bits))))+1),v.2)) (next (v.1,i64.wrap ((u64.wrap (i64.wrap (v.1+v.2))).fdiv (2^(min (1:Int).toNat u64.bits)))))) none) none) (x0 v.1)
def ae {ρ:Type} (k:Nat) (p:Int× List Int) (v:Int× List Int) (next:(Int× List Int)->Option ρ) (x2:(List Int)->Option ρ):Option ρ:=
 cond (decide (v.1<(i64.wrap (p.1-1)))) (cond (decide (0<=(i64.wrap (v.1+1))/\(i64.wrap (v.1+1))<(v.2.length:Int))) ((v.2[(i64.wrap (v.1+1)).toNat]?).bind λe6=>cond (decide (0<=v.1/\v.1<(v.2.length:Int))) ((v.2[v.1.toNat]?).bind λe7=>cond (decide (0<=v.1/\v.1<(v.2.length:Int))) (cond (decide (0<=(i64.wrap (v.1+1))/\(i64.wrap (v.1+1))<(v.2.length:Int))) (next (i64.wrap (v.1+1),(v.2.set v.1.toNat e6).set ((i64.wrap (v.1+1)).toNat) e7)) none) none) none) none) (x2 v.2)
def aq {ρ:Type} (k:Nat) (p:Int× List Int× List Int) (v:Int× Int) (next:(Int× Int)->Option ρ) (x4:Int->Option ρ):Option ρ:=
 cond (decide (v.1<v.2)) (cond (decide (0<=p.1/\p.1<(p.2.1.length:Int))) ((p.2.1[p.1.toNat]?).bind λe11=>cond (decide (0<=(i64.wrap ((u64.wrap (i64.wrap (v.1+v.2))).fdiv (2^(min (1:Int).toNat u64.bits))))/\(i64.wrap ((u64.wrap (i64.wrap (v.1+v.2))).fdiv (2^(min (1:Int).toNat u64.bits))))<(p.2.1.length:Int))) ((p.2.1[(i64.wrap ((u64.wrap (i64.wrap (v.1+v.2))).fdiv (2^(min (1:Int).toNat u64.bits)))).toNat]?).bind λe12=>(bC k e11 e12 p.2.2).bind λr13=>cond (!(decide (r13<0))) (next (i64.wrap ((i64.wrap ((u64.wrap (i64.wrap (v.1+v.2))).fdiv (2^(min (1:Int).toNat u64.bits))))+1),v.2)) (next (v.1,i64.wrap ((u64.wrap (i64.wrap (v.1+v.2))).fdiv (2^(min (1:Int).toNat u64.bits)))))) none) none) (x4 v.1)
def ag {ρ:Type} (k:Nat) (p:Int× List Int) (v:Int× List Int) (next:(Int× List Int)->Option ρ) (x6:(List Int)->Option ρ):Option ρ:=
 cond (decide (v.1>p.1)) (cond (decide (0<=(i64.wrap (v.1-1))/\(i64.wrap (v.1-1))<(v.2.length:Int))) ((v.2[(i64.wrap (v.1-1)).toNat]?).bind λe16=>cond (decide (0<=v.1/\v.1<(v.2.length:Int))) ((v.2[v.1.toNat]?).bind λe17=>cond (decide (0<=v.1/\v.1<(v.2.length:Int))) (cond (decide (0<=(i64.wrap (v.1-1))/\(i64.wrap (v.1-1))<(v.2.length:Int))) (next (i64.wrap (v.1-1),(v.2.set v.1.toNat e16).set ((i64.wrap (v.1-1)).toNat) e17)) none) none) none) none) (x6 v.2)
def ar {ρ:Type} (k:Nat) (p:Int× Int× Int× Int× Int× Int× List Int× List Int) (v:Int× Int) (next:(Int× Int)->Option ρ) (x8:Int->Option ρ):Option ρ:=
 cond (decide (v.1<v.2)) (cond (decide (0<=(i64.wrap (p.2.2.2.2.2.1-(i64.wrap ((u64.wrap (i64.wrap (v.1+v.2))).fdiv (2^(min (1:Int).toNat u64.bits))))))/\(i64.wrap (p.2.2.2.2.2.1-(i64.wrap ((u64.wrap (i64.wrap (v.1+v.2))).fdiv (2^(min (1:Int).toNat u64.bits))))))<(p.2.2.2.2.2.2.1.length:Int))) ((p.2.2.2.2.2.2.1[(i64.wrap (p.2.2.2.2.2.1-(i64.wrap ((u64.wrap (i64.wrap (v.1+v.2))).fdiv (2^(min (1:Int).toNat u64.bits)))))).toNat]?).bind λe22=>cond (decide (0<=(i64.wrap ((u64.wrap (i64.wrap (v.1+v.2))).fdiv (2^(min (1:Int).toNat u64.bits))))/\(i64.wrap ((u64.wrap (i64.wrap (v.1+v.2))).fdiv (2^(min (1:Int).toNat u64.bits))))<(p.2.2.2.2.2.2.1.length:Int))) ((p.2.2.2.2.2.2.1[(i64.wrap ((u64.wrap (i64.wrap (v.1+v.2))).fdiv (2^(min (1:Int).toNat u64.bits)))).toNat]?).bind λe23=>(bC k e22 e23 p.2.2.2.2.2.2.2).bind λr24=>cond (!(decide (r24<0))) (next (i64.wrap ((i64.wrap ((u64.wrap (i64.wrap (v.1+v.2))).fdiv (2^(min (1:Int).toNat u64.bits))))+1),v.2)) (next (v.1,i64.wrap ((u64.wrap (i64.wrap (v.1+v.2))).fdiv (2^(min (1:Int).toNat u64.bits)))))) none) none) (x8 v.1)
def bf (k:Nat) (self:(List Int)->Int->Int->Int->(List Int)->Option (List Int)) (a0:List Int) (a1:Int) (a2:Int) (a3:Int) (bm:List Int):Option (List Int):=
 cond ((i64.wrap (a2-a1))==1) (iter (λu10 n10=>ao k (a1,a0,bm) u10 n10 (λy5=>iter (λu9 n9=>ae k (y5,bm) u9 n9 (λy8=>cond (decide (bm=bm)) (some y8) none)) k (a1,a0))) k (a2,a3)) (cond ((i64.wrap (a3-a2))==1) (iter (λu20 n20=>aq k (a2,a0,bm) u20 n20 (λy15=>iter (λu19 n19=>ag k (y15,bm) u19 n19 (λy18=>cond (decide (bm=bm)) (some y18) none)) k (a2,a0))) k (a1,a2)) (bej (λ(j21:Int->Int->Option _)=>cond (decide (a2>(i64.wrap ((u64.wrap (i64.wrap (a1+a3))).fdiv (2^(min (1:Int).toNat u64.bits)))))) ((j21 (i64.wrap ((i64.wrap ((i64.wrap ((u64.wrap (i64.wrap (a1+a3))).fdiv (2^(min (1:Int).toNat u64.bits))))+a2))-a3)) (i64.wrap ((u64.wrap (i64.wrap (a1+a3))).fdiv (2^(min (1:Int).toNat u64.bits)))))) ((j21 a1 a2))) (λ(j21_5:Int) (j21_6:Int)=>iter (λu41 n41=>ar k (a1,a2,a3,i64.wrap ((u64.wrap (i64.wrap (a1+a3))).fdiv (2^(min (1:Int).toNat u64.bits))),i64.wrap ((i64.wrap ((u64.wrap (i64.wrap (a1+a3))).fdiv (2^(min (1:Int).toNat u64.bits))))+a2),i64.wrap ((i64.wrap ((i64.wrap ((u64.wrap (i64.wrap (a1+a3))).fdiv (2^(min (1:Int).toNat u64.bits))))+a2))-1),a0,bm) u41 n41 (λy26=>cond (decide (y26<a2)) (bej (λ(j28:(List Int)->Option _)=>cond (decide (a2<(i64.wrap ((i64.wrap ((i64.wrap ((u64.wrap (i64.wrap (a1+a3))).fdiv (2^(min (1:Int).toNat u64.bits))))+a2))-y26)))) ((bd k a0 y26 a2 (i64.wrap ((i64.wrap ((i64.wrap ((u64.wrap (i64.wrap (a1+a3))).fdiv (2^(min (1:Int).toNat u64.bits))))+a2))-y26)) bm).bind λr27=>(j28 r27)) ((j28 a0))) (λ(j28_5:List Int)=>cond (decide (a1<y26)) (bej (λ(j30:(List Int)->Option _)=>cond (decide (y26<(i64.wrap ((u64.wrap (i64.wrap (a1+a3))).fdiv (2^(min (1:Int).toNat u64.bits)))))) ((self j28_5 a1 y26 (i64.wrap ((u64.wrap (i64.wrap (a1+a3))).fdiv (2^(min (1:Int).toNat u64.bits)))) bm).bind λr29=>(j30 r29)) ((j30 j28_5))) (λ(j30_3:List Int)=>cond (decide ((i64.wrap ((u64.wrap (i64.wrap (a1+a3))).fdiv (2^(min (1:Int).toNat u64.bits))))<(i64.wrap ((i64.wrap ((i64.wrap ((u64.wrap (i64.wrap (a1+a3))).fdiv (2^(min (1:Int).toNat u64.bits))))+a2))-y26)))) (cond (decide ((i64.wrap ((i64.wrap ((i64.wrap ((u64.wrap (i64.wrap (a1+a3))).fdiv (2^(min (1:Int).toNat u64.bits))))+a2))-y26))<a3)) ((self j30_3 (i64.wrap ((u64.wrap (i64.wrap (a1+a3))).fdiv (2^(min (1:Int).toNat u64.bits)))) (i64.wrap ((i64.wrap ((i64.wrap ((u64.wrap (i64.wrap (a1+a3))).fdiv (2^(min (1:Int).toNat u64.bits))))+a2))-y26)) a3 bm).bind λr31=>cond (decide (bm=bm)) (some r31) none) (cond (decide (bm=bm)) (some j30_3) none)) (cond (decide (bm=bm)) (some j30_3) none))) (cond (decide ((i64.wrap ((u64.wrap (i64.wrap (a1+a3))).fdiv (2^(min (1:Int).toNat u64.bits))))<(i64.wrap ((i64.wrap ((i64.wrap ((u64.wrap (i64.wrap (a1+a3))).fdiv (2^(min (1:Int).toNat u64.bits))))+a2))-y26)))) (cond (decide ((i64.wrap ((i64.wrap ((i64.wrap ((u64.wrap (i64.wrap (a1+a3))).fdiv (2^(min (1:Int).toNat u64.bits))))+a2))-y26))<a3)) ((self j28_5 (i64.wrap ((u64.wrap (i64.wrap (a1+a3))).fdiv (2^(min (1:Int).toNat u64.bits)))) (i64.wrap ((i64.wrap ((i64.wrap ((u64.wrap (i64.wrap (a1+a3))).fdiv (2^(min (1:Int).toNat u64.bits))))+a2))-y26)) a3 bm).bind λr33=>cond (decide (bm=bm)) (some r33) none) (cond (decide (bm=bm)) (some j28_5) none)) (cond (decide (bm=bm)) (some j28_5) none)))) (cond (decide (a1<y26)) (bej (λ(j36:(List Int)->Option _)=>cond (decide (y26<(i64.wrap ((u64.wrap (i64.wrap (a1+a3))).fdiv (2^(min (1:Int).toNat u64.bits)))))) ((self a0 a1 y26 (i64.wrap ((u64.wrap (i64.wrap (a1+a3))).fdiv (2^(min (1:Int).toNat u64.bits)))) bm).bind λr35=>(j36 r35)) ((j36 a0))) (λ(j36_3:List Int)=>cond (decide ((i64.wrap ((u64.wrap (i64.wrap (a1+a3))).fdiv (2^(min (1:Int).toNat u64.bits))))<(i64.wrap ((i64.wrap ((i64.wrap ((u64.wrap (i64.wrap (a1+a3))).fdiv (2^(min (1:Int).toNat u64.bits))))+a2))-y26)))) (cond (decide ((i64.wrap ((i64.wrap ((i64.wrap ((u64.wrap (i64.wrap (a1+a3))).fdiv (2^(min (1:Int).toNat u64.bits))))+a2))-y26))<a3)) ((self j36_3 (i64.wrap ((u64.wrap (i64.wrap (a1+a3))).fdiv (2^(min (1:Int).toNat u64.bits)))) (i64.wrap ((i64.wrap ((i64.wrap ((u64.wrap (i64.wrap (a1+a3))).fdiv (2^(min (1:Int).toNat u64.bits))))+a2))-y26)) a3 bm).bind λr37=>cond (decide (bm=bm)) (some r37) none) (cond (decide (bm=bm)) (some j36_3) none)) (cond (decide (bm=bm)) (some j36_3) none))) (cond (decide ((i64.wrap ((u64.wrap (i64.wrap (a1+a3))).fdiv (2^(min (1:Int).toNat u64.bits))))<(i64.wrap ((i64.wrap ((i64.wrap ((u64.wrap (i64.wrap (a1+a3))).fdiv (2^(min (1:Int).toNat u64.bits))))+a2))-y26)))) (cond (decide ((i64.wrap ((i64.wrap ((i64.wrap ((u64.wrap (i64.wrap (a1+a3))).fdiv (2^(min (1:Int).toNat u64.bits))))+a2))-y26))<a3)) ((self a0 (i64.wrap ((u64.wrap (i64.wrap (a1+a3))).fdiv (2^(min (1:Int).toNat u64.bits)))) (i64.wrap ((i64.wrap ((i64.wrap ((u64.wrap (i64.wrap (a1+a3))).fdiv (2^(min (1:Int).toNat u64.bits))))+a2))-y26)) a3 bm).bind λr39=>cond (decide (bm=bm)) (some r39) none) (cond (decide (bm=bm)) (some a0) none)) (cond (decide (bm=bm)) (some a0) none))))) k (j21_5,j21_6))))
def aE:Nat->(List Int)->Int->Int->Int->(List Int)->Option (List Int)
 |0=>λ_ _ _ _ _=>none
 |k+1=>bf k (aE k)
def bg {ρ:Type} (k:Nat) (p:Int× Int× List Int) (v:Int× Int× List Int) (next:(Int× Int× List Int)->Option ρ) (x0:(Int× List Int)->Option ρ):Option ρ:=
 cond (decide (v.2.1<=p.1)) ((aI k v.2.2 v.1 v.2.1 p.2.2).bind λr1=>next (v.2.1,i64.wrap (v.2.1+p.2.1),r1)) (x0 (v.1,v.2.2))
def bh {ρ:Type} (k:Nat) (p:Int× Int× List Int) (v:Int× Int× List Int) (next:(Int× Int× List Int)->Option ρ) (x4:(Int× List Int)->Option ρ):Option ρ:=
 cond (decide (v.2.1<=p.1)) ((aE k v.2.2 v.1 (i64.wrap (v.1+p.2.1)) v.2.1 p.2.2).bind λr4=>next (v.2.1,i64.wrap (v.2.1+(i64.wrap ((2:Int)*p.2.1))),r4)) (x4 (v.1,v.2.2))
def bA {ρ:Type} (k:Nat) (p:Int× List Int) (v:Int× List Int) (next:(Int× List Int)->Option ρ) (x2:(List Int)->Option ρ):Option ρ:=
 cond (decide (v.1<p.1)) (iter (λu7 n7=>bh k (p.1,v.1,p.2) u7 n7 (λy5=>cond (decide ((i64.wrap (y5.1+v.1))<p.1)) ((aE k y5.2 y5.1 (i64.wrap (y5.1+v.1)) p.1 p.2).bind λr6=>next (i64.wrap (v.1*2),r6)) (next (i64.wrap (v.1*2),y5.2)))) k ((0:Int),i64.wrap ((2:Int)*v.1),v.2)) (x2 v.2)
def br (k:Nat) (a0:List Int) (a1:Int) (rZ:List Int):Option (List Int):=
 iter (λu10 n10=>bg k (a1,(20:Int),rZ) u10 n10 (λy2=>(aI k y2.2 y2.1 a1 rZ).bind λr3=>iter (λu9 n9=>bA k (a1,rZ) u9 n9 (λy8=>cond (decide (rZ=rZ)) (some y8) none)) k ((20:Int),r3))) k ((0:Int),(20:Int),a0)
def aC (k:Nat) (a0:List Int) (zq:List Int):Option (List Int):=
 (br k a0 (a0.length:Int) zq).bind λr1=>cond (decide (zq=zq)) (some r1) none
def cc {ρ:Type} (k:Nat) (p:Int× List Int) (v:Int× List Int) (next:(Int× List Int)->Option ρ) (x0:(List Int)->Option ρ):Option ρ:=
 cond (decide (v.1<p.1)) (cond (Nat.ble (v.2.length+[v.1].length) fC) (next (i64.wrap (v.1+1),v.2++[v.1])) none) (x0 v.2)
def bN (k:Nat) (a0:List Int):Option (List Int):=
 iter (λu3 n3=>cc k ((a0.length:Int),a0) u3 n3 (λy1=>(aC k y1 a0).bind λr2=>some r2)) k ((0:Int),([]:List Int))
def du (k:Nat) (a0:List Int):Option (List Int):=
 (bN k a0).bind λr1=>some r1
end
end
set_option maxRecDepth 100000
set_option maxHeartbeats 4000000
section
noncomputable section
def lb (k:Nat) (a0:Wish):Option (Bool):=
 cond (decide (a0.id>=1)) (cond (decide (a0.model>=0)) ((k8 k a0.due).bind λr1=>some r1) (some false)) (some false)
def cZ {ρ:Type} (k:Nat) (p:List Wish× Int× Int× List Int) (v:Int) (next:Int->Option ρ) (x2:Unit->Option ρ) (qC:Bool->Option ρ):Option ρ:=
 cond (decide (v<p.2.2.1)) ((idx p.1 v).bind λe4=>(idx p.1 p.2.2.1).bind λe5=>cond (e4.id==e5.id) (qC false) (next (i64.wrap (v+1)))) (x2 ())
def cD {ρ:Type} (k:Nat) (p:List Wish× Int) (v:Int× List Int) (next:(Int× List Int)->Option ρ) (x0:(List Int)->Option ρ) (qC:Bool->Option ρ):Option ρ:=
 cond (decide (v.1<(p.1.length:Int))) ((idx p.1 v.1).bind λe2=>(lb k e2).bind λr3=>cond (!r3) (qC false) (iter (λu9 n9=>cZ k (p.1,p.2,v.1,v.2) u9 n9 (λy6=>(idx p.1 v.1).bind λe7=>cond (Nat.ble (v.2.length+[e7.due].length) fC) (next (i64.wrap (v.1+1),v.2++[e7.due])) none) (λy8=>qC y8)) k (0:Int))) (x0 v.2)
def c6 {ρ:Type} (k:Nat) (p:List Wish× Int× Int× List Int× List (List Int)× List Int× Int× Int× Int) (v:Int) (next:Int->Option ρ) (x6:Int->Option ρ):Option ρ:=
 cond (decide (v<(p.2.2.2.2.1.length:Int))) (cond (decide (0<=v/\v<(p.2.2.2.2.2.1.length:Int))) ((p.2.2.2.2.2.1[v.toNat]?).bind λe14=>cond (e14 !=p.2.2.2.2.2.2.2.1) (next (i64.wrap (v+1))) (cond (decide (0<=v/\v<(p.2.2.2.2.1.length:Int))) ((p.2.2.2.2.1[v.toNat]?).bind λe15=>cond (decide ((e15.length:Int)>=p.2.1)) (next (i64.wrap (v+1))) (x6 v)) none)) none) (x6 v)
def cj {ρ:Type} (k:Nat) (p:List Wish× Int× List Int) (v:Int× List (List Int)× List Int) (next:(Int× List (List Int)× List Int)->Option ρ) (x4:(List (List Int))->Option ρ):Option ρ:=
 cond (decide (v.1<(p.2.2.length:Int))) (cond (decide (0<=v.1/\v.1<(p.2.2.length:Int))) ((p.2.2[v.1.toNat]?).bind λe12=>(idx p.1 e12).bind λe13=>iter (λu21 n21=>c6 k (p.1,p.2.1,v.1,p.2.2,v.2.1,v.2.2,e13.id,e13.model,e13.due) u21 n21 (λy16=>cond (y16==(v.2.1.length:Int)) (cond (Nat.ble (v.2.1.length+1) fC) (cond (Nat.ble (v.2.2.length+[e13.model].length) fC) (cond (decide (0<=y16/\y16<((v.2.1++[([]:List Int)]).length:Int))) (((v.2.1++[([]:List Int)])[y16.toNat]?).bind λe17=>cond (Nat.ble (e17.length+[e13.id].length) fC) (cond (decide (0<=y16/\y16<((kA (v.2.1++[([]:List Int)]) y16.toNat).length:Int))) ((iJ ((kA (v.2.1++[([]:List Int)]) y16.toNat).set y16.toNat (some (e17++[e13.id])))).bind λz18=>next (i64.wrap (v.1+1),z18,v.2.2++[e13.model])) none) none) none) none) none) (cond (decide (0<=y16/\y16<(v.2.1.length:Int))) ((v.2.1[y16.toNat]?).bind λe19=>cond (Nat.ble (e19.length+[e13.id].length) fC) (cond (decide (0<=y16/\y16<((kA v.2.1 y16.toNat).length:Int))) ((iJ ((kA v.2.1 y16.toNat).set y16.toNat (some (e19++[e13.id])))).bind λz20=>next (i64.wrap (v.1+1),z20,v.2.2)) none) none) none))) k (0:Int)) none) (x4 v.2.1)
def fk (k:Nat) (a0:List Wish) (a1:Int):Option (List (List Int)× Bool):=
 (nG k a1 (1:Int) (8:Int)).bind λr1=>cond (!r1) (some (([]:List (List Int)),false)) (cond (decide ((a0.length:Int)>(300:Int))) (some (([]:List (List Int)),false)) (iter (λu25 n25=>cD k (a0,a1) u25 n25 (λy10=>(fx k y10).bind λr11=>iter (λu23 n23=>cj k (a0,a1,r11) u23 n23 (λy22=>some (y22,true))) k ((0:Int),([]:List (List Int)),([]:List Int))) (λy24=>some (([]:List (List Int)),y24))) k ((0:Int),([]:List Int))))
def areB:List Int->List Wish->Bool
 |_,[]=>true
 |seen,x::l=>cond (decide (x.id<1)||decide (x.model<0)||!(decide (0<=x.due)&&decide (x.due<=1000000))||seen.contains x.id) false (areB (seen++[x.id]) l)
def I_areWishes (k:Nat) (l:List Wish):Option Bool:=cond (decide (l.length<=2000000)&&l.all λx=>(Go.Lit.int .i64 x.id).wf) (some (areB [] l&&decide (l.length<=300))) none
def bO (k:Nat) (a0:List Wish):Option (List Wish):=
 cond (isNil a0) (both (some ([]:List Wish)) (cond (Nat.ble (([]:List Wish).length+a0.length) fC) (some (([]:List Wish)++a0)) none)) (cond (Nat.ble (([]:List Wish).length+a0.length) fC) (some (([]:List Wish)++a0)) none)
def bV (k:Nat) (a0:Wish) (a1:Wish):Option (Int):=
 (ez k a0.due a1.due).bind λr1=>some r1
def bn {ρ:Type} (k:Nat) (p:Int× Int× Int) (v:Int× List Wish) (next:(Int× List Wish)->Option ρ) (x2:(List Wish)->Option ρ):Option ρ:=
 cond (decide (v.1>p.1)) (cond (decide (0<=v.1/\v.1<(v.2.length:Int))) ((v.2[v.1.toNat]?).bind λe1=>cond (decide (0<=(i64.wrap (v.1-1))/\(i64.wrap (v.1-1))<(v.2.length:Int))) ((v.2[(i64.wrap (v.1-1)).toNat]?).bind λe2=>(bV k e1 e2).bind λr3=>cond (decide (r3<0)) (cond (decide (0<=(i64.wrap (v.1-1))/\(i64.wrap (v.1-1))<(v.2.length:Int))) ((v.2[(i64.wrap (v.1-1)).toNat]?).bind λe4=>cond (decide (0<=v.1/\v.1<(v.2.length:Int))) ((v.2[v.1.toNat]?).bind λe5=>cond (decide (0<=v.1/\v.1<(v.2.length:Int))) (cond (decide (0<=(i64.wrap (v.1-1))/\(i64.wrap (v.1-1))<(v.2.length:Int))) (next (i64.wrap (v.1-1),(v.2.set v.1.toNat e4).set ((i64.wrap (v.1-1)).toNat) e5)) none) none) none) none) (x2 v.2)) none) none) (x2 v.2)
def bo {ρ:Type} (k:Nat) (p:Int× Int) (v:Int× List Wish) (next:(Int× List Wish)->Option ρ) (x0:(List Wish)->Option ρ):Option ρ:=
 cond (decide (v.1<p.2)) (iter (λu7 n7=>bn k (p.1,p.2,v.1) u7 n7 (λy6=>next (i64.wrap (v.1+1),y6))) k (v.1,v.2)) (x0 v.2)
def bc (k:Nat) (a0:List Wish) (a1:Int) (a2:Int):Option (List Wish):=
 iter (λu9 n9=>bo k (a1,a2) u9 n9 (λy8=>some y8)) k (i64.wrap (a1+1),a0)
def bD {ρ:Type} (k:Nat) (p:Int× Int× Int) (v:Int× List Wish) (next:(Int× List Wish)->Option ρ) (x0:(List Wish)->Option ρ):Option ρ:=
 cond (decide (v.1<p.2.2)) (cond (decide (0<=(i64.wrap (p.2.1+v.1))/\(i64.wrap (p.2.1+v.1))<(v.2.length:Int))) ((v.2[(i64.wrap (p.2.1+v.1)).toNat]?).bind λe1=>cond (decide (0<=(i64.wrap (p.1+v.1))/\(i64.wrap (p.1+v.1))<(v.2.length:Int))) ((v.2[(i64.wrap (p.1+v.1)).toNat]?).bind λe2=>cond (decide (0<=(i64.wrap (p.1+v.1))/\(i64.wrap (p.1+v.1))<(v.2.length:Int))) (cond (decide (0<=(i64.wrap (p.2.1+v.1))/\(i64.wrap (p.2.1+v.1))<(v.2.length:Int))) (next (i64.wrap (v.1+1),(v.2.set ((i64.wrap (p.1+v.1)).toNat) e1).set ((i64.wrap (p.2.1+v.1)).toNat) e2)) none) none) none) none) (x0 v.2)
def aX (k:Nat) (a0:List Wish) (a1:Int) (a2:Int) (a3:Int):Option (List Wish):=
 iter (λu4 n4=>bD k (a1,a2,a3) u4 n4 (λy3=>some y3)) k ((0:Int),a0)
def bP {ρ:Type} (k:Nat) (p:Int) (v:Int× Int× List Wish) (next:(Int× Int× List Wish)->Option ρ) (x0:(Int× List Wish)->Option ρ):Option ρ:=
 cond (v.1 !=v.2.1) (cond (decide (v.1>v.2.1)) ((aX k v.2.2 (i64.wrap (p-v.1)) p v.2.1).bind λr1=>next (i64.wrap (v.1-v.2.1),v.2.1,r1)) ((aX k v.2.2 (i64.wrap (p-v.1)) (i64.wrap ((i64.wrap (p+v.2.1))-v.1)) v.1).bind λr2=>next (v.1,i64.wrap (v.2.1-v.1),r2))) (x0 (v.1,v.2.2))
def cd (k:Nat) (a0:List Wish) (a1:Int) (a2:Int) (a3:Int):Option (List Wish):=
 iter (λu5 n5=>bP k a2 u5 n5 (λy3=>(aX k y3.2 (i64.wrap (a2-y3.1)) a2 y3.1).bind λr4=>some r4)) k (i64.wrap (a2-a1),i64.wrap (a3-a2),a0)
def aM {ρ:Type} (k:Nat) (p:Int× List Wish) (v:Int× Int) (next:(Int× Int)->Option ρ) (x0:Int->Option ρ):Option ρ:=
 cond (decide (v.1<v.2)) (cond (decide (0<=(i64.wrap ((u64.wrap (i64.wrap (v.1+v.2))).fdiv (2^(min (1:Int).toNat u64.bits))))/\(i64.wrap ((u64.wrap (i64.wrap (v.1+v.2))).fdiv (2^(min (1:Int).toNat u64.bits))))<(p.2.length:Int))) ((p.2[(i64.wrap ((u64.wrap (i64.wrap (v.1+v.2))).fdiv (2^(min (1:Int).toNat u64.bits)))).toNat]?).bind λe1=>cond (decide (0<=p.1/\p.1<(p.2.length:Int))) ((p.2[p.1.toNat]?).bind λe2=>(bV k e1 e2).bind λr3=>cond (decide (r3<0)) (next (i64.wrap ((i64.wrap ((u64.wrap (i64.wrap (v.1+v.2))).fdiv (2^(min (1:Int).toNat u64.bits))))+1),v.2)) (next (v.1,i64.wrap ((u64.wrap (i64.wrap (v.1+v.2))).fdiv (2^(min (1:Int).toNat u64.bits)))))) none) none) (x0 v.1)
def aN {ρ:Type} (k:Nat) (p:Int) (v:Int× List Wish) (next:(Int× List Wish)->Option ρ) (x2:(List Wish)->Option ρ):Option ρ:=
 cond (decide (v.1<(i64.wrap (p-1)))) (cond (decide (0<=(i64.wrap (v.1+1))/\(i64.wrap (v.1+1))<(v.2.length:Int))) ((v.2[(i64.wrap (v.1+1)).toNat]?).bind λe6=>cond (decide (0<=v.1/\v.1<(v.2.length:Int))) ((v.2[v.1.toNat]?).bind λe7=>cond (decide (0<=v.1/\v.1<(v.2.length:Int))) (cond (decide (0<=(i64.wrap (v.1+1))/\(i64.wrap (v.1+1))<(v.2.length:Int))) (next (i64.wrap (v.1+1),(v.2.set v.1.toNat e6).set ((i64.wrap (v.1+1)).toNat) e7)) none) none) none) none) (x2 v.2)
def aO {ρ:Type} (k:Nat) (p:Int× List Wish) (v:Int× Int) (next:(Int× Int)->Option ρ) (x4:Int->Option ρ):Option ρ:=
 cond (decide (v.1<v.2)) (cond (decide (0<=p.1/\p.1<(p.2.length:Int))) ((p.2[p.1.toNat]?).bind λe11=>cond (decide (0<=(i64.wrap ((u64.wrap (i64.wrap (v.1+v.2))).fdiv (2^(min (1:Int).toNat u64.bits))))/\(i64.wrap ((u64.wrap (i64.wrap (v.1+v.2))).fdiv (2^(min (1:Int).toNat u64.bits))))<(p.2.length:Int))) ((p.2[(i64.wrap ((u64.wrap (i64.wrap (v.1+v.2))).fdiv (2^(min (1:Int).toNat u64.bits)))).toNat]?).bind λe12=>(bV k e11 e12).bind λr13=>cond (!(decide (r13<0))) (next (i64.wrap ((i64.wrap ((u64.wrap (i64.wrap (v.1+v.2))).fdiv (2^(min (1:Int).toNat u64.bits))))+1),v.2)) (next (v.1,i64.wrap ((u64.wrap (i64.wrap (v.1+v.2))).fdiv (2^(min (1:Int).toNat u64.bits)))))) none) none) (x4 v.1)
def aP {ρ:Type} (k:Nat) (p:Int) (v:Int× List Wish) (next:(Int× List Wish)->Option ρ) (x6:(List Wish)->Option ρ):Option ρ:=
 cond (decide (v.1>p)) (cond (decide (0<=(i64.wrap (v.1-1))/\(i64.wrap (v.1-1))<(v.2.length:Int))) ((v.2[(i64.wrap (v.1-1)).toNat]?).bind λe16=>cond (decide (0<=v.1/\v.1<(v.2.length:Int))) ((v.2[v.1.toNat]?).bind λe17=>cond (decide (0<=v.1/\v.1<(v.2.length:Int))) (cond (decide (0<=(i64.wrap (v.1-1))/\(i64.wrap (v.1-1))<(v.2.length:Int))) (next (i64.wrap (v.1-1),(v.2.set v.1.toNat e16).set ((i64.wrap (v.1-1)).toNat) e17)) none) none) none) none) (x6 v.2)
def aQ {ρ:Type} (k:Nat) (p:Int× Int× Int× Int× Int× Int× List Wish) (v:Int× Int) (next:(Int× Int)->Option ρ) (x8:Int->Option ρ):Option ρ:=
 cond (decide (v.1<v.2)) (cond (decide (0<=(i64.wrap (p.2.2.2.2.2.1-(i64.wrap ((u64.wrap (i64.wrap (v.1+v.2))).fdiv (2^(min (1:Int).toNat u64.bits))))))/\(i64.wrap (p.2.2.2.2.2.1-(i64.wrap ((u64.wrap (i64.wrap (v.1+v.2))).fdiv (2^(min (1:Int).toNat u64.bits))))))<(p.2.2.2.2.2.2.length:Int))) ((p.2.2.2.2.2.2[(i64.wrap (p.2.2.2.2.2.1-(i64.wrap ((u64.wrap (i64.wrap (v.1+v.2))).fdiv (2^(min (1:Int).toNat u64.bits)))))).toNat]?).bind λe22=>cond (decide (0<=(i64.wrap ((u64.wrap (i64.wrap (v.1+v.2))).fdiv (2^(min (1:Int).toNat u64.bits))))/\(i64.wrap ((u64.wrap (i64.wrap (v.1+v.2))).fdiv (2^(min (1:Int).toNat u64.bits))))<(p.2.2.2.2.2.2.length:Int))) ((p.2.2.2.2.2.2[(i64.wrap ((u64.wrap (i64.wrap (v.1+v.2))).fdiv (2^(min (1:Int).toNat u64.bits)))).toNat]?).bind λe23=>(bV k e22 e23).bind λr24=>cond (!(decide (r24<0))) (next (i64.wrap ((i64.wrap ((u64.wrap (i64.wrap (v.1+v.2))).fdiv (2^(min (1:Int).toNat u64.bits))))+1),v.2)) (next (v.1,i64.wrap ((u64.wrap (i64.wrap (v.1+v.2))).fdiv (2^(min (1:Int).toNat u64.bits)))))) none) none) (x8 v.1)
def bI (k:Nat) (self:(List Wish)->Int->Int->Int->Option (List Wish)) (a0:List Wish) (a1:Int) (a2:Int) (a3:Int):Option (List Wish):=
 cond ((i64.wrap (a2-a1))==1) (iter (λu10 n10=>aM k (a1,a0) u10 n10 (λy5=>iter (λu9 n9=>aN k y5 u9 n9 (λy8=>some y8)) k (a1,a0))) k (a2,a3)) (cond ((i64.wrap (a3-a2))==1) (iter (λu20 n20=>aO k (a2,a0) u20 n20 (λy15=>iter (λu19 n19=>aP k y15 u19 n19 (λy18=>some y18)) k (a2,a0))) k (a1,a2)) (bej (λ(j21:Int->Int->Option _)=>cond (decide (a2>(i64.wrap ((u64.wrap (i64.wrap (a1+a3))).fdiv (2^(min (1:Int).toNat u64.bits)))))) ((j21 (i64.wrap ((i64.wrap ((i64.wrap ((u64.wrap (i64.wrap (a1+a3))).fdiv (2^(min (1:Int).toNat u64.bits))))+a2))-a3)) (i64.wrap ((u64.wrap (i64.wrap (a1+a3))).fdiv (2^(min (1:Int).toNat u64.bits)))))) ((j21 a1 a2))) (λ(j21_5:Int) (j21_6:Int)=>iter (λu41 n41=>aQ k (a1,a2,a3,i64.wrap ((u64.wrap (i64.wrap (a1+a3))).fdiv (2^(min (1:Int).toNat u64.bits))),i64.wrap ((i64.wrap ((u64.wrap (i64.wrap (a1+a3))).fdiv (2^(min (1:Int).toNat u64.bits))))+a2),i64.wrap ((i64.wrap ((i64.wrap ((u64.wrap (i64.wrap (a1+a3))).fdiv (2^(min (1:Int).toNat u64.bits))))+a2))-1),a0) u41 n41 (λy26=>cond (decide (y26<a2)) (bej (λ(j28:(List Wish)->Option _)=>cond (decide (a2<(i64.wrap ((i64.wrap ((i64.wrap ((u64.wrap (i64.wrap (a1+a3))).fdiv (2^(min (1:Int).toNat u64.bits))))+a2))-y26)))) ((cd k a0 y26 a2 (i64.wrap ((i64.wrap ((i64.wrap ((u64.wrap (i64.wrap (a1+a3))).fdiv (2^(min (1:Int).toNat u64.bits))))+a2))-y26))).bind λr27=>(j28 r27)) ((j28 a0))) (λ(j28_5:List Wish)=>cond (decide (a1<y26)) (bej (λ(j30:(List Wish)->Option _)=>cond (decide (y26<(i64.wrap ((u64.wrap (i64.wrap (a1+a3))).fdiv (2^(min (1:Int).toNat u64.bits)))))) ((self j28_5 a1 y26 (i64.wrap ((u64.wrap (i64.wrap (a1+a3))).fdiv (2^(min (1:Int).toNat u64.bits))))).bind λr29=>(j30 r29)) ((j30 j28_5))) (λ(j30_3:List Wish)=>cond (decide ((i64.wrap ((u64.wrap (i64.wrap (a1+a3))).fdiv (2^(min (1:Int).toNat u64.bits))))<(i64.wrap ((i64.wrap ((i64.wrap ((u64.wrap (i64.wrap (a1+a3))).fdiv (2^(min (1:Int).toNat u64.bits))))+a2))-y26)))) (cond (decide ((i64.wrap ((i64.wrap ((i64.wrap ((u64.wrap (i64.wrap (a1+a3))).fdiv (2^(min (1:Int).toNat u64.bits))))+a2))-y26))<a3)) ((self j30_3 (i64.wrap ((u64.wrap (i64.wrap (a1+a3))).fdiv (2^(min (1:Int).toNat u64.bits)))) (i64.wrap ((i64.wrap ((i64.wrap ((u64.wrap (i64.wrap (a1+a3))).fdiv (2^(min (1:Int).toNat u64.bits))))+a2))-y26)) a3).bind λr31=>some r31) (some j30_3)) (some j30_3))) (cond (decide ((i64.wrap ((u64.wrap (i64.wrap (a1+a3))).fdiv (2^(min (1:Int).toNat u64.bits))))<(i64.wrap ((i64.wrap ((i64.wrap ((u64.wrap (i64.wrap (a1+a3))).fdiv (2^(min (1:Int).toNat u64.bits))))+a2))-y26)))) (cond (decide ((i64.wrap ((i64.wrap ((i64.wrap ((u64.wrap (i64.wrap (a1+a3))).fdiv (2^(min (1:Int).toNat u64.bits))))+a2))-y26))<a3)) ((self j28_5 (i64.wrap ((u64.wrap (i64.wrap (a1+a3))).fdiv (2^(min (1:Int).toNat u64.bits)))) (i64.wrap ((i64.wrap ((i64.wrap ((u64.wrap (i64.wrap (a1+a3))).fdiv (2^(min (1:Int).toNat u64.bits))))+a2))-y26)) a3).bind λr33=>some r33) (some j28_5)) (some j28_5)))) (cond (decide (a1<y26)) (bej (λ(j36:(List Wish)->Option _)=>cond (decide (y26<(i64.wrap ((u64.wrap (i64.wrap (a1+a3))).fdiv (2^(min (1:Int).toNat u64.bits)))))) ((self a0 a1 y26 (i64.wrap ((u64.wrap (i64.wrap (a1+a3))).fdiv (2^(min (1:Int).toNat u64.bits))))).bind λr35=>(j36 r35)) ((j36 a0))) (λ(j36_3:List Wish)=>cond (decide ((i64.wrap ((u64.wrap (i64.wrap (a1+a3))).fdiv (2^(min (1:Int).toNat u64.bits))))<(i64.wrap ((i64.wrap ((i64.wrap ((u64.wrap (i64.wrap (a1+a3))).fdiv (2^(min (1:Int).toNat u64.bits))))+a2))-y26)))) (cond (decide ((i64.wrap ((i64.wrap ((i64.wrap ((u64.wrap (i64.wrap (a1+a3))).fdiv (2^(min (1:Int).toNat u64.bits))))+a2))-y26))<a3)) ((self j36_3 (i64.wrap ((u64.wrap (i64.wrap (a1+a3))).fdiv (2^(min (1:Int).toNat u64.bits)))) (i64.wrap ((i64.wrap ((i64.wrap ((u64.wrap (i64.wrap (a1+a3))).fdiv (2^(min (1:Int).toNat u64.bits))))+a2))-y26)) a3).bind λr37=>some r37) (some j36_3)) (some j36_3))) (cond (decide ((i64.wrap ((u64.wrap (i64.wrap (a1+a3))).fdiv (2^(min (1:Int).toNat u64.bits))))<(i64.wrap ((i64.wrap ((i64.wrap ((u64.wrap (i64.wrap (a1+a3))).fdiv (2^(min (1:Int).toNat u64.bits))))+a2))-y26)))) (cond (decide ((i64.wrap ((i64.wrap ((i64.wrap ((u64.wrap (i64.wrap (a1+a3))).fdiv (2^(min (1:Int).toNat u64.bits))))+a2))-y26))<a3)) ((self a0 (i64.wrap ((u64.wrap (i64.wrap (a1+a3))).fdiv (2^(min (1:Int).toNat u64.bits)))) (i64.wrap ((i64.wrap ((i64.wrap ((u64.wrap (i64.wrap (a1+a3))).fdiv (2^(min (1:Int).toNat u64.bits))))+a2))-y26)) a3).bind λr39=>some r39) (some a0)) (some a0))))) k (j21_5,j21_6))))
def aL:Nat->(List Wish)->Int->Int->Int->Option (List Wish)
 |0=>λ_ _ _ _=>none
 |k+1=>bI k (aL k)
def bQ {ρ:Type} (k:Nat) (p:Int× Int) (v:Int× Int× List Wish) (next:(Int× Int× List Wish)->Option ρ) (x0:(Int× List Wish)->Option ρ):Option ρ:=
 cond (decide (v.2.1<=p.1)) ((bc k v.2.2 v.1 v.2.1).bind λr1=>next (v.2.1,i64.wrap (v.2.1+p.2),r1)) (x0 (v.1,v.2.2))
def bR {ρ:Type} (k:Nat) (p:Int× Int) (v:Int× Int× List Wish) (next:(Int× Int× List Wish)->Option ρ) (x4:(Int× List Wish)->Option ρ):Option ρ:=
 cond (decide (v.2.1<=p.1)) ((aL k v.2.2 v.1 (i64.wrap (v.1+p.2)) v.2.1).bind λr4=>next (v.2.1,i64.wrap (v.2.1+(i64.wrap ((2:Int)*p.2))),r4)) (x4 (v.1,v.2.2))
def bS {ρ:Type} (k:Nat) (p:Int) (v:Int× List Wish) (next:(Int× List Wish)->Option ρ) (x2:(List Wish)->Option ρ):Option ρ:=
 cond (decide (v.1<p)) (iter (λu7 n7=>bR k (p,v.1) u7 n7 (λy5=>cond (decide ((i64.wrap (y5.1+v.1))<p)) ((aL k y5.2 y5.1 (i64.wrap (y5.1+v.1)) p).bind λr6=>next (i64.wrap (v.1*2),r6)) (next (i64.wrap (v.1*2),y5.2)))) k ((0:Int),i64.wrap ((2:Int)*v.1),v.2)) (x2 v.2)
def cf (k:Nat) (a0:List Wish) (a1:Int):Option (List Wish):=
 iter (λu10 n10=>bQ k (a1,(20:Int)) u10 n10 (λy2=>(bc k y2.2 y2.1 a1).bind λr3=>iter (λu9 n9=>bS k a1 u9 n9 (λy8=>some y8)) k ((20:Int),r3))) k ((0:Int),(20:Int),a0)
def aJ (k:Nat) (a0:List Wish):Option (List Wish):=
 (cf k a0 (a0.length:Int)).bind λr1=>some r1
def c7 {ρ:Type} (k:Nat) (p:Int× Int× Int× Int× Int× List (List Int)× List Int× Int× Int× Int× List Wish) (v:Int) (next:Int->Option ρ) (x2:Int->Option ρ):Option ρ:=
 cond (decide (v<p.2.2.2.2.1)) (cond (decide (0<=v/\v<(p.2.2.2.2.2.2.1.length:Int))) ((p.2.2.2.2.2.2.1[v.toNat]?).bind λe6=>cond (e6==p.2.2.2.2.2.2.2.2.1) (cond (decide (0<=v/\v<(p.2.2.2.2.2.1.length:Int))) ((p.2.2.2.2.2.1[v.toNat]?).bind λe7=>cond (decide ((e7.length:Int)<p.1)) (x2 v) (next (i64.wrap (v+1)))) none) (next (i64.wrap (v+1)))) none) (x2 p.2.1)
def cl {ρ:Type} (k:Nat) (p:Int× Int× List Wish) (v:Int× List (List Int)× List Int) (next:(Int× List (List Int)× List Int)->Option ρ) (x0:(List (List Int))->Option ρ):Option ρ:=
 cond (decide (v.1<p.2.1)) (cond (decide (0<=v.1/\v.1<(p.2.2.length:Int))) ((p.2.2[v.1.toNat]?).bind λe5=>iter (λu13 n13=>c7 k (p.1,(-1:Int),p.2.1,v.1,(v.2.2.length:Int),v.2.1,v.2.2,e5.id,e5.model,e5.due,p.2.2) u13 n13 (λy8=>cond (decide (y8<0)) (cond (Nat.ble (v.2.1.length+1) fC) (cond (Nat.ble (v.2.2.length+[e5.model].length) fC) (cond (decide (0<=(v.2.1.length:Int)/\(v.2.1.length:Int)<((v.2.1++[([]:List Int)]).length:Int))) (((v.2.1++[([]:List Int)])[(v.2.1.length:Int).toNat]?).bind λe9=>cond (Nat.ble (e9.length+[e5.id].length) fC) (cond (decide (0<=(v.2.1.length:Int)/\(v.2.1.length:Int)<((kA (v.2.1++[([]:List Int)]) ((v.2.1.length:Int).toNat)).length:Int))) ((iJ ((kA (v.2.1++[([]:List Int)]) ((v.2.1.length:Int).toNat)).set ((v.2.1.length:Int).toNat) (some (e9++[e5.id])))).bind λz10=>next (i64.wrap (v.1+1),z10,v.2.2++[e5.model])) none) none) none) none) none) (cond (decide (0<=y8/\y8<(v.2.1.length:Int))) ((v.2.1[y8.toNat]?).bind λe11=>cond (Nat.ble (e11.length+[e5.id].length) fC) (cond (decide (0<=y8/\y8<((kA v.2.1 y8.toNat).length:Int))) ((iJ ((kA v.2.1 y8.toNat).set y8.toNat (some (e11++[e5.id])))).bind λz12=>next (i64.wrap (v.1+1),z12,v.2.2)) none) none) none))) k (0:Int)) none) (x0 v.2.1)
def fl (k:Nat) (a0:List Wish) (a1:Int):Option (List (List Int)× Bool):=
 (D2 k a1 (1:Int) (8:Int)).bind λr1=>cond (!r1) (some (([]:List (List Int)),false)) ((I_areWishes k a0).bind λr2=>cond (!r2) (some (([]:List (List Int)),false)) ((bO k a0).bind λr3=>(aJ k r3).bind λr4=>iter (λu15 n15=>cl k (a1,(r4.length:Int),r4) u15 n15 (λy14=>some (y14,true))) k ((0:Int),([]:List (List Int)),([]:List Int))))
end
end
set_option maxRecDepth 100000
set_option maxHeartbeats 4000000
section
noncomputable section
def cr {ρ:Type} (k:Nat) (p:Int× List Int) (v:Int× Int× Int× List Wish) (next:(Int× Int× Int× List Wish)->Option ρ) (x0:(Int× Int× List Wish)->Option ρ):Option ρ:=
 cond (decide (v.1<p.1)) ((ba k p.2 v.2.1 v.2.2.1 (3:Int)).bind λr5=>(ba k p.2 r5.2.1 r5.2.2 (50:Int)).bind λr6=>cond (Nat.ble (v.2.2.2.length+[(⟨(i64.wrap (v.1+1)),r5.1,r6.1⟩:Wish)].length) fC) (next (i64.wrap (v.1+1),r6.2.1,r6.2.2,v.2.2.2++[(⟨(i64.wrap (v.1+1)),r5.1,r6.1⟩:Wish)])) none) (x0 (v.2.1,v.2.2.1,v.2.2.2))
def dF (k:Nat) (dJ:List Int) (vo:Int) (sC:Int) (a1:List Int):Option (List Wish× Int× Int):=
 (k9 k a1 (14:Int)).bind λr1=>(ba k dJ vo sC r1).bind λr2=>(dr k dJ r2.2.1 r2.2.2 (40:Int)).bind λr3=>cond (r3.1) ((ba k dJ r3.2.1 r3.2.2 (2:Int)).bind λr4=>iter (λu16 n16=>cr k (i64.wrap ((300:Int)+r4.1),dJ) u16 n16 (λy7=>(dr k dJ y7.1 y7.2.1 (10:Int)).bind λr8=>cond (r8.1) (cond (decide ((i64.wrap ((300:Int)+r4.1))>0)) ((ba k dJ r8.2.1 r8.2.2 (i64.wrap ((300:Int)+r4.1))).bind λr9=>(ba k dJ r9.2.1 r9.2.2 (3:Int)).bind λr10=>cond (r10.1==0) ((bB k dJ r10.2.1 r10.2.2 [(0:Int),(1:Int)]).bind λr11=>cond (decide (0<=r9.1/\r9.1<(y7.2.2.length:Int))) ((y7.2.2[r9.1.toNat]?).bind λe12=>cond (decide (dJ=dJ)) (some (y7.2.2.set r9.1.toNat (⟨r11.1,e12.model,e12.due⟩:Wish),r11.2.1,r11.2.2)) none) none) (cond (r10.1==1) (cond (decide (0<=r9.1/\r9.1<(y7.2.2.length:Int))) ((y7.2.2[r9.1.toNat]?).bind λe13=>cond (decide (dJ=dJ)) (some (y7.2.2.set r9.1.toNat (⟨e13.id,(-1:Int),e13.due⟩:Wish),r10.2.1,r10.2.2)) none) none) (cond (r10.1==2) ((bB k dJ r10.2.1 r10.2.2 [(-1:Int),(1000000:Int),(1000001:Int)]).bind λr14=>cond (decide (0<=r9.1/\r9.1<(y7.2.2.length:Int))) ((y7.2.2[r9.1.toNat]?).bind λe15=>cond (decide (dJ=dJ)) (some (y7.2.2.set r9.1.toNat (⟨e15.id,e15.model,r14.1⟩:Wish),r14.2.1,r14.2.2)) none) none) (cond (decide (dJ=dJ)) (some (y7.2.2,r10.2.1,r10.2.2)) none)))) (cond (decide (dJ=dJ)) (some (y7.2.2,r8.2.1,r8.2.2)) none)) (cond (decide (dJ=dJ)) (some (y7.2.2,r8.2.1,r8.2.2)) none))) k ((0:Int),r4.2.1,r4.2.2,([]:List Wish))) (iter (λu28 n28=>cr k (r2.1,dJ) u28 n28 (λy19=>(dr k dJ y19.1 y19.2.1 (10:Int)).bind λr20=>cond (r20.1) (cond (decide (r2.1>0)) ((ba k dJ r20.2.1 r20.2.2 r2.1).bind λr21=>(ba k dJ r21.2.1 r21.2.2 (3:Int)).bind λr22=>cond (r22.1==0) ((bB k dJ r22.2.1 r22.2.2 [(0:Int),(1:Int)]).bind λr23=>cond (decide (0<=r21.1/\r21.1<(y19.2.2.length:Int))) ((y19.2.2[r21.1.toNat]?).bind λe24=>cond (decide (dJ=dJ)) (some (y19.2.2.set r21.1.toNat (⟨r23.1,e24.model,e24.due⟩:Wish),r23.2.1,r23.2.2)) none) none) (cond (r22.1==1) (cond (decide (0<=r21.1/\r21.1<(y19.2.2.length:Int))) ((y19.2.2[r21.1.toNat]?).bind λe25=>cond (decide (dJ=dJ)) (some (y19.2.2.set r21.1.toNat (⟨e25.id,(-1:Int),e25.due⟩:Wish),r22.2.1,r22.2.2)) none) none) (cond (r22.1==2) ((bB k dJ r22.2.1 r22.2.2 [(-1:Int),(1000000:Int),(1000001:Int)]).bind λr26=>cond (decide (0<=r21.1/\r21.1<(y19.2.2.length:Int))) ((y19.2.2[r21.1.toNat]?).bind λe27=>cond (decide (dJ=dJ)) (some (y19.2.2.set r21.1.toNat (⟨e27.id,e27.model,r26.1⟩:Wish),r26.2.1,r26.2.2)) none) none) (cond (decide (dJ=dJ)) (some (y19.2.2,r22.2.1,r22.2.2)) none)))) (cond (decide (dJ=dJ)) (some (y19.2.2,r20.2.1,r20.2.2)) none)) (cond (decide (dJ=dJ)) (some (y19.2.2,r20.2.1,r20.2.2)) none))) k ((0:Int),r3.2.1,r3.2.2,([]:List Wish)))
def dG (k:Nat) (a0:List Int):Option (List Wish× Int):=
 (gT k a0).bind λr1=>(dF k a0 r1.1 r1.2 a0).bind λr2=>(bB k a0 r2.2.1 r2.2.2 [(1:Int),(2:Int),(4:Int),(8:Int),(9:Int),(0:Int)]).bind λr3=>some (r2.1,r3.1)
def cg {ρ:Type} (k:Nat) (p:List Int× Int× Int) (v:Int) (next:Int->Option ρ) (x0:Unit->Option ρ) (qC:Int->Option ρ):Option ρ:=
 cond (decide (v<p.2.2)) ((idx p.1 v).bind λe1=>cond (p.2.1==e1) (qC v) (next (i64.wrap (v+1)))) (x0 ())
def dv (k:Nat) (a0:List Int) (a1:Int):Option (Int):=
 iter (λu4 n4=>cg k (a0,a1,(a0.length:Int)) u4 n4 (λy2=>some (-1:Int)) (λy3=>some y3)) k (0:Int)
def ch (k:Nat) (a0:List Int) (a1:Int):Option (Bool):=
 (dv k a0 a1).bind λr1=>some (decide (r1>=0))
def c9 {ρ:Type} (k:Nat) (p:List Wish× List Int× List (List Int)× Int× Int× List Wish× Int× List Int) (v:Int× Bool× Int) (next:(Int× Bool× Int)->Option ρ) (x2:Int->Option ρ):Option ρ:=
 cond (decide (v.2.2<p.2.2.2.2.2.2.1)) ((idx p.2.2.2.2.2.1 v.2.2).bind λe2=>(ch k p.2.1 e2.id).bind λr3=>cond (r3) (cond (!v.2.1) (next (e2.due,true,i64.wrap (v.2.2+1))) (cond (decide (e2.due<v.1)) (next (e2.due,true,i64.wrap (v.2.2+1))) (next (v.1,v.2.1,i64.wrap (v.2.2+1))))) (next (v.1,v.2.1,i64.wrap (v.2.2+1)))) (x2 v.1)
def dK {ρ:Type} (k:Nat) (p:List Wish× List (List Int)× Int) (v:Int× List Int) (next:(Int× List Int)->Option ρ) (x0:(List Int)->Option ρ):Option ρ:=
 cond (decide (v.1<p.2.2)) ((idx p.2.1 v.1).bind λe1=>iter (λu5 n5=>c9 k (p.1,e1,p.2.1,p.2.2,v.1,p.1,(p.1.length:Int),v.2) u5 n5 (λy4=>cond (Nat.ble (v.2.length+[y4].length) fC) (next (i64.wrap (v.1+1),v.2++[y4])) none)) k ((-1:Int),false,(0:Int))) (x0 v.2)
def iC (k:Nat) (a0:List Wish) (a1:List (List Int)):Option (List Int):=
 iter (λu7 n7=>dK k (a0,a1,(a1.length:Int)) u7 n7 (λy6=>some y6)) k ((0:Int),([]:List Int))
def iD {ρ:Type} (k:Nat) (p:List Int× Int) (v:Int) (next:Int->Option ρ) (x0:Unit->Option ρ) (qC:Bool->Option ρ):Option ρ:=
 cond (decide (v<(p.1.length:Int))) ((idx p.1 v).bind λe1=>cond (e1==p.2) (qC true) (next (i64.wrap (v+1)))) (x0 ())
def mF (k:Nat) (a0:List Int) (a1:Int):Option (Bool):=
 iter (λu4 n4=>iD k (a0,a1) u4 n4 (λy2=>some false) (λy3=>some y3)) k (0:Int)
def da {ρ:Type} (k:Nat) (p:List Wish× List (List Int)× Int× List Int) (v:Int× Bool× Int) (next:(Int× Bool× Int)->Option ρ) (x2:Int->Option ρ):Option ρ:=
 cond (decide (v.2.2<(p.1.length:Int))) ((idx p.2.1 p.2.2.1).bind λe1=>(idx p.1 v.2.2).bind λe2=>(mF k e1 e2.id).bind λr3=>cond (r3) (cond (!v.2.1) ((idx p.1 v.2.2).bind λe4=>next (e4.due,true,i64.wrap (v.2.2+1))) ((idx p.1 v.2.2).bind λe5=>cond (decide (e5.due<v.1)) ((idx p.1 v.2.2).bind λe6=>next (e6.due,true,i64.wrap (v.2.2+1))) (next (v.1,v.2.1,i64.wrap (v.2.2+1))))) (next (v.1,v.2.1,i64.wrap (v.2.2+1)))) (x2 v.1)
def dL {ρ:Type} (k:Nat) (p:List Wish× List (List Int)) (v:Int× List Int) (next:(Int× List Int)->Option ρ) (x0:(List Int)->Option ρ):Option ρ:=
 cond (decide (v.1<(p.2.length:Int))) (iter (λu8 n8=>da k (p.1,p.2,v.1,v.2) u8 n8 (λy7=>cond (Nat.ble (v.2.length+[y7].length) fC) (next (i64.wrap (v.1+1),v.2++[y7])) none)) k ((-1:Int),false,(0:Int))) (x0 v.2)
def iE (k:Nat) (a0:List Wish) (a1:List (List Int)):Option (List Int):=
 iter (λu10 n10=>dL k (a0,a1) u10 n10 (λy9=>some y9)) k ((0:Int),([]:List Int))
def qu {ρ:Type} (k:Nat) (p:List Int) (v:Int× List Int) (next:(Int× List Int)->Option ρ) (x0:(List Int)->Option ρ):Option ρ:=
 cond (decide (v.1<(p.length:Int))) (cond (decide (v.1<3000)) ((idx p v.1).bind λe1=>cond (Nat.ble (v.2.length+[e1].length) fC) (next (i64.wrap (v.1+1),v.2++[e1])) none) (x0 v.2)) (x0 v.2)
def wF (k:Nat) (a0:List Int) (a1:Int):Option (List Int):=
 iter (λu3 n3=>qu k a0 u3 n3 (λy2=>some y2)) k ((0:Int),[(u8.wrap (a1))])
def eA {ρ:Type} (k:Nat) (p:Int× List Int) (v:Int× Int× Int× Int× List Int× List Int) (next:(Int× Int× Int× Int× List Int× List Int)->Option ρ) (x0:(Int× Int× List Int× List Int)->Option ρ):Option ρ:=
 cond (decide (v.2.1>0)) ((ba k p.2 v.2.2.1 v.2.2.2.1 (8:Int)).bind λr4=>cond (Nat.ble (v.2.2.2.2.1.length+[(i64.wrap ((1:Int)+r4.1))].length) fC) ((bB k p.2 r4.2.1 r4.2.2 [(0:Int),(3:Int),(9:Int),(9:Int),(-1:Int)]).bind λr5=>cond (Nat.ble (v.2.2.2.2.2.length+[(i64.wrap ((i64.wrap (v.1+(i64.wrap ((1:Int)+r4.1))))+r5.1))].length) fC) (next (i64.wrap (v.1+(i64.wrap ((1:Int)+r4.1))),i64.wrap (v.2.1-1),r5.2.1,r5.2.2,v.2.2.2.2.1++[(i64.wrap ((1:Int)+r4.1))],v.2.2.2.2.2++[(i64.wrap ((i64.wrap (v.1+(i64.wrap ((1:Int)+r4.1))))+r5.1))])) none) none) (x0 (v.2.2.1,v.2.2.2.1,v.2.2.2.2.1,v.2.2.2.2.2))
def cT (k:Nat) (a0:List Int):Option (List Int× List Int× Int):=
 (gT k a0).bind λr1=>(ba k a0 r1.1 r1.2 (10:Int)).bind λr2=>(ba k a0 r2.2.1 r2.2.2 (6:Int)).bind λr3=>iter (λu8 n8=>eA k (r2.1,a0) u8 n8 (λy6=>(dr k a0 y6.1 y6.2.1 (15:Int)).bind λr7=>cond (r7.1) (cond (Nat.ble (y6.2.2.2.length+[(99:Int)].length) fC) (some (y6.2.2.1,y6.2.2.2++[(99:Int)],r2.1)) none) (some (y6.2.2.1,y6.2.2.2,r2.1)))) k (r2.1,r3.1,r3.2.1,r3.2.2,([]:List Int),([]:List Int))
def dM {ρ:Type} (k:Nat) (p:List Int× List Int× Int) (v:Int× Int) (next:(Int× Int)->Option ρ) (x0:Unit->Option ρ) (qC:Bool->Option ρ):Option ρ:=
 cond (decide (v.2<p.2.2)) ((idx p.2.1 v.2).bind λe1=>(idx p.1 v.2).bind λe2=>cond (decide ((i64.wrap (v.1+e1))>e2)) (qC false) (next (i64.wrap (v.1+e1),i64.wrap (v.2+1)))) (x0 ())
def cu (k:Nat) (a0:List Int) (a1:List Int) (a2:Int):Option (Bool):=
 cond ((a0.length:Int) !=(a1.length:Int)) (some false) (iter (λu5 n5=>dM k (a1,a0,(a0.length:Int)) u5 n5 (λy3=>some true) (λy4=>some y4)) k (a2,(0:Int)))
def dN {ρ:Type} (k:Nat) (p:List Int× List Int) (v:Int× Int) (next:(Int× Int)->Option ρ) (x0:Unit->Option ρ) (qC:Bool->Option ρ):Option ρ:=
 cond (decide (v.2<(p.1.length:Int))) ((idx p.1 v.2).bind λe1=>(idx p.2 v.2).bind λe2=>cond (decide ((i64.wrap (v.1+e1))>e2)) (qC false) (next (i64.wrap (v.1+e1),i64.wrap (v.2+1)))) (x0 ())
def dw (k:Nat) (a0:List Int) (a1:List Int) (a2:Int):Option (Bool):=
 cond ((a0.length:Int) !=(a1.length:Int)) (some false) (iter (λu5 n5=>dN k (a0,a1) u5 n5 (λy3=>some true) (λy4=>some y4)) k (a2,(0:Int)))
def cJ {ρ:Type} (k:Nat) (p:List Int× Int× Bool× List Wish× List (List Int)× List (List Int)) (v:Int× Int) (next:(Int× Int)->Option ρ) (x0:Int->Option ρ) (qC:Bool->Option ρ):Option ρ:=
 cond (decide (v.2<(p.2.2.2.2.2.length:Int))) (cond (decide (0<=v.2/\v.2<(p.2.2.2.2.2.length:Int))) ((p.2.2.2.2.2[v.2.toNat]?).bind λe5=>cond (decide (0<=v.2/\v.2<(p.2.2.2.2.1.length:Int))) ((p.2.2.2.2.1[v.2.toNat]?).bind λe6=>(ml k e5 e6).bind λr7=>cond (!r7) (qC false) (cond (decide (0<=v.2/\v.2<(p.2.2.2.2.2.length:Int))) ((p.2.2.2.2.2[v.2.toNat]?).bind λe8=>cond (decide ((e8.length:Int)>p.2.1)) (qC false) (cond (decide (0<=v.2/\v.2<(p.2.2.2.2.2.length:Int))) ((p.2.2.2.2.2[v.2.toNat]?).bind λe9=>cond ((e9.length:Int)==(0:Int)) (qC false) (cond (decide (0<=v.2/\v.2<(p.2.2.2.2.2.length:Int))) ((p.2.2.2.2.2[v.2.toNat]?).bind λe10=>next (i64.wrap (v.1+(e10.length:Int)),i64.wrap (v.2+1))) none)) none)) none)) none) none) (x0 v.1)
def ca {ρ:Type} (k:Nat) (p:Int× Bool× List Int× List Int× List Int) (v:Int× List Int× List Int) (next:(Int× List Int× List Int)->Option ρ) (x2:(List Int× List Int)->Option ρ):Option ρ:=
 cond (decide (v.1<(p.2.2.2.2.length:Int))) (cond (decide (0<=v.1/\v.1<(p.2.2.2.2.length:Int))) ((p.2.2.2.2[v.1.toNat]?).bind λe22=>cond (decide (0<=e22/\e22<(p.2.2.1.length:Int))) ((p.2.2.1[e22.toNat]?).bind λe23=>cond (Nat.ble (v.2.1.length+[e23].length) fC) (cond (decide (0<=v.1/\v.1<(p.2.2.2.2.length:Int))) ((p.2.2.2.2[v.1.toNat]?).bind λe24=>cond (decide (0<=e24/\e24<(p.2.2.2.1.length:Int))) ((p.2.2.2.1[e24.toNat]?).bind λe25=>cond (Nat.ble (v.2.2.length+[e25].length) fC) (next (i64.wrap (v.1+1),v.2.1++[e23],v.2.2++[e25])) none) none) none) none) none) none) (x2 (v.2.1,v.2.2))
def gU (k:Nat) (a0:List Int):Option (Bool):=
 (Cy k a0).bind λr1=>cond (r1) (some true) ((dG k a0).bind λr2=>(fk k r2.1 r2.2).bind λr3=>(fl k r2.1 r2.2).bind λr4=>cond (!(r4.2==r3.2)) (some false) (cond ((r4.1.length:Int) !=(r3.1.length:Int)) (some false) (iter (λu44 n44=>cJ k (a0,r2.2,r3.2,r2.1,r3.1,r4.1) u44 n44 (λy11=>cond (r3.2) (cond (y11 !=(r2.1.length:Int)) (some false) ((iC k r2.1 r4.1).bind λr12=>(iE k r2.1 r3.1).bind λr13=>(ml k r12 r13).bind λr14=>cond (!r14) (some false) ((wF k a0 (1:Int)).bind λr15=>(cT k r15).bind λr16=>(cu k r16.1 r16.2.1 r16.2.2).bind λr17=>(du k r16.2.1).bind λr18=>(dw k r16.1 r16.2.1 r16.2.2).bind λr19=>cond (!(r17==r19)) (some false) ((dZ k r16.2.1).bind λr20=>(ml k r18 r20).bind λr21=>cond (!r21) (some false) (cond ((r16.1.length:Int) !=(r16.2.1.length:Int)) (some (!r17)) (iter (λu28 n28=>ca k (r16.2.2,r17,r16.1,r16.2.1,r18) u28 n28 (λy26=>cond (!r17) (some true) ((cu k y26.1 y26.2 r16.2.2).bind λr27=>some r27))) k ((0:Int),([]:List Int),([]:List Int)))))))) ((wF k a0 (1:Int)).bind λr29=>(cT k r29).bind λr30=>(cu k r30.1 r30.2.1 r30.2.2).bind λr31=>(du k r30.2.1).bind λr32=>(dw k r30.1 r30.2.1 r30.2.2).bind λr33=>cond (!(r31==r33)) (some false) ((dZ k r30.2.1).bind λr34=>(ml k r32 r34).bind λr35=>cond (!r35) (some false) (cond ((r30.1.length:Int) !=(r30.2.1.length:Int)) (some (!r31)) (iter (λu42 n42=>ca k (r30.2.2,r31,r30.1,r30.2.1,r32) u42 n42 (λy40=>cond (!r31) (some true) ((cu k y40.1 y40.2 r30.2.2).bind λr41=>some r41))) k ((0:Int),([]:List Int),([]:List Int))))))) (λy43=>some y43)) k ((0:Int),(0:Int)))))
end
end
set_option maxRecDepth 100000
section
noncomputable section
end
end
set_option maxRecDepth 100000
section
noncomputable section
end
end
set_option maxRecDepth 100000
section
noncomputable section
end
end
set_option maxRecDepth 100000
section
noncomputable section
end
end
set_option maxRecDepth 100000
set_option maxHeartbeats 4000000
section
noncomputable section
end
end
set_option maxRecDepth 100000
set_option maxHeartbeats 4000000
section
noncomputable section
end
end
set_option maxRecDepth 100000
set_option maxHeartbeats 4000000
section
noncomputable section
end
end
set_option maxRecDepth 100000
set_option maxHeartbeats 4000000
section
noncomputable section
end
end
set_option maxRecDepth 100000
set_option maxHeartbeats 4000000
section
open Go Go.RowKit Go.Maps
noncomputable section
variable [Tok]
theorem inW_calls (x a b:Int) (w:World):Calls Try.prog 51 #[.int .i64 x,.int .i64 a,.int .i64 b] w λe w'=>e=.returned (.bool (decide (a<=x)&&decide (x<=b)))/\w'=w:=by
 go_enter Try.func51,Try.ntmps51
 go_wp2
 all_goals go_ret
 all_goals (simp_all;try omega)
theorem isTickW_calls (x:Int) (w:World):Calls Try.prog 75 #[.int .i64 x] w λe w'=>e=.returned (.bool (decide (0<=x)&&decide (x<=1000000)))/\w'=w:=by
 go_enter Try.func75,Try.ntmps75
 go_wp2_with (go_at_call 51;refine(inW_calls x 0 1000000 w).mono ?_;rintro e w' ⟨rfl,rfl⟩)
 go_ret
 exact⟨rfl,rfl⟩
def idsW (l:List Wish) (k:Nat):List Int:=(l.take k).map Wish.id
def SwW {H:Type} (l:List Wish) (k:Nat):DataW H:=setOf (.lit (.bool true)) ((idsW l k).map (Lit.int .i64))
theorem idsW_succ {l:List Wish} {k:Nat} {x:Wish} (hk:l[k]? =some x):idsW l (k+1)=idsW l k++[x.id]:=by
 unfold idsW;rw[List.take_add_one,Gb,hk];rfl
theorem SwW_succ {H:Type} {l:List Wish} {k:Nat} {x:Wish} (hk:l[k]? =some x):SwW (H:=H) l (k+1)=(SwW l k).put (.int .i64 x.id) (.lit (.bool true)):=by
 unfold SwW;rw[idsW_succ hk,Gb,List.map_singleton,setOf_snoc]
theorem map_setW {H:Type} (u:DataW H):∀(ks:List Lit) (D:DataW H),IsMap D->IsMap (ks.foldl (λm x=>m.put x u) D)
 |[],D,h=>h
 |x::ks,D,h=>map_setW u ks _ (by obtain⟨es,rfl⟩:=h;exact⟨_,rfl⟩)
theorem at_setW {H:Type} (ks:List Int) (x:Int):(setOf (.lit (.bool true)) (ks.map (Lit.int .i64)):DataW H).atKey (.int .i64 x) (.lit (.bool false))=.lit (.bool (ks.contains x)):=by
 rw[<-List.reverse_reverse ks]
 induction ks.reverse with
 |nil=>simp[setOf,DataW.atKey]
 |cons y r ih=>
  rw[List.reverse_cons,Gb,List.map_singleton,setOf_snoc];by_cases e:x=y
  ·subst e;rw[atKey_put_same (k:=.int .i64 x) (show IsMap (setOf (.lit (.bool true)) (r.reverse.map (Lit.int .i64)):DataW H)from map_setW _ _ _ ⟨[],rfl⟩) trivial];simp
  ·rw[atKey_put_other (by intro h;cases h;exact e rfl),ih];simp[e]
theorem areW (b off cap:Nat) (l:List Wish) (w:World) (hb:l≠[]->b<w.heap.size) (hm:l.length<=2000000)
  (hc:∀k x,l[k]? =some x->w.cell? ⟨b,off+k*3,none⟩=some (.int .i64 x.id)/\w.cell? ⟨b,off+(k*3+1),none⟩=some (.int .i64 x.model)/\w.cell? ⟨b,off+(k*3+2),none⟩=some (.int .i64 x.due))
  (hw:∀x∈l,(Lit.int .i64 x.id).wf=true):
  Calls Try.prog 52 #[.slice (some ⟨b,off,none⟩) l.length cap] w λe w'=>e=.returned (.bool (areB [] l&&decide (l.length<=300)))/\Below w.heap.size w w':=by
 have hmm:=@run_makeMap Try.prog
 go_enter Try.func52,Try.ntmps52
 go_wp2
 go_loopw [9] (λi wr=>∃k:Nat,k<=l.length/\i=.int .i64 k/\areB [] l=areB (idsW l k) (l.drop k)/\wr.ownsMap Try.prog 3 (plainElem Try.prog 4) w.heap.size k (SwW (H:=Unit) l k)/\Below w.heap.size w wr)
  (λi _=>l.length-(intOf i).toNat)
 case atStart=>exact⟨0,F2 _,rfl,rfl,by simpa[SwW,idsW,setOf]using World.ownsMap_made _ _ _ _,(Below.refl _ _).alloc (FQ _) _⟩
 case round=>
  obtain⟨k,hk,rfl,hs,hown,hnx⟩:=hrel
  have hc1:∀x,l[k]? =some x->wr.cell? ⟨b,off+k*3,none⟩=some (.int .i64 x.id)/\wr.cell? ⟨b,off+k*3+1,none⟩=some (.int .i64 x.model)/\wr.cell? ⟨b,off+k*3+2,none⟩=some (.int .i64 x.due):=λx hx=>by
   have hb:=hb (by rintro rfl;simp at hx);obtain⟨h1,h2,h3⟩:=hc k x hx;exact⟨(hnx.cell (by exact hb)).trans h1,(hnx.cell (by exact hb)).trans h2,(hnx.cell (by exact hb)).trans h3⟩
  by_cases hlt:k<l.length
  ·obtain⟨x,hx⟩:∃x,l[k]? =some x:=⟨l[k],Fw hlt⟩;obtain⟨c1,c2,c3⟩:=hc1 x hx;clear hc1 hc hb
   have hlk:∀o:Obj,(Instr.lookup 95 (.map (some w.heap.size)) (.int .i64 x.id) false).run Try.prog (wr.alloc o)=.ok (.bool ((idsW l k).contains x.id)) (wr.alloc o):=λo=>by
    obtain⟨v,ps,hrun,hv⟩:=(hown.alloc o).lookup (int_keyed Try.underlying3) Try.underlying95 (Try.zeroValue4 _) (plainElem_bool Try.underlying4 false) (keyOf_int_mk Try.underlying3 (hw x (FG hx)));obtain⟨c,rfl,hc⟩:=plainElem_bool_inv Try.underlying4 hv;simp only[FI]at hc;rw[SwW,at_setW]at hc;have hc:=hc.1;simp only[DataW.lit.injEq,Lit.bool.injEq]at hc;rw[hrun,hc]
   have hdr:l.drop k=x::l.drop (k+1):=by
    rw[Gz hlt,Gn ((Fw hlt).symm.trans hx)]
   rw[hdr,areB]at hs
   have hT:(x.id<1\/x.model<0\/¬(0<=x.due/\x.due<=1000000)\/x.id∈idsW l k)->areB [] l=false:=λh=>by
    have:(decide (x.id<1)||decide (x.model<0)||!(decide (0<=x.due)&&decide (x.due<=1000000))||(idsW l k).contains x.id)=true:=by grind
    rw[hs,this];rfl
   have hF:¬(x.id<1\/x.model<0\/¬(0<=x.due/\x.due<=1000000)\/x.id∈idsW l k)->areB [] l=areB (idsW l (k+1)) (l.drop (k+1)):=λh=>by
    have:(decide (x.id<1)||decide (x.model<0)||!(decide (0<=x.due)&&decide (x.due<=1000000))||(idsW l k).contains x.id)=false:=by grind
    rw[hs,this,idsW_succ hx];rfl
   clear hs
   have hown':=hown.alloc (.cells #[.int .i64 x.id,.int .i64 x.model,.int .i64 x.due] 73)
   go_wp2_with (first
    |(go_at_call 75;refine(isTickW_calls _ _).mono ?_;rintro e w' ⟨rfl,rfl⟩)
    |(at_mapUpdate;refine wpList_mapUpdate_own _ rfl _ _ _ 95 rfl 3 4 (int_keyed Try.underlying3) Try.underlying95 (plainElem (H:=Unit) Try.prog 4) w.heap.size k _ rfl hown' (by unfold maxLen;omega) _ _ _ rfl rfl (keyOf_int_mk Try.underlying3 (hw x (FG hx))) _ [] (plainElem_bool Try.underlying4 true) ?_;intro w1 hown1 hgrow1))
   ·go_ret
    refine⟨?_,hnx.alloc hnx.size _⟩;show Ending.returned (.bool false)=_;have hq:=‹(x.id<1\/x.model<0)\/x.id∈idsW l k›;rw[hT (hq.elim (λh=>h.elim .inl λh=>.inr (.inl h)) λh=>.inr (.inr (.inr h)))];rfl
   ·have hb1:=(hnx.alloc hnx.size (.cells #[.int .i64 x.id,.int .i64 x.model,.int .i64 x.due] 73))
    obtain⟨⟨q1,q2⟩,q3⟩:=‹(1<=x.id/\0<=x.model)/\¬x.id∈idsW l k›;have q4:=‹0<=x.due/\x.due<=1000000›;refine⟨⟨k+1,by omega,by simp,hF ?_,(SwW_succ hx).symm▸hown1,hb1.grown hgrow1 hb1.size (λj hj=>by cases hj;exact FQ _)⟩,by simp[intOf];omega⟩
    rintro (h|h|h|h)
    ·omega
    ·omega
    ·exact h q4
    ·exact q3 h
   ·go_ret
    refine⟨?_,hnx.alloc hnx.size _⟩;show Ending.returned (.bool false)=_;rw[hT (.inr (.inr (.inl ‹_›)))];rfl
   all_goals (go_ret;refine⟨?_,hnx.alloc hnx.size _⟩;show Ending.returned (.bool false)=_;first|rfl|(rw[hT (by omega)];rfl))
  ·clear hc1 hc hb
   go_wp2
   go_ret
   have e:k=l.length:=by omega
   subst e;rw[GM,areB]at hs;rw[hs];refine⟨?_,hnx⟩;show Ending.returned (.bool (decide ((l.length:Int)<=300)))=_;rw[Bool.true_and]
   congr 2
   exact decide_eq_decide.2 (by omega)
theorem areW0 (a:Option Addr) (cap:Nat) (w:World):Calls Try.prog 52 #[.slice a 0 cap] w λe w'=>e=.returned (.bool true)/\Below w.heap.size w w':=by
 have hmm:=@run_makeMap Try.prog
 go_enter Try.func52,Try.ntmps52
 go_wp2
 refine wp_loop_rounds 1 ?_;rw[rounds_succ]
 go_wp2
 go_ret
 exact⟨rfl,(Below.refl _ _).alloc (FQ _) _⟩
theorem I_areWishes_some {k:Nat} {l:List Wish} {b:Bool} (h:I_areWishes k l=some b):l.length<=2000000/\(∀x∈l,(Lit.int .i64 x.id).wf=true)/\b=(areB [] l&&decide (l.length<=300)):=by
 unfold I_areWishes at h
 cases hc:(decide (l.length<=2000000)&&l.all λx=>(Lit.int .i64 x.id).wf)with
 |false=>rw[hc]at h;exact nomatch h
 |true=>
  rw[hc]at h;cases h;rw[Fy,decide_eq_true_eq,List.all_eq_true]at hc;exact⟨hc.1,hc.2,rfl⟩
def o_I_areWishes (k:Nat):O Try.prog 52:=okH [.one (.sl (.st .wish))] [] (cdL (.st .wish)) ⟨.h 0,[]⟩ cdB (I_areWishes k) λ(l:List Wish) b h=>by
 refine pure_below (enters_of Try.func52 (by kernel_rfl) (by kernel_rfl)) λw us ok hl hr=>?_;obtain⟨hm,hw,rfl⟩:=I_areWishes_some h
 obtain⟨u,rfl⟩:∃u,us=#[u]:=by
  have:us.size=1:=hl.symm;exact⟨us[0],by ext i h1 h2<;>grind⟩
 have h0:RepR w ok (.sl (.st .wish) l) u:=hr 0 _ u rfl rfl
 cases h0 with
 |sl t xs a cap b o vs hcap ha hcc hrr=>
  have cell:∀k x,l[k]? =some x->w.cell? ⟨b,o+k*3,none⟩=some (.int .i64 x.id)/\w.cell? ⟨b,o+(k*3+1),none⟩=some (.int .i64 x.model)/\w.cell? ⟨b,o+(k*3+2),none⟩=some (.int .i64 x.due):=λk x hx=>by
   have g:∀j r,((Ty.st S.wish).cells x)[j]? =some r->w.at? (b,o+(k*3+j))=some (vs k j)/\RepR w ok r (vs k j):=λj r hj=>⟨(hcc k j r ⟨x,hx,hj⟩).2,hrr k j r ⟨x,hx,hj⟩⟩;obtain⟨a0,b0⟩:=g 0 _ rfl;obtain⟨a1,b1⟩:=g 1 _ rfl;obtain⟨a2,b2⟩:=g 2 _ rfl;generalize vs k 0=v0 at a0 b0;generalize vs k 1=v1 at a1 b1;generalize vs k 2=v2 at a2 b2;cases b0;cases b1;cases b2;exact⟨a0,a1,a2⟩
  rcases ha with rfl|rfl
  ·exact areW0 a cap w
  ·exact areW b o cap l w (λhne=>by
    obtain⟨x,l',rfl⟩:∃x l',l=x::l':=by cases l with|nil=>exact absurd rfl hne|cons x l'=>exact⟨x,l',rfl⟩
    have:=(cell 0 x rfl).1;unfold World.cell? at this
    cases hb:w.heap[b]? with
    |none=>simp[hb]at this
    |some o=>exact(FJ.1 hb).1) hm cell hw
end
end
section
end
section
def marked (m:Int) (n:Nat):List Int:=(List.range n).map λ(i:Nat)=>m+(i:Int)
@[simp] theorem A2 (m:Int) (n:Nat):(marked m n).length=n:=by simp[marked]
def inB (x a b:Int):Bool:=decide (a<=x/\x<=b)
theorem ph (k:Nat) (x a b:Int):nG k x a b=some (inB x a b):=by
 unfold nG inB;rw[k7];by_cases h:a<=x<;>simp[h]
theorem Cz (k:Nat) (x a b:Int):D2 k x a b=some (inB x a b):=by
 unfold D2 inB;rw[k7];by_cases h:a<=x<;>simp[h]
def Shape.okB (s:Shape):Bool:=inB s.h 1 8&&(inB s.w 1 8&&inB s.c 1 8)
def Shape.size (s:Shape):Int:=cond s.okB (s.h*s.w*s.c) 0
def Bv (xs:List Int):Bool:=xs.all λx=>inB x (-128) 127
def fy.okB (t:fy):Bool:=t.sh.okB&&(decide ((t.data.length:Int)=t.sh.size)&&Bv t.data)
theorem gl {a b:Nat} {α:Type} {x y:α} (h:a<=b):cond (Nat.ble a b) x y=x:=by rw[Gt h];rfl
theorem zr {ρ:Type} (x:Option ρ):both x x=x:=by unfold both;simp
end
section
end
section
end
section
def takes (x:Step):Int:=cond (inB x.kind 4 5&&inB x.a 0 200) x.a 0
end
section
theorem vp {x a b:Int}:inB x a b=true↔a<=x/\x<=b:=by unfold inB;simp
theorem cz {α:Type} {xs:List α} {i:Nat} (h:i<xs.length) (d:α):xs.getD i d=xs[i]:=by rw[Gl,aR h];rfl
end
section
end
section
end
section
theorem sa (k:Nat) (x:Int):k8 k x=some (inB x 0 1000000):=by unfold k8;rw[ph];rfl
end
section
def block (s:zY) (d:Int):Int:=(s.tasks.findIdx? λt=>t.id==s.run).elim 0 λi=>(s.tasks[i]?).elim 0 λt=>cond (decide (t.due>d)) s.left 0
end
section
end
section
end
section
end
section
def al {α:Type} (o:Option α) (Q:α->Prop):Prop:=∃r,o=some r/\Q r
theorem al.bind {α β:Type} {o:Option α} {P:α->Prop} {f:α->Option β} {Q:β->Prop} (h:al o P) (hf:∀a,P a->al (f a) Q):al (o.bind f) Q:=by
 obtain⟨r,e,hp⟩:=h;rw[e];exact hf r hp
theorem al.some {α:Type} {a:α} {Q:α->Prop} (h:Q a):al (some a) Q:=⟨a,rfl,h⟩
theorem al.cond {α:Type} {b:Bool} {x y:Option α} {Q:α->Prop} (h1:b=true->al x Q) (h2:b=false->al y Q):al (cond b x y) Q:=by
 cases b
 ·exact h2 rfl
 ·exact h1 rfl
theorem al.mono {α:Type} {o:Option α} {P Q:α->Prop} (h:al o P) (hq:∀a,P a->Q a):al o Q:=by
 obtain⟨r,e,hp⟩:=h;exact⟨r,e,hq r hp⟩
theorem al.iter {V R:Type} {g:V->(V->Option R)->Option R} {Inv:V->Prop} {m:V->Nat} {Q:R->Prop}
  (h:∀(v:V) (next:V->Option R),Inv v->(∀u,Inv u->m u<m v->al (next u) Q)->al (g v next) Q):∀(k:Nat) (v:V),Inv v->m v<k->al (iter g k v) Q
 |0,v,_,hk=>by omega
 |k+1,v,hv,hk=>by
  rw[cI];exact h v _ hv λu hu hm=>al.iter h k u hu (by omega)
def Cur (b:List Int) (i:Int):Prop:=0<=i/\i<=b.length
theorem Bw (x:BitVec i64.bits):0<=i64.wrap (((x&&& BitVec.ofInt i64.bits (255:Int)).toNat:Int))/\i64.wrap (((x&&& BitVec.ofInt i64.bits (255:Int)).toNat:Int))<=255:=by
 have h1:(x&&& BitVec.ofInt i64.bits (255:Int)).toNat<=255:=by
  rw[BitVec.toNat_and]
  have:(BitVec.ofInt i64.bits (255:Int)).toNat=255:=by decide
  rw[this];exact Nat.and_le_right
 rw[bw (by omega) (by omega)];omega
theorem jK {k:Nat} {b:List Int} {i h:Int} (hb:b.length<=1048576) (hc:Cur b i):al (dU k b i h) λr=>(0<=r.1/\r.1<=255)/\Cur b r.2.1:=by
 unfold Cur at hc;unfold dU;refine al.cond (λh1=>?_) λh1=>?_
 ·have h1:=of_decide_eq_true h1
  have hi:i.toNat<b.length:=by omega
  rw[iz _ hc.1,aR hi,aa,decide_eq_true rfl];refine al.some ⟨Bw _,?_⟩;show Cur b (i64.wrap (i+1));rw[bw (by omega) (by omega)];unfold Cur;omega
 ·rw[decide_eq_true rfl];exact al.some ⟨Bw _,hc⟩
theorem zt {x n:Int} (h0:0<=x) (hn:0<n):0<=x.tmod n/\x.tmod n<n:=⟨Int.tmod_nonneg n h0,Int.tmod_lt_of_pos x hn⟩
theorem cw {k:Nat} {b:List Int} {i h n:Int} (hb:b.length<=1048576) (hc:Cur b i):al (ba k b i h n) λr=>(0<=r.1/\(0<n->r.1<n)/\(n<=0->r.1=0))/\Cur b r.2.1:=by
 unfold ba;refine al.cond (λh1=>?_) λh1=>al.cond (λh2=>?_) λh2=>?_
 ·have h1:=of_decide_eq_true h1;rw[decide_eq_true rfl];exact al.some ⟨⟨Ha _,λh=>by omega,λ_=>rfl⟩,hc⟩
 ·have h1:=of_decide_eq_false h1;refine(jK hb hc).bind λr ⟨hr,hc1⟩=>?_;rw[decide_eq_false (show¬n=0 by omega),decide_eq_true rfl];have:=zt (x:=r.1) (n:=n) hr.1 (by omega);exact al.some ⟨⟨this.1,λ_=>this.2,λh=>by omega⟩,hc1⟩
 ·have h1:=of_decide_eq_false h1;refine(jK hb hc).bind λr ⟨hr,hc1⟩=>(jK hb hc1).bind λr2 ⟨hr2,hc2⟩=>(jK hb hc2).bind λr3 ⟨hr3,hc3⟩=>?_;rw[decide_eq_false (show¬n=0 by omega),decide_eq_true rfl];rw[bw (n:=r.1*65536) (by omega) (by omega),bw (n:=r2.1*256) (by omega) (by omega),bw (n:=r.1*65536+r2.1*256) (by omega) (by omega),bw (n:=r.1*65536+r2.1*256+r3.1) (by omega) (by omega)];have:=zt (x:=r.1*65536+r2.1*256+r3.1) (n:=n) (by omega) (by omega);exact al.some ⟨⟨this.1,λ_=>this.2,λh=>by omega⟩,hc3⟩
theorem jL {k:Nat} {b:List Int} {i h:Int} {xs:List Int} (hb:b.length<=1048576) (hc:Cur b i) (hx:0<xs.length):al (bB k b i h xs) λr=>r.1∈xs/\Cur b r.2.1:=by
 unfold bB;refine(cw hb hc).bind λr ⟨⟨h0,h1,_⟩,hc1⟩=>?_;have:=h1 (by omega)
 have hi:r.1.toNat<xs.length:=by omega
 rw[iz _ h0,aR hi,aa,decide_eq_true rfl];exact al.some ⟨F0 hi,hc1⟩
theorem l5 {k:Nat} {b:List Int} {i h n:Int} (hb:b.length<=1048576) (hc:Cur b i):al (dr k b i h n) λr=>Cur b r.2.1:=by
 unfold dr;refine(cw hb hc).bind λr ⟨_,hc1⟩=>?_;rw[decide_eq_true rfl];exact al.some hc1
theorem sb {k:Nat} {b:List Int} (hb:b.length<=1048576) (hk:b.length<k):al (gT k b) λr=>Cur b r.1:=by
 unfold gT;refine al.iter (Inv:=λv:Int× Int=>0<=v.2/\v.2<=b.length) (m:=λv=>b.length-v.2.toNat) (λv next hv hn=>?_) k _ (by constructor<;>simp) (by simp;omega);unfold iA
 have fin:al (cond (decide (b=b)) (some ((0:Int),v.1)) none) λr=>Cur b r.1:=by
  rw[decide_eq_true rfl];exact al.some ⟨Ha _,by show(0:Int)<=b.length;omega⟩
 refine al.cond (λh1=>al.cond (λh2=>?_) λh2=>fin) λh1=>fin;have h1:=of_decide_eq_true h1
 have hi:v.2.toNat<b.length:=by omega
 rw[iz _ hv.1,aR hi,aa];have e:i64.wrap (v.2+1)=v.2+1:=bw (by omega) (by omega);rw[e];exact hn _ (by simp only;omega) (by simp only;omega)
end
section
theorem al.must {α:Type} {p:Prop} {i:Decidable p} {x y:Option α} {Q:α->Prop} (h:p) (hx:al x Q):al (bif (@decide p i)then x else y) Q:=by
 rw[decide_eq_true h];exact hx
theorem al.ble {α:Type} {a b:Nat} {x y:Option α} {Q:α->Prop} (h:a<=b) (hx:al x Q):al (bif (Nat.ble a b)then x else y) Q:=by
 rw[Gt h];exact hx
end
section
end
section
end
section
end
section
end
section
structure wG (H W C:Nat) (xs:List Int):Prop where
 h1:1<=H
 h8:H<=8
 w1:1<=W
 w8:W<=8
 c1:1<=C
 c8:C<=8
 len:xs.length=H*W*C
 mem:∀x∈xs,-128<=x/\x<=127
def EZ (H W C:Nat) (xs:List Int):fy:=⟨⟨H,W,C⟩,xs⟩
theorem wG.sh {H W C:Nat} {xs:List Int} (r:wG H W C xs):(⟨H,W,C⟩:Shape).okB=true:=by
 obtain⟨a,b,c,d,e,f,_,_⟩:=r;simp only[Shape.okB,inB,Fy,decide_eq_true_eq];omega
theorem wG.size {H W C:Nat} {xs:List Int} (r:wG H W C xs):(⟨H,W,C⟩:Shape).size=((H*W*C:Nat):Int):=by
 unfold Shape.size;rw[r.sh,cond_true,Int.natCast_mul,Int.natCast_mul]
theorem wG.ok {H W C:Nat} {xs:List Int} (r:wG H W C xs):(EZ H W C xs).okB=true:=by
 unfold fy.okB EZ;simp only[r.sh,r.size,r.len,decide_true,Bool.true_and];unfold Bv;rw[List.all_eq_true];intro x hx;have:=r.mem x hx;rw[vp];omega
end
section
end
section
end
section
end
section
end
section
end
section
end
set_option maxRecDepth 100000
section
theorem al.bej {A R:Type} {B:A->Option R} {K:A} {Q:R->Prop} (h:al (B K) Q):al (bej B K) Q:=h
theorem al.of {α β:Type} {a:α} {f:α->Option β} {Q:β->Prop} (h:al (f a) Q):al ((Option.some a).bind f) Q:=h
section
variable {b:List Int} {k:Nat}
end
end
set_option maxRecDepth 100000
section
section
variable {b:List Int} {k:Nat}
end
end
set_option maxRecDepth 100000
section
theorem gm {α:Type} (xs:List α) (x:Nat):(kA xs x).length=xs.length:=by simp[kA]
theorem pj {α:Type}:∀xs:List α,iJ (xs.map some)=some xs
 |[]=>rfl
 |x::l=>by rw[F9,iJ,pj l];rfl
theorem jM {α:Type} (xs:List α) (i:Nat) (y:α):iJ ((kA xs i).set i (some y))=some (xs.set i y):=by
 unfold kA;rw[List.set_set,show(xs.map some).set i (some y)=(xs.set i y).map some from by rw[GP],pj]
section
variable {b:List Int} {k:Nat}
end
end
set_option maxRecDepth 100000
section
end
set_option maxRecDepth 100000
section
section
variable {α:Type}
theorem ju {A:List α} {x:α} {B:List α} {n:Nat} (h:n=A.length):(A++x::B)[n]? =some x:=by subst h;simp
theorem jv {A:List α} {x y:α} {B:List α} {n:Nat} (h:n=A.length):(A++x::B).set n y=A++y::B:=by subst h;simp
def Srt (R:α->α->Prop) (l:List α):Prop:=l.Pairwise R
theorem dV {R:α->α->Prop} {U V:List α}:Srt R (U++V)↔Srt R U/\Srt R V/\∀x∈U,∀y∈V,R x y:=GG
theorem ld (l:List α) (n:Nat) (h:n<=l.length):∃A B,l=A++B/\A.length=n:=⟨l.take n,l.drop n,(FU n l).symm,by rw[FT];omega⟩
theorem sd (l:List α) (n:Nat) (h:n<l.length):∃A x B,l=A++x::B/\A.length=n:=⟨l.take n,l[n],l.drop (n+1),by rw[<-Gz h,FU],by rw[FT];omega⟩
def Lt (key pos:α->Int) (x y:α):Prop:=key x<key y\/(key x=key y/\pos x<pos y)
theorem Lt.trans {key pos:α->Int} {x y z:α} (h:Lt key pos x y) (g:Lt key pos y z):Lt key pos x z:=by unfold Lt at*;omega
theorem Lt.le {key pos:α->Int} {x y:α} (h:Lt key pos x y):key x<=key y:=by unfold Lt at h;omega
def CA (key pos:α->Int) (U V:List α):Prop:=∀x∈U,∀y∈V,key x=key y->pos x<pos y
theorem CA.lt {key pos:α->Int} {U V:List α} (h:CA key pos U V) {x y:α} (hx:x∈U) (hy:y∈V) (hk:key x<=key y):Lt key pos x y:=by
 unfold Lt;by_cases c:key x=key y
 ·exact .inr ⟨c,h x hx y hy c⟩
 ·exact .inl (by omega)
theorem se {key pos:α->Int} {x y:α} (h:key x<key y):Lt key pos x y:=.inl h
theorem Bx {key pos:α->Int}:∀{l m:List α},Srt (Lt key pos) l->Srt (Lt key pos) m->l.Perm m->l=m:=λ{l m} h1 h2 hp=>by
 refine hp.eq_of_pairwise (le:=Lt key pos) (λa b _ _ h g=>?_) h1 h2;have:=h.trans g;unfold Lt at this;omega
end
theorem qv {x:Int} (h0:0<=x) (h1:x<=4000000000000000000):i64.wrap ((u64.wrap (i64.wrap x)).fdiv (2^(min (1:Int).toNat u64.bits)))=x/2:=by
 have e:(2:Int)^(min (1:Int).toNat u64.bits)=2:=by decide
 have u:u64.wrap x=x:=Go.IntWalk.u64_in x ⟨by omega,by omega⟩;rw[bw (n:=x) (by omega) (by omega),u,e,Int.fdiv_eq_ediv_of_nonneg x (by omega)];exact bw (by omega) (by omega)
end
set_option maxRecDepth 100000
section
theorem sf {k:Nat} {ds Q:List Int} {a b n:Nat} {R:Type} {fin:List Int->Option R}:∀(U V P M:List Int) (i kf:Nat),U.length=V.length->U.length<kf->a+i=P.length->b+i=P.length+U.length+M.length->n=i+U.length->P.length+U.length+M.length+V.length+Q.length<=4000000000000->
  iter (λu4 n4=>aK k ((a:Int),(b:Int),(n:Int),ds) u4 n4 fin) kf ((i:Int),P++(U++(M++(V++Q))))=fin (P++(V++(M++(U++Q))))
 |_,_,_,_,_,0,_,h,_,_,_,_=>by omega
 |[],V,P,M,i,kf+1,hl,_,_,_,hn,_=>by
  have hV:V=[]:=FK.1 (by simpa using hl.symm);subst hV;rw[cI];unfold aK;simp only
  rw[decide_eq_false (by simp at hn;omega),cond_false]
 |u::U,[],P,M,i,kf+1,hl,_,_,_,_,_=>by simp at hl
 |u::U,v::V,P,M,i,kf+1,hl,hk,ha,hb,hn,hN=>by
  simp only[F4]at hl hk hb hn hN;rw[cI];unfold aK;simp only
  rw[decide_eq_true (show(i:Int)<(n:Int) by omega),cond_true,bw (n:=(b:Int)+(i:Int)) (by omega) (by omega),bw (n:=(a:Int)+(i:Int)) (by omega) (by omega),bw (n:=(i:Int)+1) (by omega) (by omega),
   show((b:Int)+(i:Int)).toNat=b+i from by omega,show((a:Int)+(i:Int)).toNat=a+i from by omega]
  have hlen:(P++(u::U++(M++(v::V++Q)))).length=P.length+(U.length+1)+M.length+(V.length+1)+Q.length:=by simp;omega
  rw[decide_eq_true (by omega),cond_true]
  have h1:(P++(u::U++(M++(v::V++Q))))[b+i]? =some v:=by
   rw[show P++(u::U++(M++(v::V++Q)))=(P++u::(U++M))++v::(V++Q)from by simp];exact ju (by simp;omega)
  have h2:(P++(u::U++(M++(v::V++Q))))[a+i]? =some u:=ju ha
  have h3:((P++(u::U++(M++(v::V++Q)))).set (a+i) v).set (b+i) u=(P++[v])++(U++((M++[u])++(V++Q))):=by
   rw[show P++(u::U++(M++(v::V++Q)))=P++u::(U++(M++(v::V++Q)))from rfl,jv ha,show P++v::(U++(M++(v::V++Q)))=(P++v::(U++M))++v::(V++Q)from by simp,jv (by simp;omega)];simp
  rw[h1,aa,decide_eq_true (by omega),cond_true,h2,aa,cond_true,cond_true,h3];have:=sf (k:=k) (ds:=ds) (Q:=Q) (a:=a) (b:=b) (n:=n) (fin:=fin) U V (P++[v]) (M++[u]) (i+1) kf (by omega) (by omega) (by simp;omega) (by simp;omega) (by omega) (by simp;omega);rw[show((i+1:Nat):Int)=(i:Int)+1 from by omega]at this;exact this.trans (by simp)
theorem jx {k:Nat} {ds P U M V Q:List Int} (hl:U.length=V.length) (hk:U.length<k) (hN:P.length+U.length+M.length+V.length+Q.length<=4000000000000) {a b n:Int} (ha:a=P.length) (hb:b=(P.length+U.length+M.length:Nat)) (hn:n=U.length):
  aB k (P++(U++(M++(V++Q)))) a b n ds=some (P++(V++(M++(U++Q)))):=by
 subst ha hb hn;unfold aB;have:=sf (k:=k) (ds:=ds) (Q:=Q) (a:=P.length) (b:=P.length+U.length+M.length) (n:=U.length) (fin:=λy3=>cond (decide (ds=ds)) (some y3) none) U V P M 0 k hl hk rfl rfl (by omega) hN;exact this.trans (by rw[decide_eq_true rfl];rfl)
theorem ko {k:Nat} {ds:List Int} {m N:Nat} (hkN:N<k) (hN:N<=4000000000000) {R:Type} {fin:Int× List Int->Option R}:∀(s:Nat) (P U V Q:List Int) (kf:Nat) (T:List Int),U.length+V.length<=s->s<kf->1<=U.length->1<=V.length->P.length+U.length=m->P.length+U.length+V.length+Q.length=N->T=P++(V++(U++Q))->
  ∃(P' U' V' Q':List Int),U'.length=V'.length/\P'.length+U'.length=m/\P'.length+U'.length+V'.length+Q'.length=N/\T=P'++(V'++(U'++Q'))/\
   iter (λu5 n5=>ay k ((m:Int),ds) u5 n5 fin) kf ((U.length:Int),(V.length:Int),P++(U++(V++Q)))=fin ((U'.length:Int),P'++(U'++(V'++Q')))
 |s,P,U,V,Q,0,T,_,h,_,_,_,_,_=>by omega
 |s,P,U,V,Q,kf+1,T,hs,hk,hu,hv,hm,hT,hTe=>by
  rw[cI];by_cases c:U.length=V.length
  ·refine⟨P,U,V,Q,c,hm,hT,hTe,?_⟩;show ay k ((m:Int),ds) _ _ fin=_;unfold ay;simp only;rw[show((U.length:Int) !=(V.length:Int))=false from by rw[c];simp,cond_false]
  ·have hne:((U.length:Int) !=(V.length:Int))=true:=by simp;omega
   by_cases g:U.length>V.length
   ·obtain⟨U1,U2,rfl,hl⟩:=ld U V.length (by omega);rw[FD]at g hu hm hT hs c
    have st:∀next,ay k ((m:Int),ds) (((U1++U2).length:Int),(V.length:Int),P++(U1++U2++(V++Q))) next fin=next ((U2.length:Int),(U1.length:Int),(P++V)++(U2++(U1++Q))):=λnext=>by
     unfold ay;simp only;rw[hne,cond_true,decide_eq_true (by rw[FD];omega),cond_true,FD,bw (n:=(m:Int)-((U1.length+U2.length:Nat):Int)) (by omega) (by omega)];have:=jx (k:=k) (ds:=ds) (P:=P) (U:=U1) (M:=U2) (V:=V) (Q:=Q) hl (by omega) (by omega) (a:=(m:Int)-((U1.length+U2.length:Nat):Int)) (b:=m) (n:=V.length) (by omega) (by omega) (by omega);rw[show P++(U1++U2++(V++Q))=P++(U1++(U2++(V++Q)))from by simp,this,aa,bw (n:=((U1.length+U2.length:Nat):Int)-(V.length:Int)) (by omega) (by omega),show((U1.length+U2.length:Nat):Int)-(V.length:Int)=(U2.length:Int)from by omega,show(V.length:Int)=(U1.length:Int)from by omega];simp
    obtain⟨P',U',V',Q',q1,q2,q3,q4,q5⟩:=ko (ds:=ds) (m:=m) hkN hN (fin:=fin) (s-1) (P++V) U2 U1 Q kf T (by omega) (by omega) (by omega) (by omega) (by simp;omega) (by simp;omega) (by rw[hTe];simp);exact⟨P',U',V',Q',q1,q2,q3,q4,(st _).trans q5⟩
   ·obtain⟨V1,V2,rfl,hl⟩:=ld V (V.length-U.length) (by omega);rw[FD]at g hv hT hs c hl
    have st:∀next,ay k ((m:Int),ds) ((U.length:Int),((V1++V2).length:Int),P++(U++(V1++V2++Q))) next fin=next ((V2.length:Int),(V1.length:Int),P++(V2++(V1++(U++Q)))):=λnext=>by
     unfold ay;simp only
     rw[hne,cond_true,decide_eq_false (by rw[FD];omega),cond_false,FD,bw (n:=(m:Int)-(U.length:Int)) (by omega) (by omega),bw (n:=(m:Int)+((V1.length+V2.length:Nat):Int)) (by omega) (by omega),
      bw (n:=(m:Int)+((V1.length+V2.length:Nat):Int)-(U.length:Int)) (by omega) (by omega),bw (n:=((V1.length+V2.length:Nat):Int)-(U.length:Int)) (by omega) (by omega)]
     have:=jx (k:=k) (ds:=ds) (P:=P) (U:=U) (M:=V1) (V:=V2) (Q:=Q) (by omega) (by omega) (by omega) (a:=(m:Int)-(U.length:Int)) (b:=(m:Int)+((V1.length+V2.length:Nat):Int)-(U.length:Int)) (n:=U.length) (by omega) (by omega) rfl;rw[show P++(U++(V1++V2++Q))=P++(U++(V1++(V2++Q)))from by simp,this,aa,show(U.length:Int)=(V2.length:Int)from by omega,show((V1.length+V2.length:Nat):Int)-(V2.length:Int)=(V1.length:Int)from by omega]
    obtain⟨P',U',V',Q',q1,q2,q3,q4,q5⟩:=ko (ds:=ds) (m:=m) hkN hN (fin:=fin) (s-1) P V2 V1 (U++Q) kf T (by omega) (by omega) (by omega) (by omega) (by omega) (by simp;omega) (by rw[hTe];simp);exact⟨P',U',V',Q',q1,q2,q3,q4,(st _).trans q5⟩
theorem zv {k:Nat} {ds P U V Q:List Int} (hu:1<=U.length) (hv:1<=V.length) (hk:P.length+U.length+V.length+Q.length<k) (hN:P.length+U.length+V.length+Q.length<=4000000000000) {a m b:Int} (ha:a=P.length) (hm:m=(P.length+U.length:Nat)) (hb:b=(P.length+U.length+V.length:Nat)):
  bd k (P++(U++(V++Q))) a m b ds=some (P++(V++(U++Q))):=by
 subst ha hm hb;unfold bd
 rw[bw (n:=((P.length+U.length:Nat):Int)-(P.length:Int)) (by omega) (by omega),bw (n:=((P.length+U.length+V.length:Nat):Int)-((P.length+U.length:Nat):Int)) (by omega) (by omega),
  show((P.length+U.length:Nat):Int)-(P.length:Int)=(U.length:Int)from by omega,show((P.length+U.length+V.length:Nat):Int)-((P.length+U.length:Nat):Int)=(V.length:Int)from by omega]
 obtain⟨P',U',V',Q',q1,q2,q3,q4,q5⟩:=ko (k:=k) (ds:=ds) (m:=P.length+U.length) hk hN (fin:=λy3=>(aB k y3.2 (i64.wrap (((P.length+U.length:Nat):Int)-y3.1)) ((P.length+U.length:Nat):Int) y3.1 ds).bind λr4=>cond (decide (ds=ds)) (some r4) none) (U.length+V.length) P U V Q k _ (FQ _) (by omega) hu hv rfl rfl rfl;refine q5.trans ?_;rw[q4];have:=jx (k:=k) (ds:=ds) (P:=P') (U:=U') (M:=[]) (V:=V') (Q:=Q') q1 (by omega) (by simp;omega) (a:=((P.length+U.length:Nat):Int)-(U'.length:Int)) (b:=((P.length+U.length:Nat):Int)) (n:=U'.length) (by omega) (by simp;omega) rfl;simp only[G6]at this;simp only;rw[bw (by omega) (by omega),this];simp
end
set_option maxRecDepth 100000
section
theorem nH {R:Type} {g:Int× Int->(Int× Int->Option R)->Option R} {fin:Int->Option R} {lo hi:Nat} {B:Nat->Bool} (A4:∀h h',lo<=h->h<=h'->h'<hi->B h'=true->B h=true)
    (hg:∀i j:Nat,lo<=i->i<j->j<=hi->∀next,g ((i:Int),(j:Int)) next=cond (B ((i+j)/2)) (next ((((i+j)/2+1:Nat):Int),(j:Int))) (next ((i:Int),(((i+j)/2:Nat):Int))))
    (DA:∀(i:Nat) next,g ((i:Int),(i:Int)) next=fin i):∀(s i j k:Nat),j-i<=s->s<k->lo<=i->i<=j->j<=hi->(∀h,lo<=h->h<i->B h=true)->(∀h,j<=h->h<hi->B h=false)->
    ∃c:Nat,lo<=c/\c<=hi/\(∀h,lo<=h->h<c->B h=true)/\(∀h,c<=h->h<hi->B h=false)/\iter g k ((i:Int),(j:Int))=fin c
  |s,i,j,0,_,h,_,_,_,_,_=>by omega
  | s, i, j, k + 1, hs, hk, h1, h2, h3, h4, h5 => by
    rw[cI];by_cases c:i=j
    · subst c;exact⟨i,h1,h3,h4,h5,DA i _⟩
    · rw [hg i j h1 (by omega) h3];cases hb:B ((i+j)/2)
      · rw [cond_false]
        exact nH A4 hg DA (s-1) i ((i+j)/2) k (by omega) (by omega) h1 (by omega) (by omega) h4 λh a b=>by
          cases hbh:B h
          · rfl
          · by_cases c2:h<j
            · rw[A4 ((i+j)/2) h (by omega) a b hbh]at hb;exact nomatch hb
            · rw[h5 h (by omega) b]at hbh;exact nomatch hbh
      · rw[cond_true];exact nH A4 hg DA (s-1) ((i+j)/2+1) j k (by omega) (by omega) (by omega) (by omega) h3 (λh a b=>A4 h ((i+j)/2) a (by omega) (by omega) hb) h5
section
variable {ds:List Int} {k:Nat}
def InD (ds:List Int) (x:Int):Prop:=0<=x/\x<ds.length
def eP (ds:List Int) (x:Int):Int:=ds.getD x.toNat 0
theorem vq {x y:Int} (hx:InD ds x) (hy:InD ds y):∃r,bC k x y ds=some r/\(r<0↔eP ds x<eP ds y):=by
 unfold InD at hx hy;unfold bC dt ez fi;rw[iz _ hx.1,iz _ hy.1,aR (show x.toNat<ds.length by omega),aR (show y.toNat<ds.length by omega)];have e1:eP ds x=ds[x.toNat]'(by omega):=cz _ _;have e2:eP ds y=ds[y.toNat]'(by omega):=cz _ _;rw[<-e1,<-e2];simp only[aa,decide_true,cond_true,show∀a:Int,(a !=a)=false fromλa=>by simp,cond_false];by_cases c:eP ds x<eP ds y
 ·rw[decide_eq_true c];exact⟨_,rfl,by simp[c]⟩
 ·rw[decide_eq_false c,cond_false];by_cases d:eP ds x>eP ds y
  ·rw[decide_eq_true d];exact⟨_,rfl,by simp[c]⟩
  ·rw[decide_eq_false d];exact⟨_,rfl,by simp[c]⟩
abbrev LtD (ds:List Int):Int->Int->Prop:=Lt (eP ds) id
abbrev lf (ds:List Int):List Int->List Int->Prop:=CA (eP ds) id
def lg (ds:List Int) (l:List Int):Prop:=∀x∈l,InD ds x
theorem gn {l:List Int} (h:Srt (LtD ds) l) {i j:Nat} (hij:i<=j) (hj:j<l.length):eP ds (l.getD i 0)<=eP ds (l.getD j 0):=by
 rw[cz (by omega),cz hj];by_cases c:i=j
 ·subst c;exact Ha _
 ·exact(List.pairwise_iff_getElem.1 h i j (by omega) hj (by omega)).le
theorem pk {R:Type} {fin:List Int->Option R} {u c:Int} {Q:List Int} {N:Nat} (hN:N<=4000000000000):∀(V P:List Int) (kf:Nat),V.length<kf->c=(P.length+V.length+1:Nat)->P.length+V.length+1+Q.length=N->
  iter (λu9 n9=>ae k (c,ds) u9 n9 fin) kf ((P.length:Int),P++u::(V++Q))=fin (P++(V++u::Q))
 |_,_,0,h,_,_=>by omega
 |[],P,kf+1,_,hc,hn=>by
  rw[cI];show ae k (c,ds) _ _ fin=_;unfold ae;simp only[GS]at hc;simp only
  rw[bw (n:=c-1) (by omega) (by omega),decide_eq_false (by omega)];rfl
 |v::V,P,kf+1,hk,hc,hn=>by
  simp only[F4]at hk hc hn;rw[cI]
  have st:∀next,ae k (c,ds) ((P.length:Int),P++u::(v::V++Q)) next fin=next (((P++[v]).length:Int),(P++[v])++u::(V++Q)):=λnext=>by
   unfold ae;simp only
   have hl:(P++u::(v::V++Q)).length=P.length+V.length+2+Q.length:=by simp;omega
   rw[bw (n:=c-1) (by omega) (by omega),decide_eq_true (show(P.length:Int)<c-1 by omega),cond_true,bw (n:=(P.length:Int)+1) (by omega) (by omega),decide_eq_true (by omega),cond_true,show((P.length:Int)+1).toNat=P.length+1 from by omega,
    show(P.length:Int).toNat=P.length from by omega]
   have h1:(P++u::(v::V++Q))[P.length+1]? =some v:=by
    rw[show P++u::(v::V++Q)=(P++[u])++v::(V++Q)from by simp];exact ju (by simp)
   have h2:(P++u::(v::V++Q))[P.length]? =some u:=ju rfl
   have h3:((P++u::(v::V++Q)).set P.length v).set (P.length+1) u=(P++[v])++u::(V++Q):=by
    rw[jv rfl,show P++v::(v::V++Q)=(P++[v])++v::(V++Q)from by simp,jv (by simp)]
   rw[h1,aa,decide_eq_true (by omega),cond_true,h2,aa,cond_true,cond_true,h3];simp
  have ih:=pk (fin:=fin) (u:=u) (c:=c) (Q:=Q) hN V (P++[v]) kf (by omega) (by simp;omega) (by simp;omega);exact(st _).trans (ih.trans (by simp))
theorem sg {R:Type} {fin:List Int->Option R} {v:Int} {P Q:List Int} {N:Nat} (hN:N<=4000000000000):∀(n:Nat) (V W:List Int) (kf:Nat),V.length=n->n<kf->P.length+V.length+1+W.length+Q.length=N->
  iter (λu19 n19=>ag k ((P.length:Int),ds) u19 n19 fin) kf (((P.length+V.length:Nat):Int),P++(V++v::(W++Q)))=fin (P++(v::(V++(W++Q))))
 |_,_,_,0,_,h,_=>by omega
 |0,V,W,kf+1,hV,_,hn=>by
  have hV:=FK.1 hV;subst hV;rw[cI];show ag k ((P.length:Int),ds) _ _ fin=_;unfold ag;simp only
  rw[decide_eq_false (by simp)];rfl
 |n+1,V,W,kf+1,hV,hk,hn=>by
  obtain⟨V1,y,V2,rfl,hl⟩:=sd V n (by omega);have hV2:V2=[]:=FK.1 (by simp at hV;omega);subst hV2;simp only[FD,F4,GS]at hV hn;rw[cI]
  have st:∀next,ag k ((P.length:Int),ds) (((P.length+(V1++[y]).length:Nat):Int),P++(V1++[y]++v::(W++Q))) next fin=next (((P.length+V1.length:Nat):Int),P++(V1++v::(y::W++Q))):=λnext=>by
   unfold ag;simp only
   have hl':(P++(V1++[y]++v::(W++Q))).length=P.length+V1.length+2+W.length+Q.length:=by simp;omega
   have hz:(P.length+(V1++[y]).length:Nat)=P.length+V1.length+1:=by simp;omega
   rw[hz,decide_eq_true (show((P.length+V1.length+1:Nat):Int)>(P.length:Int) by omega),cond_true,bw (n:=((P.length+V1.length+1:Nat):Int)-1) (by omega) (by omega),decide_eq_true (by omega),cond_true,
    show(((P.length+V1.length+1:Nat):Int)-1).toNat=P.length+V1.length from by omega,show((P.length+V1.length+1:Nat):Int).toNat=P.length+V1.length+1 from by omega]
   have e:P++(V1++[y]++v::(W++Q))=(P++V1)++y::(v::(W++Q)):=by simp
   have h1:(P++(V1++[y]++v::(W++Q)))[P.length+V1.length]? =some y:=by rw[e];exact ju (by simp)
   have h2:(P++(V1++[y]++v::(W++Q)))[P.length+V1.length+1]? =some v:=by
    rw[show P++(V1++[y]++v::(W++Q))=(P++V1++[y])++v::(W++Q)from by simp];exact ju (by simp;omega)
   have h3:((P++(V1++[y]++v::(W++Q))).set (P.length+V1.length+1) y).set (P.length+V1.length) v=P++(V1++v::(y::W++Q)):=by
    rw[show P++(V1++[y]++v::(W++Q))=(P++V1++[y])++v::(W++Q)from by simp,jv (by simp;omega),show P++V1++[y]++y::(W++Q)=(P++V1)++y::(y::(W++Q))from by simp,jv (by simp)];simp
   rw[h1,aa,decide_eq_true (by omega),cond_true,h2,aa,cond_true,cond_true,h3]
   congr 2
   omega
  have ih:=sg (fin:=fin) (v:=v) (P:=P) (Q:=Q) hN n V1 (y::W) kf hl (by omega) (by simp;omega);refine(st _).trans (ih.trans ?_);simp
end
end
set_option maxRecDepth 100000
section
def vr (ds:List Int) (P U V Q:List Int) (r:Option (List Int)):Prop:=∃W,r=some (P++(W++Q))/\W.Perm (U++V)/\Srt (LtD ds) W
section
variable {ds:List Int} {k:Nat}
theorem A5 {u:Int} {P V Q:List Int} (hk:P.length+V.length+Q.length+10<k) (hN:P.length+V.length+Q.length<=3000000000000) (hu:InD ds u) (hV:lg ds V) (sV:Srt (LtD ds) V) (hA:lf ds [u] V):
    vr ds P [u] V Q (iter (λu10 n10=>ao k ((P.length:Int),P++u::(V++Q),ds) u10 n10 (λy5=>iter (λu9 n9=>ae k (y5,ds) u9 n9 (λy8=>cond (decide (ds=ds)) (some y8) none)) k ((P.length:Int),P++u::(V++Q)))) k (((P.length+1:Nat):Int),((P.length+1+V.length:Nat):Int))):=by
  have hlen:(P++u::(V++Q)).length=P.length+1+V.length+Q.length:=by simp;omega
  have hat:∀h,P.length+1<=h->h<P.length+1+V.length->(P++u::(V++Q))[h]? =some (V.getD (h-(P.length+1)) 0):=λh h1 h2=>by
    rw[show P++u::(V++Q)=(P++[u])++(V++Q)from by simp,Fz (by simp;omega),FB (by simp;omega),show h-(P++[u]).length=h-(P.length+1)from by simp,Fw (by omega),<-cz (show h-(P.length+1)<V.length by omega) 0]
  have hin:∀i,i<V.length->InD ds (V.getD i 0):=λi hi=>by rw[cz hi];exact hV _ (F0 hi)
  obtain⟨c,c1,c2,c3,c4,c5⟩:=nH (g:=λu10 n10=>ao k ((P.length:Int),P++u::(V++Q),ds) u10 n10 (λy5=>iter (λu9 n9=>ae k (y5,ds) u9 n9 (λy8=>cond (decide (ds=ds)) (some y8) none)) k ((P.length:Int),P++u::(V++Q))))
    (fin:=λy5=>iter (λu9 n9=>ae k (y5,ds) u9 n9 (λy8=>cond (decide (ds=ds)) (some y8) none)) k ((P.length:Int),P++u::(V++Q)))
    (lo:=P.length+1) (hi:=P.length+1+V.length) (B:=λh=>decide (eP ds (V.getD (h-(P.length+1)) 0)<eP ds u))
    (λh h' h1 h2 h3 hb=>by
      have:=gn sV (show h-(P.length+1)<=h'-(P.length+1) by omega) (by omega);have hb:=of_decide_eq_true hb
      exact decide_eq_true (by omega))
    (λi j h1 h2 h3 next=>by
      show ao k _ _ next _=_
      generalize (λy5=>iter (λu9 n9=>ae k (y5,ds) u9 n9 (λy8=>cond (decide (ds=ds)) (some y8) none)) k ((P.length:Int),P++u::(V++Q)))=fin;unfold ao;simp only
      rw[decide_eq_true (show(i:Int)<(j:Int) by omega),cond_true,qv (x:=(i:Int)+(j:Int)) (by omega) (by omega),show((i:Int)+(j:Int))/2=(((i+j)/2:Nat):Int)from by omega,decide_eq_true (by omega),cond_true,
        show(((i+j)/2:Nat):Int).toNat=(i+j)/2 from by omega,hat _ (by omega) (by omega),aa,decide_eq_true (by omega),cond_true,show(P.length:Int).toNat=P.length from by omega,ju rfl,aa]
      obtain⟨r,hr,hr2⟩:=vq (ds:=ds) (k:=k) (hin ((i+j)/2-(P.length+1)) (by omega)) hu;rw[hr,aa,bw (by omega) (by omega),show(((i+j)/2:Nat):Int)+1=(((i+j)/2+1:Nat):Int)from by omega];by_cases q:r<0
      · rw[decide_eq_true q,decide_eq_true (hr2.1 q)]
      · rw[decide_eq_false q,decide_eq_false (λh=>q (hr2.2 h))])
    (λi next=>by
      show ao k _ _ next _=_
      unfold ao;simp only
      rw[decide_eq_false (by omega),cond_false]) V.length (P.length+1) (P.length+1+V.length) k (by omega) (by omega) (FQ _) (by omega) (FQ _) (λh _ _=>by omega) (λh _ _=>by omega)
  refine⟨V.take (c-(P.length+1))++u::V.drop (c-(P.length+1)),?_,?_,?_⟩
  · refine c5.trans ?_
    have ht:(V.take (c-(P.length+1))).length=c-(P.length+1):=by rw[FT];omega
    have:=pk (ds:=ds) (k:=k) (fin:=λy8=>cond (decide (ds=ds)) (some y8) none) (u:=u) (c:=(c:Int)) (Q:=V.drop (c-(P.length+1))++Q) (N:=P.length+V.length+1+Q.length) (by omega) (V.take (c-(P.length+1))) P k (by omega) (by omega) (by simp;omega);rw[<-FE,FU]at this;refine this.trans ?_;rw[decide_eq_true rfl,cond_true];simp
  · refine(List.perm_middle).trans ?_;rw[FU];exact List.Perm.refl _
  · have hlt:∀i,i<V.length->(i<c-(P.length+1)↔eP ds (V.getD i 0)<eP ds u):=λi hi=>by
      constructor
      · intro h;have:=of_decide_eq_true (c3 (i+(P.length+1)) (by omega) (by omega));rwa [G9]at this
      · intro h
        cases Nat.lt_or_ge i (c-(P.length+1))with
        |inl h=>exact h
        | inr g =>
          have:=of_decide_eq_false (c4 (i+(P.length+1)) (by omega) (by omega));rw[G9]at this;exact(this h).elim
    have s2:=sV;rw[<-FU (c-(P.length+1)) V,dV]at s2;refine dV.2 ⟨s2.1,GC.2 ⟨λy hy=>?_,s2.2.1⟩,λx hx y hy=>?_⟩
    · obtain⟨i,hi,rfl⟩:=Gs hy;rw[GQ]at hi;rw[List.getElem_drop];refine hA.lt (FW.2 rfl) (F0 _) ?_;have:=mt (hlt (c-(P.length+1)+i) (by omega)).2 (by omega);rw[cz (by omega)]at this;omega
    · have hxu:eP ds x<eP ds u:=by
        obtain⟨i,hi,rfl⟩:=Gs hx;rw[FT]at hi;rw[List.getElem_take];have:=(hlt i (by omega)).1 (by omega);rwa [cz (by omega)]at this
      rcases FM.1 hy with rfl|hy
      · exact se hxu
      · exact s2.2.2 x hx y hy
theorem zw {v:Int} {P U Q:List Int} (hk:P.length+U.length+Q.length+10<k) (hN:P.length+U.length+Q.length<=3000000000000) (hv:InD ds v) (hU:lg ds U) (sU:Srt (LtD ds) U) (hA:lf ds U [v]):
    vr ds P U [v] Q (iter (λu20 n20=>aq k (((P.length+U.length:Nat):Int),P++(U++v::Q),ds) u20 n20 (λy15=>iter (λu19 n19=>ag k (y15,ds) u19 n19 (λy18=>cond (decide (ds=ds)) (some y18) none)) k (((P.length+U.length:Nat):Int),P++(U++v::Q)))) k ((P.length:Int),((P.length+U.length:Nat):Int))):=by
  have hlen:(P++(U++v::Q)).length=P.length+U.length+1+Q.length:=by simp;omega
  have hat:∀h,P.length<=h->h<P.length+U.length->(P++(U++v::Q))[h]? =some (U.getD (h-P.length) 0):=λh h1 h2=>by
    rw[Fz h1,FB (by omega),Fw (by omega),<-cz (show h-P.length<U.length by omega) 0]
  have Fq:(P++(U++v::Q))[P.length+U.length]? =some v:=by
    rw[<-FE];exact ju (by simp)
  have hin:∀i,i<U.length->InD ds (U.getD i 0):=λi hi=>by rw[cz hi];exact hU _ (F0 hi)
  obtain⟨c,c1,c2,c3,c4,c5⟩:=nH (g:=λu20 n20=>aq k (((P.length+U.length:Nat):Int),P++(U++v::Q),ds) u20 n20 (λy15=>iter (λu19 n19=>ag k (y15,ds) u19 n19 (λy18=>cond (decide (ds=ds)) (some y18) none)) k (((P.length+U.length:Nat):Int),P++(U++v::Q))))
    (fin:=λy15=>iter (λu19 n19=>ag k (y15,ds) u19 n19 (λy18=>cond (decide (ds=ds)) (some y18) none)) k (((P.length+U.length:Nat):Int),P++(U++v::Q)))
    (lo:=P.length) (hi:=P.length+U.length) (B:=λh=>!decide (eP ds v<eP ds (U.getD (h-P.length) 0)))
    (λh h' h1 h2 h3 hb=>by
      have:=gn sU (show h-P.length<=h'-P.length by omega) (by omega);rw[GH]at hb⊢;have hb:=of_decide_eq_false hb
      exact decide_eq_false (by omega))
    (λi j h1 h2 h3 next=>by
      show aq k _ _ next _=_
      generalize (λy15=>iter (λu19 n19=>ag k (y15,ds) u19 n19 (λy18=>cond (decide (ds=ds)) (some y18) none)) k (((P.length+U.length:Nat):Int),P++(U++v::Q)))=fin;unfold aq;simp only
      rw[decide_eq_true (show(i:Int)<(j:Int) by omega),cond_true,qv (x:=(i:Int)+(j:Int)) (by omega) (by omega),show((i:Int)+(j:Int))/2=(((i+j)/2:Nat):Int)from by omega,decide_eq_true (by omega),cond_true,
        show((P.length+U.length:Nat):Int).toNat=P.length+U.length from by omega,Fq,aa,decide_eq_true (by omega),cond_true,show(((i+j)/2:Nat):Int).toNat=(i+j)/2 from by omega,hat _ (by omega) (by omega),aa]
      obtain⟨r,hr,hr2⟩:=vq (ds:=ds) (k:=k) hv (hin ((i+j)/2-P.length) (by omega));rw[hr,aa,bw (by omega) (by omega),show(((i+j)/2:Nat):Int)+1=(((i+j)/2+1:Nat):Int)from by omega];by_cases q:r<0
      · rw[decide_eq_true q,decide_eq_true (hr2.1 q)]
      · rw[decide_eq_false q,decide_eq_false (λh=>q (hr2.2 h))])
    (λi next=>by
      show aq k _ _ next _=_
      unfold aq;simp only
      rw[decide_eq_false (by omega),cond_false]) U.length P.length (P.length+U.length) k (by omega) (by omega) (FQ _) (by omega) (FQ _) (λh _ _=>by omega) (λh _ _=>by omega)
  refine⟨U.take (c-P.length)++v::U.drop (c-P.length),?_,?_,?_⟩
  · refine c5.trans ?_
    have ht:(U.take (c-P.length)).length=c-P.length:=by rw[FT];omega
    have hpt:(P++U.take (c-P.length)).length=c:=by simp;omega
    have:=sg (ds:=ds) (k:=k) (fin:=λy8=>cond (decide (ds=ds)) (some y8) none) (v:=v) (P:=P++U.take (c-P.length)) (Q:=Q) (N:=P.length+U.length+1+Q.length) (by omega) (U.drop (c-P.length)).length (U.drop (c-P.length)) [] k rfl (by simp;omega) (by simp;omega);rw[hpt]at this
    rw[show P++U.take (c-P.length)++(U.drop (c-P.length)++v::([]++Q))=P++(U++v::Q)from by
      rw[FE,<-FE (U.take _),FU];rfl,show c+(U.drop (c-P.length)).length=P.length+U.length from by simp;omega]at this
    refine this.trans ?_;rw[decide_eq_true rfl,cond_true];simp
  · refine(List.perm_middle).trans ?_;rw[FU];exact(GZ (l₁:=[v]) (l₂:=U))
  · have hlt:∀i,i<U.length->(i<c-P.length↔¬eP ds v<eP ds (U.getD i 0)):=λi hi=>by
      constructor
      · intro h;have:=c3 (i+P.length) (by omega) (by omega);rw[G9,GH]at this;exact of_decide_eq_false this
      · intro h
        cases Nat.lt_or_ge i (c-P.length)with
        |inl h=>exact h
        | inr g =>
          have:=c4 (i+P.length) (by omega) (by omega);rw[G9,Bool.not_eq_false']at this;exact(h (of_decide_eq_true this)).elim
    have s2:=sU;rw[<-FU (c-P.length) U,dV]at s2;refine dV.2 ⟨s2.1,GC.2 ⟨λy hy=>?_,s2.2.1⟩,λx hx y hy=>?_⟩
    · obtain⟨i,hi,rfl⟩:=Gs hy;rw[GQ]at hi;rw[List.getElem_drop];have:=mt (hlt (c-P.length+i) (by omega)).2 (by omega);rw[cz (by omega)]at this;exact se (by omega)
    · rcases FM.1 hy with rfl|hy
      · obtain⟨i,hi,rfl⟩:=Gs hx;rw[FT]at hi;rw[List.getElem_take];refine hA.lt (F0 _) (FW.2 rfl) ?_;have:=(hlt i (by omega)).1 (by omega);rw[cz (by omega)]at this;omega
      · exact s2.2.2 x hx y hy
end
end
end Go.Proofs.Ev
