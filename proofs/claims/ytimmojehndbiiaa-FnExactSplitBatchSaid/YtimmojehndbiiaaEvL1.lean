/- Typed functions and what holds of them: part 1. -/
import Derived.Test.YtimmojehndbiiaaEvK6
import Derived.Test.YtimmojehndbiiaaEvK7
import Derived.Test.YtimmojehndbiiaaProg
import Derived.RangeFuncNested
import Derived.RangeFuncBound
import Derived.Shelf.Abstract
import Derived.Shelf.RegionOpen
import Derived.WalkKit
import Derived.OwnWalkIn
import Derived.TacticsInMore
import Derived.LoopNIn
import Derived.LoopIn
import Derived.Test.YtimmojehndbiiaaEvK8
import Derived.KernelRfl
set_option linter.unusedVariables false
set_option linter.unusedSimpArgs false
set_option linter.unusedSectionVars false
namespace Go.Proofs.Ev
open IntKind(i64 u8 u64)
set_option maxRecDepth 100000
section
noncomputable section
def ja (k:Nat) (a0:List Int) (a1:Int):Option (Int):=
 cond (decide ((i64.wrap (a1-(a0.length:Int)))<0)) (some (-1:Int)) (some (i64.wrap (a1-(a0.length:Int))))
def jT (k:Nat) (a0:aa) (a1:Int):Option (Int):=
 (ja k a0.data a1).bind λr1=>cond (decide (r1<0)) (some (-1:Int)) (some r1)
def lH (k:Nat) (a0:Shape):Option (Shape):=
 some a0
def fu {ρ:Type} (k:Nat) (p:List Int) (v:Int× List Int) (next:(Int× List Int)->Option ρ) (x0:(List Int)->Option ρ):Option ρ:=
 cond (decide (v.1<(p.length:Int))) ((idx p v.1).bind λe1=>cond (decide (0<=v.1/\v.1<(v.2.length:Int))) (next (i64.wrap (v.1+1),v.2.set v.1.toNat e1)) none) (x0 v.2)
def jb (k:Nat) (a0:List Int):Option (List Int):=
 cond (decide (0<=(a0.length:Int)/\(a0.length:Int)<=(a0.length:Int)/\(a0.length:Int)<=(dK:Int))) (iter (λu3 n3=>fu k a0 u3 n3 (λy2=>some y2)) k ((0:Int),List.replicate ((a0.length:Int).toNat) (0:Int))) none
def cR (k:Nat) (a0:aa):Option (aa):=
 (lH k a0.sh).bind λr1=>(jb k a0.data).bind λr2=>some (⟨r1,r2⟩:aa)
def db {ρ:Type} (k:Nat) (p:List Int) (v:Int× List Int) (next:(Int× List Int)->Option ρ) (x0:(List Int)->Option ρ):Option ρ:=
 cond (decide (v.1<(p.length:Int))) ((idx p v.1).bind λe1=>cond (Nat.ble (v.2.length+[e1].length) dK) (next (i64.wrap (v.1+1),v.2++[e1])) none) (x0 v.2)
def jc (k:Nat) (a0:List Int):Option (List Int):=
 iter (λu3 n3=>db k a0 u3 n3 (λy2=>some y2)) k ((0:Int),([]:List Int))
def ir (k:Nat) (a0:Int) (a1:Int) (a2:Int):Option (Bool):=
 cond (decide (a1<=a0)) (some (decide (a0<=a2))) (some false)
def gu (k:Nat) (a0:Shape):Option (Bool):=
 (ir k a0.h (1:Int) (8:Int)).bind λr1=>cond (r1) ((ir k a0.w (1:Int) (8:Int)).bind λr2=>cond (r2) ((ir k a0.c (1:Int) (8:Int)).bind λr3=>some r3) (some false)) (some false)
def ku (k:Nat) (a0:Shape):Option (Int):=
 (gu k a0).bind λr1=>cond (!r1) (some (0:Int)) (some (i64.wrap ((i64.wrap (a0.h*a0.w))*a0.c)))
def lI (k:Nat) (a0:Int):Option (Bool):=
 (ir k a0 (-128:Int) (127:Int)).bind λr1=>some r1
def dk {ρ:Type} (k:Nat) (p:Int× Int× Int× List Int) (v:Int) (next:Int->Option ρ) (x0:Unit->Option ρ) (sZ:Bool->Option ρ):Option ρ:=
 cond (decide (v<(p.2.2.2.length:Int))) ((idx p.2.2.2 v).bind λe3=>(lI k e3).bind λr4=>cond (!r4) (sZ false) (next (i64.wrap (v+1)))) (x0 ())
def gI (k:Nat) (a0:aa):Option (Bool):=
 (gu k a0.sh).bind λr1=>cond (!r1) (some false) ((ku k a0.sh).bind λr2=>cond ((a0.data.length:Int) !=r2) (some false) (iter (λu7 n7=>dk k (a0.sh.h,a0.sh.w,a0.sh.c,a0.data) u7 n7 (λy5=>some true) (λy6=>some y6)) k (0:Int)))
def aL (k:Nat) (a0:List Int):Option (List Int):=
 cond (isNil a0) (both (some ([]:List Int)) (cond (Nat.ble (([]:List Int).length+a0.length) dK) (some (([]:List Int)++a0)) none)) (cond (Nat.ble (([]:List Int).length+a0.length) dK) (some (([]:List Int)++a0)) none)
def Ac (k:Nat) (a0:Int) (a1:Int) (a2:Int):Option (Bool):=
 cond (decide (a1<=a0)) (some (decide (a0<=a2))) (some false)
def gv (k:Nat) (a0:Shape):Option (Bool):=
 (Ac k a0.h (1:Int) (8:Int)).bind λr1=>cond (r1) ((Ac k a0.w (1:Int) (8:Int)).bind λr2=>cond (r2) ((Ac k a0.c (1:Int) (8:Int)).bind λr3=>some r3) (some false)) (some false)
def kv (k:Nat) (a0:Shape):Option (Int):=
 (gv k a0).bind λr1=>cond (!r1) (some (0:Int)) (some (i64.wrap ((i64.wrap (a0.h*a0.w))*a0.c)))
def fv (k:Nat) (a0:Int):Option (Bool):=
 (Ac k a0 (-128:Int) (127:Int)).bind λr1=>some (!r1)
def ao {ρ:Type} (k:Nat) (p:List Int× Int) (v:Int) (next:Int->Option ρ) (x0:Unit->Option ρ) (sZ:Int->Option ρ):Option ρ:=
 cond (decide (v<p.2)) ((idx p.1 v).bind λe1=>(fv k e1).bind λr2=>cond (r2) (sZ v) (next (i64.wrap (v+1)))) (x0 ())
def aA (k:Nat) (a0:List Int):Option (Int):=
 iter (λu5 n5=>ao k (a0,(a0.length:Int)) u5 n5 (λy3=>some (-1:Int)) (λy4=>some y4)) k (0:Int)
def av (k:Nat) (a0:List Int):Option (Bool):=
 (aA k a0).bind λr1=>some (decide (r1>=0))
def gJ (k:Nat) (a0:List Int):Option (Bool):=
 (av k a0).bind λr1=>some (!r1)
def eQ (k:Nat) (a0:aa):Option (Bool):=
 (gv k a0.sh).bind λr1=>cond (r1) ((kv k a0.sh).bind λr2=>cond ((a0.data.length:Int)==r2) ((gJ k a0.data).bind λr3=>some r3) (some false)) (some false)
def lJ (k:Nat) (a0:Shape) (a1:Shape):Option (Bool):=
 cond (a0.h !=a1.h) (some false) (cond (a0.w !=a1.w) (some false) (cond (a0.c !=a1.c) (some false) (some true)))
def lK {ρ:Type} (k:Nat) (p:List Int× List Int) (v:Int) (next:Int->Option ρ) (x0:Unit->Option ρ) (sZ:Bool->Option ρ):Option ρ:=
 cond (decide (v<(p.1.length:Int))) ((idx p.1 v).bind λe1=>(idx p.2 v).bind λe2=>cond (e1 !=e2) (sZ false) (next (i64.wrap (v+1)))) (x0 ())
def ky (k:Nat) (a0:List Int) (a1:List Int):Option (Bool):=
 cond ((a0.length:Int) !=(a1.length:Int)) (some false) (iter (λu5 n5=>lK k (a0,a1) u5 n5 (λy3=>some true) (λy4=>some y4)) k (0:Int))
def eR (k:Nat) (a0:aa) (a1:aa):Option (Bool):=
 (lJ k a0.sh a1.sh).bind λr1=>cond (!r1) (some false) ((ky k a0.data a1.data).bind λr2=>cond (!r2) (some false) (some true))
def bz {ρ:Type} (k:Nat) (p:Unit) (v:Int× Int× List Int) (next:(Int× Int× List Int)->Option ρ) (x0:(Int× List Int)->Option ρ):Option ρ:=
 cond (decide (v.2.1<(v.2.2.length:Int))) (cond (decide (0<=v.2.1/\v.2.1<(v.2.2.length:Int))) (next (i64.wrap (v.1+1),i64.wrap (v.2.1+1),v.2.2.set v.2.1.toNat v.1)) none) (x0 (v.1,v.2.2))
def dm (k:Nat) (a0:List Int) (a1:Int):Option (Int× List Int):=
 iter (λu2 n2=>bz k () u2 n2 (λy1=>some (y1.1,y1.2))) k (a1,(0:Int),a0)
def cC (k:Nat) (a0:aa) (a1:Int):Option (Int× List Int):=
 (dm k a0.data a1).bind λr1=>some (r1.1,r1.2)
def cD {ρ:Type} (k:Nat) (p:List Int) (v:Int× Int) (next:(Int× Int)->Option ρ) (x0:Int->Option ρ) (sZ:Int->Option ρ):Option ρ:=
 cond (decide (v.2<(p.length:Int))) ((idx p v.2).bind λe1=>cond (e1 !=v.1) (sZ (-1:Int)) (next (i64.wrap (v.1+1),i64.wrap (v.2+1)))) (x0 v.1)
def gK (k:Nat) (a0:List Int) (a1:Int):Option (Int):=
 iter (λu4 n4=>cD k a0 u4 n4 (λy2=>some y2) (λy3=>some y3)) k (a1,(0:Int))
def j8 (k:Nat) (a0:aa) (a1:Int):Option (Int):=
 (gK k a0.data a1).bind λr1=>cond (decide (r1<0)) (some (-1:Int)) (some r1)
def bZ {ρ:Type} (k:Nat) (p:List aa× List aa) (v:Int) (next:Int->Option ρ) (x0:Unit->Option ρ) (sZ:Bool->Option ρ):Option ρ:=
 cond (decide (v<(p.1.length:Int))) ((idx p.1 v).bind λe1=>(idx p.2 v).bind λe2=>(eR k e1 e2).bind λr3=>cond (!r3) (sZ false) (next (i64.wrap (v+1)))) (x0 ())
def dJ (k:Nat) (a0:List aa) (a1:List aa):Option (Bool):=
 cond ((a0.length:Int) !=(a1.length:Int)) (some false) (iter (λu6 n6=>bZ k (a0,a1) u6 n6 (λy4=>some true) (λy5=>some y5)) k (0:Int))
end
end
set_option maxRecDepth 100000
section
noncomputable section
def aW {ρ:Type} (k:Nat) (p:Unit) (v:Int× Int× List aa) (next:(Int× Int× List aa)->Option ρ) (x0:(Int× List aa)->Option ρ):Option ρ:=
 cond (decide (v.2.1<(v.2.2.length:Int))) (cond (decide (0<=v.2.1/\v.2.1<(v.2.2.length:Int))) ((v.2.2[v.2.1.toNat]?).bind λe1=>cond (decide (0<=v.2.1/\v.2.1<((v.2.2.set v.2.1.toNat (⟨(⟨v.1,e1.sh.w,e1.sh.c⟩:Shape),e1.data⟩:aa)).length:Int))) (((v.2.2.set v.2.1.toNat (⟨(⟨v.1,e1.sh.w,e1.sh.c⟩:Shape),e1.data⟩:aa))[v.2.1.toNat]?).bind λe2=>cond (decide (0<=v.2.1/\v.2.1<(((v.2.2.set v.2.1.toNat (⟨(⟨v.1,e1.sh.w,e1.sh.c⟩:Shape),e1.data⟩:aa)).set v.2.1.toNat (⟨(⟨e2.sh.h,(i64.wrap (v.1+1)),e2.sh.c⟩:Shape),e2.data⟩:aa)).length:Int))) ((((v.2.2.set v.2.1.toNat (⟨(⟨v.1,e1.sh.w,e1.sh.c⟩:Shape),e1.data⟩:aa)).set v.2.1.toNat (⟨(⟨e2.sh.h,(i64.wrap (v.1+1)),e2.sh.c⟩:Shape),e2.data⟩:aa))[v.2.1.toNat]?).bind λe3=>cond (decide (0<=v.2.1/\v.2.1<((((v.2.2.set v.2.1.toNat (⟨(⟨v.1,e1.sh.w,e1.sh.c⟩:Shape),e1.data⟩:aa)).set v.2.1.toNat (⟨(⟨e2.sh.h,(i64.wrap (v.1+1)),e2.sh.c⟩:Shape),e2.data⟩:aa)).set v.2.1.toNat (⟨(⟨e3.sh.h,e3.sh.w,(i64.wrap ((i64.wrap (v.1+1))+1))⟩:Shape),e3.data⟩:aa)).length:Int))) (((((v.2.2.set v.2.1.toNat (⟨(⟨v.1,e1.sh.w,e1.sh.c⟩:Shape),e1.data⟩:aa)).set v.2.1.toNat (⟨(⟨e2.sh.h,(i64.wrap (v.1+1)),e2.sh.c⟩:Shape),e2.data⟩:aa)).set v.2.1.toNat (⟨(⟨e3.sh.h,e3.sh.w,(i64.wrap ((i64.wrap (v.1+1))+1))⟩:Shape),e3.data⟩:aa))[v.2.1.toNat]?).bind λe4=>(dm k e4.data (i64.wrap ((i64.wrap ((i64.wrap (v.1+1))+1))+1))).bind λr5=>next (r5.1,i64.wrap (v.2.1+1),(((v.2.2.set v.2.1.toNat (⟨(⟨v.1,e1.sh.w,e1.sh.c⟩:Shape),e1.data⟩:aa)).set v.2.1.toNat (⟨(⟨e2.sh.h,(i64.wrap (v.1+1)),e2.sh.c⟩:Shape),e2.data⟩:aa)).set v.2.1.toNat (⟨(⟨e3.sh.h,e3.sh.w,(i64.wrap ((i64.wrap (v.1+1))+1))⟩:Shape),e3.data⟩:aa)).set v.2.1.toNat (⟨e4.sh,r5.2⟩:aa))) none) none) none) none) (x0 (v.1,v.2.2))
def dh (k:Nat) (a0:List aa) (a1:Int):Option (Int× List aa):=
 iter (λu7 n7=>aW k () u7 n7 (λy6=>some (y6.1,y6.2))) k (a1,(0:Int),a0)
end
end
set_option maxRecDepth 100000
section
noncomputable section
end
end
set_option maxRecDepth 100000
section
noncomputable section
end
end
set_option maxRecDepth 100000
section
noncomputable section
end
end
set_option maxRecDepth 100000
set_option maxHeartbeats 4000000
section
noncomputable section
def bA {ρ:Type} (k:Nat) (p:List aa) (v:Int× Int) (next:(Int× Int)->Option ρ) (x0:Int->Option ρ) (sZ:Int->Option ρ):Option ρ:=
 cond (decide (v.2<(p.length:Int))) ((idx p v.2).bind λe1=>cond (e1.sh.h !=v.1) (sZ (-1:Int)) ((idx p v.2).bind λe2=>cond (e2.sh.w !=(i64.wrap (v.1+1))) (sZ (-1:Int)) ((idx p v.2).bind λe3=>cond (e3.sh.c !=(i64.wrap ((i64.wrap (v.1+1))+1))) (sZ (-1:Int)) ((idx p v.2).bind λe4=>(gK k e4.data (i64.wrap ((i64.wrap ((i64.wrap (v.1+1))+1))+1))).bind λr5=>cond (decide (r5<0)) (sZ (-1:Int)) (next (r5,i64.wrap (v.2+1))))))) (x0 v.1)
def dn (k:Nat) (a0:List aa) (a1:Int):Option (Int):=
 iter (λu8 n8=>bA k a0 u8 n8 (λy6=>some y6) (λy7=>some y7)) k (a1,(0:Int))
end
end
set_option maxRecDepth 100000
set_option maxHeartbeats 4000000
section
noncomputable section
def bN {ρ:Type} (k:Nat) (p:Int× Int× Int× Int× List Int) (v:Int× List aa) (next:(Int× List aa)->Option ρ) (x0:(List aa)->Option ρ):Option ρ:=
 cond (decide (v.1<p.2.1)) (cond (decide (0<=(i64.wrap ((i64.wrap (v.1*p.1))+p.1))/\(i64.wrap ((i64.wrap (v.1*p.1))+p.1))<=(p.2.2.2.2.length:Int))) (cond (decide (0<=(i64.wrap (v.1*p.1))/\(i64.wrap (v.1*p.1))<=((i64.wrap ((i64.wrap (v.1*p.1))+p.1)).toNat:Int))) ((jc k ((p.2.2.2.2.take ((i64.wrap ((i64.wrap (v.1*p.1))+p.1)).toNat)).drop ((i64.wrap (v.1*p.1)).toNat))).bind λr2=>cond (Nat.ble (v.2.length+1) dK) (next (i64.wrap (v.1+1),v.2++[(⟨(⟨(1:Int),(1:Int),p.1⟩:Shape),r2⟩:aa)])) none) none) none) (x0 v.2)
def ec (k:Nat) (a0:aa):Option (List aa× Bool):=
 (gI k a0).bind λr1=>cond (!r1) (some (([]:List aa),false)) (cond (a0.sh.w !=1) (some (([]:List aa),false)) (iter (λu4 n4=>bN k (a0.sh.c,a0.sh.h,a0.sh.w,a0.sh.c,a0.data) u4 n4 (λy3=>some (y3,true))) k ((0:Int),([]:List aa))))
def rowAt (x:aa) (i:Nat):List Int:=(x.data.drop i).take x.sh.c.toNat
def partAt (x:aa) (i:Nat):aa:=⟨⟨1,1,x.sh.c⟩,rowAt x i⟩
def fw (k:Nat) (x:aa):Bool:=decide (1<=x.sh.c)&&(decide (x.data.length=x.sh.h.toNat*x.sh.c.toNat)&&(decide (1<=x.data.length)&&(decide (x.data.length<=2000000)&&(List.range (x.data.length+1)).all λi=>aL k (rowAt x i)==some (rowAt x i))))
def bO (k:Nat) (x:aa):Option (List aa× Bool):=
 (eQ k x).bind λr=>cond (!r) (some ([],false)) (cond (x.sh.w !=1) (some ([],false)) (cond (fw k x) (some ((List.range x.sh.h.toNat).map (λj=>partAt x (j*x.sh.c.toNat)),true)) none))
def aX (k:Nat) (a0:aa):Option (Bool):=
 (jT k a0 (1048576:Int)).bind λr1=>cond (decide (r1<0)) (some true) ((cR k a0).bind λr2=>(ec k r2).bind λr3=>(cR k a0).bind λr4=>(bO k r4).bind λr5=>(dJ k r5.1 r3.1).bind λr6=>cond (!r6) (some false) (cond (!(r5.2==r3.2)) (some false) ((cR k a0).bind λr7=>(eR k r4 r7).bind λr8=>cond (!r8) (some false) ((cC k r4 (1:Int)).bind λr9=>cond (decide (r9.1<0)) (some false) ((dJ k r5.1 r3.1).bind λr10=>cond (!r10) (some false) (cond (!(r5.2==r3.2)) (some false) ((dh k r5.1 (1:Int)).bind λr11=>(dn k r11.2 (1:Int)).bind λr12=>cond (decide (r12<0)) (some false) (cond (r12 !=r11.1) (some false) ((cR k a0).bind λr13=>(bO k r13).bind λr14=>(dJ k r14.1 r3.1).bind λr15=>cond (!r15) (some false) (cond (!(r14.2==r3.2)) (some false) ((dn k r11.2 (1:Int)).bind λr16=>cond (decide (r16<0)) (some false) (cond (r16 !=r11.1) (some false) (some true)))))))))))))
end
end
set_option maxRecDepth 100000
section
noncomputable section
end
end
set_option maxRecDepth 100000
section
noncomputable section
end
end
set_option maxRecDepth 100000
section
noncomputable section
end
end
set_option maxRecDepth 100000
section
noncomputable section
end
end
set_option maxRecDepth 100000
set_option maxHeartbeats 4000000
section
noncomputable section
end
end
set_option maxRecDepth 100000
set_option maxHeartbeats 4000000
section
noncomputable section
end
end
set_option maxRecDepth 100000
set_option maxHeartbeats 4000000
section
noncomputable section
end
end
set_option maxRecDepth 100000
set_option maxHeartbeats 4000000
section
open Go Go.RowKit Go.Shelf
noncomputable section
variable [Tok]
attribute [local go_sem] Oper.semAt_some
theorem chunk_calls (a:Option Addr) (n cap:Nat) (c:Int) (hc:1<=c) (w:World):Calls Try.prog 41 #[.slice a n cap,.int .i64 c] w λe w'=>
  e=.returned (.func (.func 73) #[] #[.pointer (some ⟨w.heap.size,0,none⟩),.pointer (some ⟨w.heap.size+1,0,none⟩)])/\w'=(w.alloc (.cells #[.slice a n cap] 24)).alloc (.cells #[.int .i64 c] 3):=by
 go_enter Try.func41,Try.ntmps41
 go_wp2
 go_ret
 exact⟨rfl,rfl⟩
def EqC (j k c:Nat):Prop:=j=k*c
def KpC (Bs os Bn on:Nat) (W W':World):Prop:=∀B o v,((B=Bs/\o=os)\/(B=Bn/\o=on))->W.cell? ⟨B,o,none⟩=some v->W'.cell? ⟨B,o,none⟩=some v
theorem chunk1_in (n l Bs os Bn on b off m c cap:Nat) (h1:1<=c) (hL:m*c<=2000000) (hcap:m*c<=cap) (J Jx:List (Fin m)->World->Prop) (hJd:∀pre W,J pre W->J pre W.drew)
    (hY:∀pre x W,J pre W->pre.length<m->YieldAt Fence.wide (n-1) Try.prog l #[.slice (some ⟨b,off+x.val*c,none⟩) c c] W λe W'=>
      (e=.returned (.bool true)/\J (pre++[x]) W'/\KpC Bs os Bn on W W')\/(e=.returned (.bool false)/\Jx (pre++[x]) W'))
    (W:World) (hBs:W.cell? ⟨Bs,os,none⟩=some (.slice (some ⟨b,off,none⟩) (m*c) cap)) (hBn:W.cell? ⟨Bn,on,none⟩=some (.int .i64 c)) (h0:J [] W):
    CallsIn Fence.wide n Try.prog 73 #[.func (.yield l) #[] #[],.pointer (some ⟨Bs,os,none⟩),.pointer (some ⟨Bn,on,none⟩)] W λe W'=>(∃v,e=.returned v)/\
      ((∃ys,ys=List.finRange m/\J ys W')\/(∃pre,(∃k,k<=m/\pre=(List.finRange m).take k)/\Jx pre W')):=by
  obtain⟨L,hLm⟩:∃L,EqC L m c:=⟨_,rfl⟩;rw[<-show L=m*c from hLm]at hL hcap hBs;refine callsIn_of_wp Try.func73 rfl trivial ?_ rfl;simp only[Try.ntmps73,Ep,DP,List.length_nil,Nat.reduceAdd,Nat.reduceSub,Array.replicate_succ,Array.replicate_zero,List.push_toArray,List.append_toArray,List.nil_append,D0]
  gi_wp2
  gi_loopw [4] (λi wr=>∃k j:Nat,k<=m/\EqC j k c/\i=.int .i64 j/\J ((List.finRange m).take k) wr/\KpC Bs os Bn on W wr)
    (λi _=>L-(intOf i).toNat)
  case atStart=>exact⟨0,0,DC _,by simp[EqC],rfl,h0,λB o v _ h=>h⟩
  case round=>
    obtain⟨k,j,hk,hj,rfl,hJs,hnx⟩:=hrel;have hS:=hnx Bs os _ (.inl ⟨rfl,rfl⟩) hBs;have hN:=hnx Bn on _ (.inr ⟨rfl,rfl⟩) hBn;by_cases hlt:k<m
    · have hjc:j+c<=L:=by
        rw[show j=k*c from hj,show L=m*c from hLm,<-DU];exact Dv c hlt
      obtain⟨fn,tmps,assign,body,hy,hR⟩:=hY _ ⟨k,hlt⟩ wr.drew (hJd _ _ hJs) (by simp;omega);simp only at hy;rw[<-show j=k*c from hj]at hy
      have htk:(List.finRange m).take (k+1)=(List.finRange m).take k++[⟨k,hlt⟩]:=by rw[List.take_succ_eq_append_getElem (by simpa using hlt)];simp
      gi_wp2
      gi_region
      gi_wp2
      refine⟨(λq=>nomatch q),hR.mono ?_⟩
      rintro e W3 (⟨rfl,hJ3,hk3⟩|⟨rfl,hJx3⟩)
      · have hS3:=hk3 Bs os _ (.inl ⟨rfl,rfl⟩) hS;have hN3:=hk3 Bn on _ (.inr ⟨rfl,rfl⟩) hN
        gi_wp2
        go_roundw
        case rel=>exact⟨k+1,j+c,by omega,by rw[EqC,DU,<-show j=k*c from hj],by simp,by rw[htk];exact hJ3,λB o v hB h=>hk3 B o v hB (hnx B o v hB h)⟩
        case measure=>simp[intOf];omega
      · gi_wp2
        refine bodyPost_ret (results_none rfl _ _ _) rfl ?_;exact⟨⟨_,rfl⟩,.inr ⟨_,⟨k+1,by omega,htk.symm⟩,hJx3⟩⟩
    · obtain rfl:k=m:=by omega
      have:j=L:=by rw[show j=k*c from hj,show L=k*c from hLm]
      subst this
      gi_wp2
      go_end0
      rw[List.take_of_length_le (by simp)]at hJs;exact⟨⟨_,rfl⟩,.inl ⟨_,rfl,hJs⟩⟩
theorem chunk_stops (n Bs os Bn on b off m c cap:Nat) (h1:1<=c) (hL:m*c<=2000000) (hcap:m*c<=cap) (w:World) (hBs:w.cell? ⟨Bs,os,none⟩=some (.slice (some ⟨b,off,none⟩) (m*c) cap)) (hBn:w.cell? ⟨Bn,on,none⟩=some (.int .i64 c)):
  SeqStopsK Fence.wide n Try.prog 73 #[.pointer (some ⟨Bs,os,none⟩),.pointer (some ⟨Bn,on,none⟩)] (λx:Fin m=>#[.slice (some ⟨b,off+x.val*c,none⟩) c c]) (KpC Bs os Bn on) (λys=>ys=List.finRange m) (λpre=>∃k,k<=m/\pre=(List.finRange m).take k) m w:=
 λl J Jx W hW hJ _ hY h0=>by
  have hlt:∀{B o v},w.cell? ⟨B,o,none⟩=some v->B<w.heap.size:=λ{B o v} h=>by
   obtain⟨ob,ho,_⟩:=cells_of_cell h;exact(Dk.1 ho).1
  refine chunk1_in n l Bs os Bn on b off m c cap h1 hL hcap J Jx (λpre W hp=>hJ pre W W.drew none hp ⟨rfl,rfl,rfl,DA _,λ_ _ _=>rfl⟩ λr e=>nomatch e) hY W ((hW.cell (hlt hBs)).trans hBs) ((hW.cell (hlt hBn)).trans hBn) h0
def chunkOrc:Orc:=λ_ nid vs _ K=>match vs with
 |[.r d (.sl (.int .i64) xs),.r _ (.int .i64 c)]=>cond (decide (1<=c)) (K {v:=.fn (.func 73) [] [.ptr nid 0 0,.ptr (nid+1) 0 0],news:=[.box [.r d (.sl (.int .i64) xs)],.box [.r [] (.int .i64 c)]]}) none
 |_=>none
theorem sp_one_crep {w:World} {H:Heap} {pl:Pl} {x:SV} {u:Value} (h:SVRep w H pl x u) (h1:one u=true):CRep w H pl [x] #[u]:=
 ⟨rfl,λj v hv=>by cases j with|zero=>simp at hv;subst hv;exact h1|succ j=>simp at hv,λj y v hy hv=>by cases j with|zero=>simp at hy hv;subst hy hv;exact h|succ j=>simp at hy⟩
theorem sp_two_us {us:Array Value} {n:Nat} (h:n=us.size) (hn:n=2):∃u v,us=#[u,v]:=by
 subst hn;exact⟨us[0],us[1],by ext i h1 h2<;>grind⟩
theorem chunkOrc_ok:OrcOk Try.prog 41 chunkOrc:=by
 intro ρ nid vs H K out h;unfold chunkOrc at h;split at h
 ·rename_i d xs d' c;cases hc:decide (1<=c)<;>simp only[hc,cond_true,cond_false]at h
  ·cases h
  have hc:=of_decide_eq_true hc;refine⟨_,h,enters_of Try.func41 (by kernel_rfl) (by kernel_rfl),λi B hB=>by simp[look]at hB,?_⟩;intro H1 pl w us he hr hfree hlen hrep H' ha;obtain⟨u,v,rfl⟩:=sp_two_us hlen rfl;have r0:=hrep 0 _ u rfl rfl;have r1:=hrep 1 _ v rfl rfl;have f0:look H1 nid=none:=hfree 0 (by show 0<2;omega);have f1:look H1 (nid+1)=none:=hfree 1 (by show 1<2;omega)
  have o0:one u=true/\∃a n cap,u=.slice a n cap:=by
   cases r0 with
   |r _ _ _ hx=>exact⟨hx.isOne,by cases hx;exact⟨_,_,_,rfl⟩⟩
  obtain⟨o0,a,n,cap,rfl⟩:=o0
  obtain rfl:v=.int .i64 c:=by
   cases r1 with
   |r _ _ _ hx=>cases hx;rfl
  cases ha;obtain⟨pl1,s1,h1⟩:=box_step hr f0 (sp_one_crep r0 o0) 24
  obtain⟨pl2,s2,h2⟩:=box_step s1.hr (n:=nid+1) (by rw[look_append,f1,look_cons];simp[look]) (sp_one_crep (SVRep.r (w:=push w #[.slice a n cap] 24) (H:=H1++[(nid,.box [.r d (.sl (.int .i64) xs)])]) (pl:=pl1) [] (.int .i64 c) (.int .i64 c) (.int _ _)) rfl) 3
  refine(chunk_calls a n cap c hc w).mono ?_
  rintro e w' ⟨rfl,rfl⟩
  have s3:=s1.trans0 s2
  have e1:pl2.hdr nid=.pointer (some ⟨w.heap.size,0,none⟩):=by
   obtain⟨B',_,_,q⟩:=s2.kp.k1 nid (.box [.r d (.sl (.int .i64) xs)]) (by rw[look_append,f0,look_cons];simp) rfl;rw[q,h1]
  have e2:pl2.hdr (nid+1)=.pointer (some ⟨w.heap.size+1,0,none⟩):=by
   rw[h2];simp[push]
  have l0:look (H1++[(nid,Blk.box [.r d (.sl (.int .i64) xs)])]++[(nid+1,.box [.r [] (.int .i64 c)])]) nid=some (.box [.r d (.sl (.int .i64) xs)]):=by
   rw[Ds,look_append,f0];simp[look]
  have l1:look (H1++[(nid,Blk.box [.r d (.sl (.int .i64) xs)])]++[(nid+1,.box [.r [] (.int .i64 c)])]) (nid+1)=some (.box [.r [] (.int .i64 c)]):=by
   rw[Ds,look_append,f1];show look [(nid,_),(nid+1,_)] (nid+1)=_;rw[look_cons,if_neg (by omega),look_cons,if_pos rfl]
  have eH:upds [] H1++newsH nid [.box [.r d (.sl (.int .i64) xs)],.box [.r [] (.int .i64 c)]]=H1++[(nid,Blk.box [.r d (.sl (.int .i64) xs)])]++[(nid+1,.box [.r [] (.int .i64 c)])]:=by simp[upds,newsH]
  rw[eH];refine⟨_,pl2,rfl,s3,?_⟩
  refine .fn _ [] [.ptr nid 0 0,.ptr (nid+1) 0 0] #[] #[_,_] rfl (λj x v hx _=>by simp at hx) rfl λj x v hx hv=>?_
  match j with
  |0=>simp at hx hv;subst hx hv;exact .ptrB nid 0 _ _ 0 l0 e1
  |1=>simp at hx hv;subst hx hv;exact .ptrB (nid+1) 0 _ _ 0 l1 e2
  |j+2=>simp at hx
 ·exact nomatch h
def o_Chunk:O Try.prog 41:=⟨chunkOrc,chunkOrc_ok⟩
end
end
section
theorem rE (k:Nat) (xs:List Int) (n:Int) (hn:0<=n/\n<=1048576) (hx:xs.length<=oz):ja k xs n=some (if n<xs.length then -1 else n-xs.length):=by
 unfold oz at hx;unfold ja;rw[l7 (by omega) (by omega),az];by_cases h:n<xs.length
 ·rw[if_pos (by omega),if_pos h]
 ·rw[if_neg (by omega),if_neg h]
theorem rF {k:Nat} {xs:List Int} (hk:xs.length<k) (hx:xs.length<=dK):jb k xs=some xs:=by
 rw[dI]at hx;unfold jb;rw[az,if_pos (by rw[dI];omega)]
 exact wG xs 0 (fin:=some) (λi ys hi next hl=>by
  simp only[fu,az];rw[if_pos (by omega),ey,eb hi,Dn,if_pos (by omega),ft hi (by omega)]
  simp) (λys next=>by simp only[fu,az];rw[if_neg (by omega)]) hk
theorem Ad (a b:Nat):((a:Int) !=(b:Int))=decide (a≠b):=by
 rw[z9];congr 1;rw[eq_iff_iff];omega
theorem wL {R:Type} {xs ys:List Int} {i:Nat} (hi:i<xs.length) (hi':i<ys.length) (hx:xs.length<=oz) (next:Int->Option R) (no yes:Option R):
  (cond (decide ((i:Int)<(xs.length:Int))) ((idx xs i).bind λe1=>(idx ys i).bind λe2=>cond (e1 !=e2) no (next (i64.wrap ((i:Int)+(1:Int))))) yes)=if xs[i]=ys[i]then next ((i+1:Nat):Int)else no:=by
 unfold oz at hx;rw[az,if_pos (by omega),ey,ey,eb hi,eb hi',Dn,Dn,ft hi (by omega)];rw[dj]
theorem Ae {R:Type} {xs:List Int} (a:Option R) (yes:Option R):(cond (decide ((xs.length:Int)<(xs.length:Int))) a yes)=yes:=by
 rw[az,if_neg (by omega)]
theorem Af {xs ys:List Int} {r:Option Bool} (h:xs.length=ys.length->r=if xs=ys then some true else some false):(cond ((xs.length:Int) !=(ys.length:Int)) (some false) r)=some (decide (xs=ys)):=by
 rw[Ad,az];by_cases c:xs.length=ys.length
 ·rw[if_neg (by simp[c]),h c];split<;>simp[*]
 ·rw[if_pos c,decide_eq_false (λe=>c (by rw[e]))]
theorem rG {k:Nat} {xs ys:List Int} (hk:xs.length<k) (hx:xs.length<=oz):ky k xs ys=some (decide (xs=ys)):=
 Af λc=>pY xs ys c (λi hi hi' next=>wL hi hi' hx next _ _) (λnext=>Ae _ _) hk
end
section
def marked (m:Int) (n:Nat):List Int:=(List.range n).map λ(i:Nat)=>m+(i:Int)
@[simp] theorem yC (m:Int) (n:Nat):(marked m n).length=n:=by simp[marked]
def inB (x a b:Int):Bool:=decide (a<=x/\x<=b)
theorem mY (k:Nat) (x a b:Int):ir k x a b=some (inB x a b):=by
 unfold ir inB;rw[az];by_cases h:a<=x<;>simp[h]
theorem wM (k:Nat) (x a b:Int):Ac k x a b=some (inB x a b):=by
 unfold Ac inB;rw[az];by_cases h:a<=x<;>simp[h]
def Shape.okB (s:Shape):Bool:=inB s.h 1 8&&(inB s.w 1 8&&inB s.c 1 8)
theorem j9 (k:Nat) (s:Shape):gu k s=some s.okB:=by
 unfold gu Shape.okB;simp only[mY,al];cases inB s.h 1 8<;>cases inB s.w 1 8<;>rfl
theorem ka (k:Nat) (s:Shape):gv k s=some s.okB:=by
 unfold gv Shape.okB;simp only[wM,al];cases inB s.h 1 8<;>cases inB s.w 1 8<;>rfl
theorem Shape.s4 {s:Shape} (h:s.okB=true):1<=s.h/\s.h<=8/\1<=s.w/\s.w<=8/\1<=s.c/\s.c<=8:=by
 simp only[Shape.okB,inB,De,decide_eq_true_eq]at h;omega
def Shape.size (s:Shape):Int:=cond s.okB (s.h*s.w*s.c) 0
theorem p4 {s:Shape} (h:s.okB=true):i64.wrap (i64.wrap (s.h*s.w)*s.c)=s.h*s.w*s.c:=by
 obtain⟨h1,h2,h3,h4,h5,h6⟩:=Shape.s4 h;have a:=zb (show 0<=s.h by omega) h2 (show 0<=s.w by omega) h4;have b:=zb a.1 a.2 (show 0<=s.c by omega) h6;rw[l7 (n:=s.h*s.w) (by omega) (by omega),l7 (by omega) (by omega)]
theorem rH (k:Nat) (s:Shape):ku k s=some s.size:=by
 unfold ku Shape.size;simp only[j9,al,cond_not];cases h:s.okB
 ·rfl
 ·simp only[cond_true,p4 h]
theorem rI (k:Nat) (s:Shape):kv k s=some s.size:=by
 unfold kv Shape.size;simp only[ka,al,cond_not];cases h:s.okB
 ·rfl
 ·simp only[cond_true,p4 h]
def p5 (xs:List Int):Bool:=xs.all λx=>inB x (-128) 127
def aa.okB (t:aa):Bool:=t.sh.okB&&(decide ((t.data.length:Int)=t.sh.size)&&p5 t.data)
theorem oh {k:Nat} {t:aa} (hk:t.data.length<k) (hx:t.data.length<=oz):gI k t=some t.okB:=by
 unfold oz at hx;unfold gI aa.okB;simp only[j9,rH,al,cond_not,dj];cases t.sh.okB
 ·rfl
 simp only[cond_true,Eh];by_cases h:(t.data.length:Int)=t.sh.size
 ·rw[if_pos h,decide_eq_true h,Eh]
  rw[xY t.data (λx=>inB x (-128) 127) (λi hi next=>by
   simp only[dk,az,lI,mY,al,cond_not]
   rw[if_pos (by omega),ey,eb hi,al,ft hi (by omega)]) (λnext=>by
   simp only[dk,az];rw[if_neg (by omega)]) hk]
  show _=some (t.data.all _);cases t.data.all λx=>inB x (-128) 127<;>rfl
 ·rw[if_neg h,decide_eq_false h];rfl
theorem p6 {α:Type} {p:α->Bool} (xs:List α):((xs.findIdx? p).elim (some (-1:Int)) λi=>some (i:Int))=some ((xs.findIdx? p).elim (-1) λi=>(i:Int)):=by
 cases xs.findIdx? p<;>rfl
theorem uh {α:Type} {p:α->Bool} (xs:List α):decide (((xs.findIdx? p).elim (-1:Int) λi=>(i:Int))>=0)=xs.any p:=by
 cases h:xs.findIdx? p with
 |none=>
  rw[List.findIdx?_eq_none_iff]at h
  have:xs.any p=false:=by simpa using h
  rw[this];rfl
 |some i=>
  have:xs.any p=true:=by
   have:=List.findIdx?_eq_some_iff_getElem.1 h;obtain⟨hi,hp,_⟩:=this;exact List.any_eq_true.2 ⟨_,List.getElem_mem hi,hp⟩
  rw[this];simp
theorem om {k:Nat} {xs:List Int} (hk:xs.length<k) (hx:xs.length<=oz):gJ k xs=some (p5 xs):=by
 unfold oz at hx;unfold gJ av aA
 rw[wH xs (λx=>!inB x (-128) 127) (λi hi next=>by
  simp only[ao,az,fv,wM,al]
  rw[if_pos (by omega),ey,eb hi,al,ft hi (by omega)]) (λnext=>by
  simp only[ao,az];rw[if_neg (by omega)]) hk]
 rw[p6];simp only[al,uh];unfold p5;rw[List.any_eq_not_all_not];simp
theorem oo {k:Nat} {t:aa} (hk:t.data.length<k) (hx:t.data.length<=oz):eQ k t=some t.okB:=by
 unfold eQ aa.okB;simp only[ka,rI,al,xW,om hk hx];cases t.sh.okB
 ·rfl
 simp only[cond_true,Eh];by_cases h:(t.data.length:Int)=t.sh.size
 ·rw[if_pos h,decide_eq_true h,Eh]
 ·rw[if_neg h,decide_eq_false h];rfl
theorem wN {a b:Nat} {α:Type} {x y:α} (h:a<=b):cond (Nat.ble a b) x y=x:=by rw[DT h];rfl
theorem p7 {k:Nat} {xs:List Int} (hk:xs.length<k) (hx:xs.length<=dK):jc k xs=some xs:=by
 rw[dI]at hx;unfold jc
 have:=xZ xs (λx=>x) (g:=λu next=>db k xs u next (λy=>some y)) (fin:=some) (λi ys hi next hl=>by
  simp only[db,az]
  rw[if_pos (by omega),ey,eb hi,al,wN (by rw[dI,hl];simp;omega),ft hi (by omega)]) (λys next=>by
  simp only[db,az];rw[if_neg (by omega)]) hk
 simpa using this
theorem wO {ρ:Type} (x:Option ρ):both x x=x:=by unfold both;simp
theorem eS {k:Nat} {xs:List Int} (hx:xs.length<=dK):aL k xs=some xs:=by
 unfold aL;rw[wN (by simpa using hx)]
 cases xs with
 |nil=>simp only[isNil,cond_true,Dx];exact wO _
 |cons x l=>rfl
end
section
def aa.tot (x:aa):Nat:=x.data.length+(0)
def dx.tot (x:dx):Nat:=x.weights.length+(x.Ai.length+(0))
def Model.tot (x:Model):Nat:=iq dx.tot x.fx+(0)
def Job.tot (x:Job):Nat:=x.model.tot+(x.act.tot+(0))
def Task.tot (x:Task):Nat:=x.gV.length+(0)
def qd.tot (x:qd):Nat:=iq Task.tot x.tasks+(0)
def Request.tot (x:Request):Nat:=x.job.tot+(0)
def Runtime.tot (x:Runtime):Nat:=x.sched.tot+(iq Model.tot x.oA+(x.rN.length+(iq Request.tot x.iv+(0))))
def Step.tot (x:Step):Nat:=x.data.length+(x.input.tot+(0))
def Event.tot (x:Event):Nat:=x.out.tot+(0)
def Entry.tot (x:Entry):Nat:=x.model.tot+(x.input.tot+(0))
theorem ui {k:Nat} {xs:List Int} {n:Int} (hx:xs.length<=oz) (h1:0<=n) (h2:n<=1048576):Sz (ja k xs n) n xs.length:=rE k xs n ⟨h1,h2⟩ hx
theorem uj {k:Nat} {xs:List Int} (hk:xs.length<k) (hN:xs.length<=dK):jb k xs=some xs:=rF hk hN
theorem uk {k:Nat} {xs ys:List Int} (hk:xs.length<k) (hN:xs.length<=dK):ky k xs ys=some (decide (xs=ys)):=rG hk (by unfold oz;rw[dI]at hN;omega)
theorem gw {k:Nat} {xs:List Int} {m:Int} (hk:xs.length<k) (hN:xs.length<=dK) (h0:0<=m) (hB:m+16*xs.length<=qc):
    ∃r ys,dm k xs m=some (r,ys)/\m<=r/\r<=m+16*xs.length/\ys.length=xs.length/\gK k ys m=some r:=by
  have ht:iq (λ_=>0) xs=xs.length:=wJ xs;rw[dI]at hN;unfold qc at hB
  obtain⟨r,out,a1,a2,a3,a4,a5⟩:=lG (t:=λ_:Int=>0) (N:=xs.length) (g:=λu next=>bz k () u next (λy=>some (y.1,y.2))) (fin:=λy=>some (y.1,y.2)) (hd:=λys u next=>cD k ys u next (λy=>some y) (λy=>some y))
    (λm ys next hl=>by simp only[bz,az];rw[if_neg (by omega)]) (λys m next hl=>by simp only[cD,az];rw[if_neg (by omega)]) xs [] m k (by simp) hk h0 (by rw[ht];unfold qc;omega)
    (λx hm m h0 hB=>by
      unfold qc at hB;refine⟨m+1,m,by omega,by omega,λi ys next hl hi hx=>?_,λi ys next hl hi hy=>?_⟩
      · simp(disch:=omega)only[bz,az,if_pos,D8,l7]
      · simp(disch:=omega)only[cD,az,if_pos,ey,hy,al,dj,l7,if_true])
  rw[ht]at a4;exact⟨r,out,a2,a3,a4,a1,a5 k hk⟩
theorem rJ {k:Nat} {x:Shape}:lH k x=some x:=rfl
theorem rK {k:Nat} {x y:Shape}:lJ k x y=some (decide (x=y)):=by
 refine(Cf (Cf (Cf (zc)))).trans ?_
 congr 1
 rw[decide_eq_decide];cases x;cases y;simp only[Shape.mk.injEq,and_true]
theorem p8 {k:Nat} {x:aa} {n:Int} (hx:x.Ok) (hk:x.tot<k) (h1:0<=n) (h2:n<=1048576):Sz (jT k x n) n x.tot:=by
 unfold aa.tot at hk;exact Bg h1 (ui hx.2.1 h1 h2) λc0=>Bh (by omega)
theorem p9 {k:Nat} {x:aa} (hk:x.tot<k) (hN:x.tot<=dK):cR k x=some x:=by
 unfold aa.tot at hk hN;have e0:=rJ (k:=k) (x:=x.sh);have e1:=uj (k:=k) (xs:=x.data) (by omega) (by omega);unfold cR;simp only[e0,e1,al]
theorem kb {k:Nat} {x y:aa} (hk:x.tot<k) (hN:x.tot<=dK):eR k x y=some (decide (x=y)):=by
 unfold aa.tot at hk hN;refine(Cx rK (Cx (uk (by omega) (by omega)) (zc))).trans ?_
 congr 1
 rw[decide_eq_decide];cases x;cases y;simp only[aa.mk.injEq,and_true]
theorem jU {k:Nat} {x:aa} {m:Int} (hk:x.tot<k) (hN:x.tot<=dK) (h0:0<=m) (hB:m+16*x.tot<=qc):
  ∃r y0,cC k x m=some (r,y0)/\m<=r/\r<=m+16*x.tot/\j8 k (⟨x.sh,y0⟩:aa) m=some r:=by
 unfold aa.tot at hk hN hB⊢;unfold qc at hB;obtain⟨r0,y0,e0,a0,b0,l0,h0⟩:=gw (k:=k) (xs:=x.data) (m:=m) (by omega) (by omega) (by omega) (by unfold qc;omega);refine⟨r0,y0,?_,by omega,by omega,?_⟩
 ·simp only[cC,e0,al]
 ·simp(disch:=omega)only[j8,h0,al,az,if_neg]
theorem oq {k:Nat} {xs ys:List aa} (hk:iq aa.tot xs<k) (hN:iq aa.tot xs<=dK):dJ k xs ys=some (decide (xs=ys)):=by
 have hl:xs.length<=iq aa.tot xs:=sY _ _;have h2:=dI
 exact Aa (f:=λx y=>eR k x y) (g:=λu next=>bZ k (xs,ys) u next (λy=>some true) (λy=>some y)) (by omega) (λx hm y=>kb (by have:=oe aa.tot hm;omega) (by have:=oe aa.tot hm;omega))
  (λi hi hi' next=>by simp only[bZ];rw[az,if_pos (by omega),ey,ey,eb hi,eb hi',al,al]) (λnext=>by simp only[bZ];rw[az,if_neg (by omega)]) (by omega)
end
section
end
section
def takes (x:Step):Int:=cond (inB x.kind 4 5&&inB x.a 0 200) x.a 0
end
section
def Cy (l:dx):Bool:=inB l.out 1 8&&(inB l.mult 0 2147483647&&(inB l.shift 0 31&&(inB l.zero (-128) 127&&(decide ((l.Ai.length:Int)=l.out)&&(l.Ai.all (λx=>inB x (-1000000) 1000000)&&p5 l.weights)))))
def Ag (l:dx):Bool:=decide (l.out=0)&&(decide (l.mult=0)&&(decide (l.shift=0)&&(decide ((l.weights.length:Int)=0)&&decide ((l.Ai.length:Int)=0))))
def Ah (l:dx):Bool:=decide (l.size=0)&&decide (l.step=0)
def Cz (s:Shape) (l:dx):Bool:=inB l.size 1 3&&(inB l.step 1 2&&(decide (l.size<=s.h)&&decide (l.size<=s.w)))
def zd (s:Shape) (l:dx):Bool:=s.okB&&
 (cond (decide (l.kind=0)) (Ah l&&(Cy l&&(decide (s.size<=64)&&decide ((l.weights.length:Int)=l.out*s.size))))
 (cond (decide (l.kind=1)) (Cz s l&&(Cy l&&(decide ((l.weights.length:Int)=l.out*l.size*l.size*s.c)&&decide ((l.weights.length:Int)<=600))))
 (cond (decide (l.kind=2)||decide (l.kind=3)) (Cz s l&&(Ag l&&decide (l.zero=0)))
 (cond (decide (l.kind=4)) (Ah l&&(Ag l&&inB l.zero (-128) 127))
 (cond (decide (l.kind=5)) (Ah l&&(Ag l&&(decide (l.zero=0)&&decide (s.size<=8)))) false)))))
def s5 (s:Shape) (l:dx) (c:Int):Shape:=
 ⟨i64.wrap ((i64.wrap ((i64.wrap (s.h-l.size)).tdiv l.step))+1),i64.wrap ((i64.wrap ((i64.wrap (s.w-l.size)).tdiv l.step))+1),c⟩
def shapeOf (s:Shape) (l:dx):Shape:=
 cond (decide (l.kind=0)) ⟨1,1,l.out⟩ (cond (decide (l.kind=1)) (s5 s l l.out) (cond (decide (l.kind=4)) s (cond (decide (l.kind=5)) ⟨1,1,s.size⟩ (s5 s l s.c))))
def rL:Shape:=⟨0,0,0⟩
def s6 (s:Shape) (l:dx):Shape× Bool:=cond (zd s l) (shapeOf s l,true) (rL,false)
theorem yD {x a b:Int}:inB x a b=true↔a<=x/\x<=b:=by unfold inB;simp
def mZ:Shape->List dx->Option (List Shape)
 |_,[]=>some []
 |s,l::ls=>cond (zd s l) ((mZ (shapeOf s l) ls).map (shapeOf s l::·)) none
def lL (m:Model):List Shape× Bool:=cond (m.inp.okB&&inB (m.fx.length:Int) 1 6) ((mZ m.inp m.fx).elim ([],false) λt=>(m.inp::t,true)) ([],false)
def wP (m:Model):Bool:=(lL m).2
def s7 (m:Model):List Shape:=cond (wP m) (lL m).1 []
def Bi (s t:Shape) (l:dx):Int:=
  cond (decide (l.kind=0)) (i64.wrap (1+(i64.wrap ((i64.wrap (t.size*s.size)).tdiv 16))))
  (cond (decide (l.kind=1)) (i64.wrap (1+(i64.wrap ((i64.wrap ((i64.wrap ((i64.wrap (t.size*l.size))*l.size))*s.c)).tdiv 16))))
  (cond (decide (l.kind=2)) (i64.wrap (1+(i64.wrap ((i64.wrap ((i64.wrap (t.size*l.size))*l.size)).tdiv 16))))
  (cond (decide (l.kind=3)) (i64.wrap (1+(i64.wrap ((i64.wrap ((i64.wrap (t.size*l.size))*l.size)).tdiv 16))))
   (i64.wrap (1+(i64.wrap (s.size.tdiv 16)))))))
def Bj (s:Shape) (l:dx):Int:=cond (s6 s l).2 (Bi s (s6 s l).1 l) 0
def wQ (m:Model):List Int:=cond (wP m) ((List.range m.fx.length).map λi=>Bj ((s7 m).getD i rL) (m.fx.getD i ⟨0,0,0,0,0,0,0,[],[]⟩)) []
end
section
end
section
end
section
end
section
def C6 (xs:List Int):Int:=xs.foldl (λs x=>i64.wrap (s+x)) 0
def C7 (j:Job):Bool:=wP j.model&&(inB j.at_ 0 j.model.fx.length&&(j.act.okB&&(decide (j.act.sh=(s7 j.model).getD j.at_.toNat rL)&&decide (j.uD=C6 ((wQ j.model).take j.at_.toNat)))))
end
section
end
section
structure uo (H W C:Nat) (xs:List Int):Prop where
 h1:1<=H
 h8:H<=8
 w1:1<=W
 w8:W<=8
 c1:1<=C
 c8:C<=8
 len:xs.length=H*W*C
 mem:∀x∈xs,-128<=x/\x<=127
def CA (H W C:Nat) (xs:List Int):aa:=⟨⟨H,W,C⟩,xs⟩
theorem uo.sh {H W C:Nat} {xs:List Int} (r:uo H W C xs):(⟨H,W,C⟩:Shape).okB=true:=by
 obtain⟨a,b,c,d,e,f,_,_⟩:=r;simp only[Shape.okB,inB,De,decide_eq_true_eq];omega
theorem uo.size {H W C:Nat} {xs:List Int} (r:uo H W C xs):(⟨H,W,C⟩:Shape).size=((H*W*C:Nat):Int):=by
 unfold Shape.size;rw[r.sh,cond_true,Int.natCast_mul,Int.natCast_mul]
theorem uo.ok {H W C:Nat} {xs:List Int} (r:uo H W C xs):(CA H W C xs).okB=true:=by
 unfold aa.okB CA;simp only[r.sh,r.size,r.len,decide_true,Eh];unfold p5;rw[Eu];intro x hx;have:=r.mem x hx;rw[yD];omega
end
section
end
section
end
section
end
section
end
section
end
section
theorem jd {k:Nat} {xs:List aa} {m:Int} (hk:iq aa.tot xs<k) (hN:iq aa.tot xs<=dK) (h0:0<=m) (hB:m+16*iq aa.tot xs<=qc):
    ∃r ys,dh k xs m=some (r,ys)/\m<=r/\r<=m+16*iq aa.tot xs/\ys.length=xs.length/\dn k ys m=some r:=by
  have ht:iq aa.tot xs=iq aa.tot xs:=rfl;have hN2:=dI;have hlen:=sY aa.tot xs;unfold qc at hB
  obtain⟨r,out,a1,a2,a3,a4,a5⟩:=lG (t:=aa.tot) (N:=xs.length) (g:=λu next=>aW k () u next (λy=>some (y.1,y.2))) (fin:=λy=>some (y.1,y.2)) (hd:=λys u next=>bA k ys u next (λy=>some y) (λy=>some y))
    (λm ys next hl=>by simp only[aW,az];rw[if_neg (by omega)]) (λys m next hl=>by simp only[bA,az];rw[if_neg (by omega)]) xs [] m k (by simp) (by omega) h0 (by unfold qc;omega)
    (λx hm m h0 hB=>by
      have hmt:=oe aa.tot hm;rw[ht]at hmt;unfold qc at hB
      have hxk:x.tot<k:=by omega
      have hxN:x.tot<=dK:=by omega
      clear hmt hm;unfold aa.tot at hxk hxN hB⊢;obtain⟨r0,y0,e0,a0,b0,l0,h0⟩:=gw (k:=k) (xs:=x.data) (m:=m+1+1+1) (by omega) (by omega) (by omega) (by unfold qc;omega);refine⟨r0,(⟨⟨m,m+1,m+1+1⟩,y0⟩:aa),by omega,by omega,λi ys next hl hi hx=>?_,λi ys next hl hi hy=>?_⟩
      · simp(disch:=first|omega|(simp only[Eb];omega))only[aW,az,if_pos,D8,l7,Eb,Ek,List.set_set,hx,al,e0]
      · simp(disch:=omega)only[bA,az,if_pos,if_neg,ey,hy,al,dj,l7,if_true,h0])
  rw[ht]at a4;exact⟨r,out,a2,a3,a4,a1,a5 k (by omega)⟩
end
section
end
section
end
section
end
section
section
variable {R:Type} {k:Nat} {b:List Int} {m:Int} {q1 q2 q3 q4 q5 q6 q7 q8 q9 q10 q11 q12:Int} {d:List Int} {fin:Int× Bool× List Int->Option R}
end
end
section
section
variable {R:Type} {k:Nat} {b:List Int} {m:Int} {q1 q2 q3 q4 q5 q6 q7 q8 q9 q10 q11 q12:Int} {d:List Int} {fin:Int× Bool× List Int->Option R}
end
end
section
section
variable {R:Type} {k:Nat} {b:List Int} {m:Int}
end
end
set_option maxRecDepth 100000
set_option maxHeartbeats 4000000
section
section
variable {k:Nat} {b:List Int} (hk:7<=k) (hb:∀x∈b,okB x) (hl:b.length<=dK)
include hk hb hl
omit hk hb hl in
omit hk hb hl in
omit hk hb hl in
end
section
variable {k:Nat} {b:List Int} (hk:9000000<=k) (hb:∀x∈b,okB x) (hl:b.length<=dK)
include hk hb hl
end
section
variable {k:Nat} {b:List Int} (hk:9000000<=k) (hb:∀x∈b,okB x) (hl:b.length<=dK)
include hk hb hl
end
end
section
end
section
def yE (t:Task):Bool:=inB t.id 1 1000000&&(inB (t.gV.length:Int) 1 6&&(inB t.at_ 0 ((t.gV.length:Int)-1)&&(inB t.due 0 1000000&&(inB t.born 0 1000000&&t.gV.all λx=>inB x 1 1000))))
theorem uq {t:Task} (h:yE t=true):(1<=t.id/\t.id<=1000000)/\(1<=t.gV.length/\t.gV.length<=6)/\(0<=t.at_/\t.at_<t.gV.length)/\(0<=t.due/\t.due<=1000000)/\(0<=t.born/\t.born<=1000000)/\∀x∈t.gV,1<=x/\x<=1000:=by
 unfold yE inB at h;simp only[De,decide_eq_true_eq,Eu]at h;obtain⟨h1,h2,h3,h4,h5,h6⟩:=h;exact⟨h1,by omega,by omega,h4,h5,h6⟩
end
section
def Bl (t:Task):Int:=(idx t.gV t.at_).getD 0
def block (s:qd) (d:Int):Int:=(s.tasks.findIdx? λt=>t.id==s.run).elim 0 λi=>(s.tasks[i]?).elim 0 λt=>cond (decide (t.due>d)) s.left 0
end
section
def CB (ts:List Task) (id:Int):List Task:=ts.filter λt=>!(t.id==id)
end
section
end
section
end
section
def ez {α:Type} (o:Option α) (Q:α->Prop):Prop:=∃r,o=some r/\Q r
theorem ez.bind {α β:Type} {o:Option α} {P:α->Prop} {f:α->Option β} {Q:β->Prop} (h:ez o P) (hf:∀a,P a->ez (f a) Q):ez (o.bind f) Q:=by
 obtain⟨r,e,hp⟩:=h;rw[e];exact hf r hp
theorem ez.some {α:Type} {a:α} {Q:α->Prop} (h:Q a):ez (some a) Q:=⟨a,rfl,h⟩
theorem ez.cond {α:Type} {b:Bool} {x y:Option α} {Q:α->Prop} (h1:b=true->ez x Q) (h2:b=false->ez y Q):ez (cond b x y) Q:=by
 cases b
 ·exact h2 rfl
 ·exact h1 rfl
theorem ez.mono {α:Type} {o:Option α} {P Q:α->Prop} (h:ez o P) (hq:∀a,P a->Q a):ez o Q:=by
 obtain⟨r,e,hp⟩:=h;exact⟨r,e,hq r hp⟩
theorem ez.iter {V R:Type} {g:V->(V->Option R)->Option R} {Inv:V->Prop} {m:V->Nat} {Q:R->Prop}
  (h:∀(v:V) (next:V->Option R),Inv v->(∀u,Inv u->m u<m v->ez (next u) Q)->ez (g v next) Q):∀(k:Nat) (v:V),Inv v->m v<k->ez (iter g k v) Q
 |0,v,_,hk=>by omega
 |k+1,v,hv,hk=>by
  rw[eP];exact h v _ hv λu hu hm=>ez.iter h k u hu (by omega)
end
section
theorem ez.ble {α:Type} {a b:Nat} {x y:Option α} {Q:α->Prop} (h:a<=b) (hx:ez x Q):ez (bif (Nat.ble a b)then x else y) Q:=by
 rw[DT h];exact hx
end
set_option maxRecDepth 100000
section
end
set_option maxRecDepth 100000
section
end
section
structure SOk (s:qd):Prop where
 now:0<=s.now/\s.now<=1000000
 wZ:0<=s.wZ/\s.wZ<=1000
 age:0<=s.age/\s.age<=20
 len:s.tasks.length<=12
 turns:0<=s.turns/\s.turns<=1000000
 next:1<=s.next/\s.next<=1000000
 task:∀t∈s.tasks,yE t=true/\t.id<s.next/\t.born<=s.now
 ids:s.tasks.Pairwise λa b=>a.id<b.id
 run:(s.run=0/\s.left=0)\/∃t∈s.tasks,t.id=s.run/\1<=s.left/\s.left<=Bl t
end
set_option maxRecDepth 100000
section
end
set_option maxRecDepth 100000
set_option maxHeartbeats 4000000
section
section
variable {k:Nat} {r:Runtime} {x:Step} (hk:9000000<=k) (hb:∀y∈x.data,okB y) (hl:x.data.length<=dK) (hlo:r.rN.length=4) (hmo:r.oA.length=4)
include hk hb hl hlo hmo
end
end
set_option maxRecDepth 100000
set_option maxHeartbeats 4000000
section
def CC (rs:List Request) (id:Int):List Request:=rs.filter λq=>!(q.id==id)
section
variable {k:Nat} {rs:List Request} {id:Int} (hk:rs.length<k) (hN:rs.length<=dK)
include hk hN
end
section
variable {k:Nat} {r:Runtime} {id:Int} (hk:r.sched.tot+r.iv.length<k) (hN:r.sched.tot+r.iv.length<=dK)
include hk hN
omit hk hN in
end
end
set_option maxRecDepth 100000
set_option maxHeartbeats 4000000
section
structure BG (q:Request) (t:Task):Prop where
 id:q.id=t.id
 job:C7 q.job=true
 at_:q.job.at_=t.at_
 gV:wQ q.job.model=t.gV
 tot:q.job.model.tot<=8002000
inductive Lk:List Request->List Task->Prop
 |nil:Lk [] []
 |cons {q:Request} {t:Task} {qs:List Request} {ts:List Task}:BG q t->Lk qs ts->Lk (q::qs) (t::ts)
theorem Lk.len:∀{qs:List Request} {ts:List Task},Lk qs ts->qs.length=ts.length
 |_,_,.nil=>rfl
 |_,_,.cons _ h=>by simp[h.len]
theorem Lk.off {id:Int}:∀{qs:List Request} {ts:List Task},Lk qs ts->Lk (CC qs id) (CB ts id)
 |_,_,.nil=>.nil
 |_,_,.cons (q:=q) (t:=t) (qs:=qs) (ts:=ts) h g=>by
  have e:(q.id==id)=(t.id==id):=by rw[h.id]
  have:=g.off (id:=id);unfold CC CB at this⊢;rw[List.filter_cons,List.filter_cons,e];cases(t.id==id)
  ·exact .cons h this
  ·exact this
theorem Lk.app {q:Request} {t:Task} (l:BG q t):∀{qs:List Request} {ts:List Task},Lk qs ts->Lk (qs++[q]) (ts++[t])
 |_,_,.nil=>.cons l .nil
 |_,_,.cons h g=>.cons h (g.app l)
theorem Lk.get:∀{qs:List Request} {ts:List Task},Lk qs ts->∀{i:Nat} (h1:i<qs.length) (h2:i<ts.length),BG qs[i] ts[i]
 |_,_,.nil,_,h,_=>absurd h (by simp)
 |_,_,.cons h _,0,_,_=>h
 |_,_,.cons _ g,i+1,h1,h2=>g.get (by simpa using h1) (by simpa using h2)
theorem Lk.set {q:Request} {t:Task} (l:BG q t):∀{qs:List Request} {ts:List Task},Lk qs ts->∀(i:Nat),Lk (qs.set i q) (ts.set i t)
 |_,_,.nil,_=>.nil
 |_,_,.cons _ g,0=>.cons l g
 |_,_,.cons h g,i+1=>.cons h (g.set l i)
theorem Lk.ids {qs:List Request} {ts:List Task} (h:Lk qs ts):∀q∈qs,∃t∈ts,q.id=t.id:=by
 induction h with
 |nil=>exactλq hq=>nomatch hq
 |cons l _ ih=>
  intro q hq
  rcases Dt.1 hq with rfl|hq
  ·exact⟨_,DF,l.id⟩
  ·obtain⟨t,h1,h2⟩:=ih q hq;exact⟨t,DJ _ h1,h2⟩
structure Ch (r:Runtime):Prop where
 s:SOk r.sched
 ml:r.oA.length=4
 ll:r.rN.length=4
 mod:∀m∈r.oA,m.tot<=8002000
 req:Lk r.iv r.sched.tasks
theorem yF {t:Task} (h:yE t=true):t.tot<=6:=by
 have:=(uq h).2.1.2;unfold Task.tot;omega
theorem rM {α:Type} {t:α->Nat} {B:Nat}:∀{xs:List α},(∀x∈xs,t x<=B)->iq t xs<=xs.length*(B+1)
 |[],_=>by simp[iq]
 |x::xs,h=>by
  have h1:=h x DF;have h2:=rM (t:=t) (B:=B) (xs:=xs) λy hy=>h y (DJ _ hy);rw[lF,DP,DH];omega
theorem Ch.tot {r:Runtime} (h:Ch r):r.sched.tot<=84:=by
 have h1:=rM (t:=Task.tot) (B:=6) (xs:=r.sched.tasks) λt ht=>yF (h.s.task t ht).1;have h2:=h.s.len;show iq Task.tot r.sched.tasks+0<=84;omega
section
variable {k:Nat} {r:Runtime} {x:Step} (h:Ch r) (hk:20000000<=k) (hx:x.input.tot<=2000000)
include h hk hx
end
end
set_option maxRecDepth 100000
set_option maxHeartbeats 4000000
section
def dp (x:aa):List aa:=(List.range x.sh.h.toNat).map λj=>partAt x (j*x.sh.c.toNat)
def je (x:aa):List aa× Bool:=cond (x.okB&&(x.sh.w==1)) (dp x,true) ([],false)
theorem lM {x:aa} (h:x.okB=true) (hw:x.sh.w=1):1<=x.sh.h/\x.sh.h<=8/\1<=x.sh.c/\x.sh.c<=8/\x.data.length=x.sh.h.toNat*x.sh.c.toNat:=by
 unfold aa.okB at h;simp only[De,decide_eq_true_eq]at h;obtain⟨h1,h2,_⟩:=h;obtain⟨a1,a2,_,_,c1,c2⟩:=Shape.s4 h1;refine⟨a1,a2,c1,c2,?_⟩
 have:x.sh.size=x.sh.h*x.sh.w*x.sh.c:=by unfold Shape.size;rw[h1];rfl
 rw[this,hw,Int.mul_one]at h2
 have e1:x.sh.h=(x.sh.h.toNat:Int):=by omega
 have e2:x.sh.c=(x.sh.c.toNat:Int):=by omega
 rw[e1,e2,<-Int.natCast_mul]at h2;exact Int.ofNat.inj h2
theorem s8 {a b:Nat} (ha:a<=8) (hb:b<=8):a*b<=64:=Nat.mul_le_mul ha hb
theorem ur {k:Nat} {x:aa} (hk:x.data.length<k) (hx:x.data.length<=oz) (h9:100<k):ec k x=some (je x):=by
  have hM:=dI;unfold ec je;rw[oh hk hx,al]
  cases ho:x.okB with
  |false=>rfl
  | true =>
    simp only[Bool.not_true,cond_false,Eh];rw[dj];by_cases hw:x.sh.w=1
    · rw [if_pos hw, hw, beq_self_eq_true, cond_true];obtain⟨a1,a2,c1,c2,hl⟩:=lM ho hw;obtain⟨m,hm⟩:∃m:Nat,x.sh.h=m:=⟨x.sh.h.toNat,by omega⟩;obtain⟨c,hc⟩:∃c:Nat,x.sh.c=c:=⟨x.sh.c.toNat,by omega⟩;rw[hm,hc]at hl;simp only[D8]at hl;have hmc:=s8 (a:=m) (b:=c) (by omega) (by omega);refine(od (g:=λu4 n4=>bN k (x.sh.c,x.sh.h,1,x.sh.c,x.data) u4 n4 (λy3=>some (y3,true))) (st:=λi=>((i:Int),(List.range i).map λj=>partAt x (j*x.sh.c.toNat))) (n:=m) (r:=some (dp x,true)) (λi hi next=>?_) (λnext=>?_) (by omega))
      · have hic:i*c+c<=m*c:=by rw[<-DU];exact Dv c hi
        unfold bN;simp only[hm,hc]
        have e1:i64.wrap ((i:Int)*(c:Int))=((i*c:Nat):Int):=by
          rw[<-Int.natCast_mul,l7 (by omega) (by omega)]
        rw[e1]
        have e2:i64.wrap (((i*c:Nat):Int)+(c:Int))=((i*c+c:Nat):Int):=by
          rw[<-Int.natCast_add,l7 (by omega) (by omega)]
        rw[e2];simp only[D8];rw[decide_eq_true (by omega),cond_true,decide_eq_true (by omega),cond_true,decide_eq_true (by omega),cond_true]
        have o4:(x.data.take (i*c+c)).drop (i*c)=rowAt x (i*c):=by
          unfold rowAt;rw[hc,D8,List.drop_take,Dw]
        have hrl:(rowAt x (i*c)).length<=x.data.length:=by unfold rowAt;rw[Dz,D6];omega
        rw[o4,p7 (by omega) (by omega),al,wN (by simp;omega),ft hi (by omega),List.range_succ,List.map_append];simp only[DQ,D7,partAt,hc,D8]
      · unfold bN;simp only[hm];rw[decide_eq_false (by omega),cond_false];unfold dp;rw[hm,D8]
    · rw[if_neg hw]
      have:(x.sh.w==1)=false:=by simpa using hw
      rw[this];rfl
theorem uu {k:Nat} {x:aa} (hk:x.data.length<k) (hx:x.data.length<=oz):bO k x=some (je x):=by
 have hM:=dI;unfold bO je;rw[oo hk hx,al]
 cases ho:x.okB with
 |false=>rfl
 |true=>
  simp only[Bool.not_true,cond_false,Eh];rw[dj];by_cases hw:x.sh.w=1
  ·rw[if_pos hw,hw,beq_self_eq_true,cond_true];obtain⟨a1,a2,c1,c2,hl⟩:=lM ho hw;have hmc:=s8 (a:=x.sh.h.toNat) (b:=x.sh.c.toNat) (by omega) (by omega);have wV:1<=x.sh.h.toNat*x.sh.c.toNat:=Nat.mul_pos (by omega) (by omega)
   have hs:fw k x=true:=by
    unfold fw;simp only[De,decide_eq_true_eq,Eu];refine⟨c1,hl,by omega,by omega,λi _=>?_⟩
    have hrl:(rowAt x i).length<=x.data.length:=by unfold rowAt;rw[Dz,D6];omega
    rw[eS (by omega),beq_self_eq_true]
   rw[hs];rfl
  ·rw[if_neg hw]
   have:(x.sh.w==1)=false:=by simpa using hw
   rw[this];rfl
theorem uv (x:aa):iq aa.tot (je x).1<=1000:=by
 unfold je
 cases ho:x.okB&&(x.sh.w==1)with
 |false=>simp[iq]
 |true=>
  rw[De]at ho;obtain⟨a1,a2,c1,c2,hl⟩:=lM ho.1 (eq_of_beq ho.2)
  have:=rM (t:=aa.tot) (B:=20) (xs:=dp x) (λy hy=>by
   unfold dp at hy;obtain⟨j,_,rfl⟩:=List.mem_map.1 hy;unfold aa.tot partAt rowAt;simp only[Dz,D6]
   omega)
  have hlen:(dp x).length<=8:=by unfold dp;rw[List.length_map,List.length_range];omega
  show iq aa.tot (dp x)<=1000;have h2:(dp x).length*(20+1)<=8*21:=Nat.mul_le_mul hlen (DA _);omega
theorem fG (x:aa) (hx:x.Ok):∃k,aX k x=some true:=by
 obtain⟨k,hkk⟩:∃k,k=x.tot+3000:=⟨_,rfl⟩;refine⟨k,?_⟩;have hM:=dI;unfold aX;rw[p8 (n:=1048576) hx (by omega) (by omega) (by omega),al,az];by_cases c:(1048576:Int)<(x.tot:Int)
 ·simp only[if_pos c];rfl
 simp only[if_neg c];rw[if_neg (by omega)]
 have hk:x.tot<k:=by omega
 have hN:x.tot<=dK:=by omega
 have hd:x.data.length<=x.tot:=by unfold aa.tot;omega
 have hxl:x.data.length<=oz:=by unfold oz;omega
 have ht:=uv x;obtain⟨r1,y1,e1,a1,b1,l1⟩:=jU (k:=k) (x:=x) (m:=1) hk hN (by omega) (by unfold qc;omega);obtain⟨r3,y3,e3,a3,b3,l3,h3⟩:=jd (k:=k) (xs:=(je x).1) (m:=1) (by omega) (by omega) (by omega) (by unfold qc;omega)
 have n1:¬r1<0:=by omega
 have n3:¬r3<0:=by omega
 simp only[p9 hk hN,al,ur (k:=k) (x:=x) (by omega) hxl (by omega),uu (k:=k) (x:=x) (by omega) hxl,oq (xs:=(je x).1) (ys:=(je x).1) (k:=k) (by omega) (by omega),kb (y:=x) hk hN,e1,e3,h3,decide_true,cond_not,cond_true,az,dj,n1,n3,if_true,if_false,beq_self_eq_true]
end
end Go.Proofs.Ev
