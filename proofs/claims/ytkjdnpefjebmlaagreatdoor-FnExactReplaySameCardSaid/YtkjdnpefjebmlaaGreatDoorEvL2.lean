/- Typed functions and what holds of them: part 2. -/
import Derived.Test.YtkjdnpefjebmlaaGreatDoorEvL1
import Derived.Test.YtkjdnpefjebmlaaGreatDoorEvK7
import Derived.Lib.ItoaNum
import Derived.Shelf.Strings.Builder1
import Derived.Shelf.Strconv.Itoa0
import Derived.Shelf.Strconv.Itoa1
import Derived.Shelf.LaysM
import Derived.Shelf.Strconv.Itoa2
import Derived.Shelf.Strconv.Itoa3
import Derived.Test.YtkjdnpefjebmlaaGreatDoorProg
import Derived.Test.YtkjdnpefjebmlaaGreatDoorEvK8
import Derived.WalkKit
import Derived.Lib.AppendStr
import Derived.Laws.Externs
import Derived.Laws.IdiomCopy
set_option linter.unusedVariables false
set_option linter.unusedSimpArgs false
set_option linter.unusedSectionVars false
set_option maxRecDepth 100000
namespace Go.Proofs.Ev
open IntKind(i64 u8 u64)
noncomputable section
def eU {ρ:Type} (k:Nat) (p:Int× Int× Int× List Task× Int× Int× Int× Int) (v:Int× Int× Int) (next:(Int× Int× Int)->Option ρ) (x0:(Int× Int)->Option ρ):Option ρ:=
 cond (decide (v.2.2<(p.2.2.2.1.length:Int))) ((idx p.2.2.2.1 v.2.2).bind λe2=>cond (decide (e2.due<=p.1)) (cond (decide (v.1<0)) (next (v.2.2,v.2.1,i64.wrap (v.2.2+1))) ((idx p.2.2.2.1 v.1).bind λe3=>cond (decide (e2.born<e3.born)) (next (v.2.2,v.2.1,i64.wrap (v.2.2+1))) (next (v.1,v.2.1,i64.wrap (v.2.2+1))))) (cond (decide (v.2.1<0)) (next (v.1,v.2.2,i64.wrap (v.2.2+1))) ((idx p.2.2.2.1 v.2.1).bind λe4=>cond (decide (e2.due<e4.due)) (next (v.1,v.2.2,i64.wrap (v.2.2+1))) (next (v.1,v.2.1,i64.wrap (v.2.2+1)))))) (x0 (v.1,v.2.1))
def s7 (k:Nat) (a0:ak):Option (Int):=
 (fA k a0).bind λr1=>cond (!r1) (some (0:Int)) (iter (λu11 n11=>eU k (a0.now,a0.ai,a0.age,a0.tasks,a0.run,a0.left,a0.turns,a0.next) u11 n11 (λy5=>cond (decide (y5.1>=0)) (cond (decide (y5.2<0)) ((idx a0.tasks y5.1).bind λe6=>some e6.id) (cond (decide (a0.age>0)) (cond (decide (a0.age=0)) none (cond ((a0.turns.tmod a0.age)==0) ((idx a0.tasks y5.1).bind λe7=>some e7.id) (cond (decide (y5.2>=0)) ((idx a0.tasks y5.2).bind λe8=>some e8.id) (some (0:Int))))) (cond (decide (y5.2>=0)) ((idx a0.tasks y5.2).bind λe9=>some e9.id) (some (0:Int))))) (cond (decide (y5.2>=0)) ((idx a0.tasks y5.2).bind λe10=>some e10.id) (some (0:Int))))) k ((-1:Int),(-1:Int),(0:Int)))
def qy (k:Nat) (a0:ak) (a1:Bool):Option (ak× Int× Bool):=
 (m9 k a0).bind λr1=>(fA k a0).bind λr2=>cond (!r2) (some (r1,(0:Int),false)) (cond (a0.now==1000000) (some (r1,(0:Int),false)) (cond (a1) (some ((⟨(i64.wrap (a0.now+1)),r1.ai,r1.age,r1.tasks,r1.run,r1.left,r1.turns,r1.next⟩:ak),(0:Int),false)) (cond (r1.run==0) ((s7 k a0).bind λr3=>cond (r3==0) (some ((⟨(i64.wrap (a0.now+1)),r1.ai,r1.age,r1.tasks,r1.run,r1.left,r1.turns,r1.next⟩:ak),(0:Int),false)) ((lL k (⟨(i64.wrap (a0.now+1)),r1.ai,r1.age,r1.tasks,r1.run,r1.left,r1.turns,r1.next⟩:ak) r3).bind λr4=>cond (decide (0<=r4/\r4<(r1.tasks.length:Int))) ((r1.tasks[r4.toNat]?).bind λe5=>(idx e5.av e5.at_).bind λe6=>cond (decide ((i64.wrap (r1.turns+1))>1000000)) (cond (decide ((i64.wrap (e6-1))>0)) (some ((⟨(i64.wrap (a0.now+1)),r1.ai,r1.age,r1.tasks,r3,(i64.wrap (e6-1)),(0:Int),r1.next⟩:ak),(0:Int),false)) ((lL k (⟨(i64.wrap (a0.now+1)),r1.ai,r1.age,r1.tasks,r3,(i64.wrap (e6-1)),(0:Int),r1.next⟩:ak) r3).bind λr7=>cond (decide (0<=r7/\r7<(r1.tasks.length:Int))) ((r1.tasks[r7.toNat]?).bind λe8=>cond (decide (0<=r7/\r7<(r1.tasks.length:Int))) ((r1.tasks[r7.toNat]?).bind λe9=>cond (decide (0<=r7/\r7<((r1.tasks.set r7.toNat (⟨e9.id,e9.av,(i64.wrap (e8.at_+1)),e9.due,e9.born⟩:Task)).length:Int))) (((r1.tasks.set r7.toNat (⟨e9.id,e9.av,(i64.wrap (e8.at_+1)),e9.due,e9.born⟩:Task))[r7.toNat]?).bind λe10=>cond (decide (0<=r7/\r7<((r1.tasks.set r7.toNat (⟨e9.id,e9.av,(i64.wrap (e8.at_+1)),e9.due,e9.born⟩:Task)).length:Int))) (((r1.tasks.set r7.toNat (⟨e9.id,e9.av,(i64.wrap (e8.at_+1)),e9.due,e9.born⟩:Task))[r7.toNat]?).bind λe11=>cond (decide (e10.at_<(e11.av.length:Int))) (some ((⟨(i64.wrap (a0.now+1)),r1.ai,r1.age,(r1.tasks.set r7.toNat (⟨e9.id,e9.av,(i64.wrap (e8.at_+1)),e9.due,e9.born⟩:Task)),(0:Int),(i64.wrap (e6-1)),(0:Int),r1.next⟩:ak),r3,false)) ((lJ (r1.tasks.set r7.toNat (⟨e9.id,e9.av,(i64.wrap (e8.at_+1)),e9.due,e9.born⟩:Task))).bind λy12=>(gF k (i64.wrap (a0.now+1)) r1.ai r1.age y12 (0:Int) (i64.wrap (e6-1)) (0:Int) r1.next r3).bind λr13=>cond (j8 r13) ((qS (r1.tasks.set r7.toNat (⟨e9.id,e9.av,(i64.wrap (e8.at_+1)),e9.due,e9.born⟩:Task)) r13).bind λz14=>some ((⟨(i64.wrap (a0.now+1)),r1.ai,r1.age,z14,(0:Int),(i64.wrap (e6-1)),(0:Int),r1.next⟩:ak),r3,true)) none)) none) none) none) none)) (cond (decide ((i64.wrap (e6-1))>0)) (some ((⟨(i64.wrap (a0.now+1)),r1.ai,r1.age,r1.tasks,r3,(i64.wrap (e6-1)),(i64.wrap (r1.turns+1)),r1.next⟩:ak),(0:Int),false)) ((lL k (⟨(i64.wrap (a0.now+1)),r1.ai,r1.age,r1.tasks,r3,(i64.wrap (e6-1)),(i64.wrap (r1.turns+1)),r1.next⟩:ak) r3).bind λr15=>cond (decide (0<=r15/\r15<(r1.tasks.length:Int))) ((r1.tasks[r15.toNat]?).bind λe16=>cond (decide (0<=r15/\r15<(r1.tasks.length:Int))) ((r1.tasks[r15.toNat]?).bind λe17=>cond (decide (0<=r15/\r15<((r1.tasks.set r15.toNat (⟨e17.id,e17.av,(i64.wrap (e16.at_+1)),e17.due,e17.born⟩:Task)).length:Int))) (((r1.tasks.set r15.toNat (⟨e17.id,e17.av,(i64.wrap (e16.at_+1)),e17.due,e17.born⟩:Task))[r15.toNat]?).bind λe18=>cond (decide (0<=r15/\r15<((r1.tasks.set r15.toNat (⟨e17.id,e17.av,(i64.wrap (e16.at_+1)),e17.due,e17.born⟩:Task)).length:Int))) (((r1.tasks.set r15.toNat (⟨e17.id,e17.av,(i64.wrap (e16.at_+1)),e17.due,e17.born⟩:Task))[r15.toNat]?).bind λe19=>cond (decide (e18.at_<(e19.av.length:Int))) (some ((⟨(i64.wrap (a0.now+1)),r1.ai,r1.age,(r1.tasks.set r15.toNat (⟨e17.id,e17.av,(i64.wrap (e16.at_+1)),e17.due,e17.born⟩:Task)),(0:Int),(i64.wrap (e6-1)),(i64.wrap (r1.turns+1)),r1.next⟩:ak),r3,false)) ((lJ (r1.tasks.set r15.toNat (⟨e17.id,e17.av,(i64.wrap (e16.at_+1)),e17.due,e17.born⟩:Task))).bind λy20=>(gF k (i64.wrap (a0.now+1)) r1.ai r1.age y20 (0:Int) (i64.wrap (e6-1)) (i64.wrap (r1.turns+1)) r1.next r3).bind λr21=>cond (j8 r21) ((qS (r1.tasks.set r15.toNat (⟨e17.id,e17.av,(i64.wrap (e16.at_+1)),e17.due,e17.born⟩:Task)) r21).bind λz22=>some ((⟨(i64.wrap (a0.now+1)),r1.ai,r1.age,z22,(0:Int),(i64.wrap (e6-1)),(i64.wrap (r1.turns+1)),r1.next⟩:ak),r3,true)) none)) none) none) none) none))) none)) (cond (decide ((i64.wrap (r1.left-1))>0)) (some ((⟨(i64.wrap (a0.now+1)),r1.ai,r1.age,r1.tasks,r1.run,(i64.wrap (r1.left-1)),r1.turns,r1.next⟩:ak),(0:Int),false)) ((lL k (⟨(i64.wrap (a0.now+1)),r1.ai,r1.age,r1.tasks,r1.run,(i64.wrap (r1.left-1)),r1.turns,r1.next⟩:ak) r1.run).bind λr23=>cond (decide (0<=r23/\r23<(r1.tasks.length:Int))) ((r1.tasks[r23.toNat]?).bind λe24=>cond (decide (0<=r23/\r23<(r1.tasks.length:Int))) ((r1.tasks[r23.toNat]?).bind λe25=>cond (decide (0<=r23/\r23<((r1.tasks.set r23.toNat (⟨e25.id,e25.av,(i64.wrap (e24.at_+1)),e25.due,e25.born⟩:Task)).length:Int))) (((r1.tasks.set r23.toNat (⟨e25.id,e25.av,(i64.wrap (e24.at_+1)),e25.due,e25.born⟩:Task))[r23.toNat]?).bind λe26=>cond (decide (0<=r23/\r23<((r1.tasks.set r23.toNat (⟨e25.id,e25.av,(i64.wrap (e24.at_+1)),e25.due,e25.born⟩:Task)).length:Int))) (((r1.tasks.set r23.toNat (⟨e25.id,e25.av,(i64.wrap (e24.at_+1)),e25.due,e25.born⟩:Task))[r23.toNat]?).bind λe27=>cond (decide (e26.at_<(e27.av.length:Int))) (some ((⟨(i64.wrap (a0.now+1)),r1.ai,r1.age,(r1.tasks.set r23.toNat (⟨e25.id,e25.av,(i64.wrap (e24.at_+1)),e25.due,e25.born⟩:Task)),(0:Int),(i64.wrap (r1.left-1)),r1.turns,r1.next⟩:ak),r1.run,false)) ((lJ (r1.tasks.set r23.toNat (⟨e25.id,e25.av,(i64.wrap (e24.at_+1)),e25.due,e25.born⟩:Task))).bind λy28=>(gF k (i64.wrap (a0.now+1)) r1.ai r1.age y28 (0:Int) (i64.wrap (r1.left-1)) r1.turns r1.next r1.run).bind λr29=>cond (j8 r29) ((qS (r1.tasks.set r23.toNat (⟨e25.id,e25.av,(i64.wrap (e24.at_+1)),e25.due,e25.born⟩:Task)) r29).bind λz30=>some ((⟨(i64.wrap (a0.now+1)),r1.ai,r1.age,z30,(0:Int),(i64.wrap (r1.left-1)),r1.turns,r1.next⟩:ak),r1.run,true)) none)) none) none) none) none)))))
def cC (k:Nat) (a0:List Task):Option (List Task):=
 cond (isNil a0) (both (some ([]:List Task)) (cond (Nat.ble (([]:List Task).length+a0.length) aG) (some (([]:List Task)++a0)) none)) (cond (Nat.ble (([]:List Task).length+a0.length) aG) (some (([]:List Task)++a0)) none)
def jE (k:Nat) (a0:Task) (dK:ak):Option (Bool):=
 (dm k dK a0).bind λr1=>cond (decide (dK.now=dK.now)) (cond (decide (dK.ai=dK.ai)) (cond (decide (dK.age=dK.age)) (cond (decide (dK.tasks=dK.tasks)) (cond (decide (dK.run=dK.run)) (cond (decide (dK.left=dK.left)) (cond (decide (dK.turns=dK.turns)) (cond (decide (dK.next=dK.next)) (some (!r1)) none) none) none) none) none) none) none) none
def iL (k:Nat) (a0:Task) (dK:ak):Option (Bool):=
 (dm k dK a0).bind λr1=>cond (decide (dK.now=dK.now)) (cond (decide (dK.ai=dK.ai)) (cond (decide (dK.age=dK.age)) (cond (decide (dK.tasks=dK.tasks)) (cond (decide (dK.run=dK.run)) (cond (decide (dK.left=dK.left)) (cond (decide (dK.turns=dK.turns)) (cond (decide (dK.next=dK.next)) (some (!r1)) none) none) none) none) none) none) none) none
def bU {ρ:Type} (k:Nat) (p:Int× List Task× Int× Int× Int× List Task× Int× Int× Int× Int) (v:Int) (next:Int->Option ρ) (x0:Unit->Option ρ) (dE:Int->Option ρ):Option ρ:=
 cond (decide (v<p.1)) (cond (decide (0<=v/\v<(p.2.1.length:Int))) ((p.2.1[v.toNat]?).bind λe1=>(jE k e1 (⟨p.2.2.1,p.2.2.2.1,p.2.2.2.2.1,p.2.2.2.2.2.1,p.2.2.2.2.2.2.1,p.2.2.2.2.2.2.2.1,p.2.2.2.2.2.2.2.2.1,p.2.2.2.2.2.2.2.2.2⟩:ak)).bind λr2=>cond (r2) (dE v) (next (i64.wrap (v+1)))) none) (x0 ())
def cd (k:Nat) (a0:List Task) (ax:ak):Option (Int):=
 iter (λu5 n5=>bU k ((a0.length:Int),a0,ax.now,ax.ai,ax.age,ax.tasks,ax.run,ax.left,ax.turns,ax.next) u5 n5 (λy3=>cond (decide (a0=a0)) (cond (decide (ax.now=ax.now)) (cond (decide (ax.ai=ax.ai)) (cond (decide (ax.age=ax.age)) (cond (decide (ax.tasks=ax.tasks)) (cond (decide (ax.run=ax.run)) (cond (decide (ax.left=ax.left)) (cond (decide (ax.turns=ax.turns)) (cond (decide (ax.next=ax.next)) (some (-1:Int)) none) none) none) none) none) none) none) none) none) (λy4=>cond (decide (a0=a0)) (cond (decide (ax.now=ax.now)) (cond (decide (ax.ai=ax.ai)) (cond (decide (ax.age=ax.age)) (cond (decide (ax.tasks=ax.tasks)) (cond (decide (ax.run=ax.run)) (cond (decide (ax.left=ax.left)) (cond (decide (ax.turns=ax.turns)) (cond (decide (ax.next=ax.next)) (some y4) none) none) none) none) none) none) none) none) none)) k (0:Int)
def ba {ρ:Type} (k:Nat) (p:Int× Int× Int× List Task× Int× Int× Int× Int) (v:Int× Int× List Task) (next:(Int× Int× List Task)->Option ρ) (x0:(Int× List Task)->Option ρ):Option ρ:=
 cond (decide (v.2.1<(v.2.2.length:Int))) (cond (decide (0<=v.2.1/\v.2.1<(v.2.2.length:Int))) ((v.2.2[v.2.1.toNat]?).bind λe2=>(iL k e2 (⟨p.1,p.2.1,p.2.2.1,p.2.2.2.1,p.2.2.2.2.1,p.2.2.2.2.2.1,p.2.2.2.2.2.2.1,p.2.2.2.2.2.2.2⟩:ak)).bind λr3=>cond (!r3) (cond (decide (0<=v.1/\v.1<(v.2.2.length:Int))) (next (i64.wrap (v.1+1),i64.wrap (v.2.1+1),v.2.2.set v.1.toNat e2)) none) (next (v.1,i64.wrap (v.2.1+1),v.2.2))) none) (x0 (v.1,v.2.2))
def b7 (k:Nat) (a0:List Task) (ax:ak):Option (List Task):=
 (cd k a0 ax).bind λr1=>cond (r1==(-1:Int)) (cond (decide (ax.now=ax.now)) (cond (decide (ax.ai=ax.ai)) (cond (decide (ax.age=ax.age)) (cond (decide (ax.tasks=ax.tasks)) (cond (decide (ax.run=ax.run)) (cond (decide (ax.left=ax.left)) (cond (decide (ax.turns=ax.turns)) (cond (decide (ax.next=ax.next)) (some a0) none) none) none) none) none) none) none) none) (iter (λu5 n5=>ba k (ax.now,ax.ai,ax.age,ax.tasks,ax.run,ax.left,ax.turns,ax.next) u5 n5 (λy4=>cond (decide (0<=y4.1/\y4.1<=(y4.2.length:Int))) (cond (decide (0<=y4.1/\y4.1<=(((y4.2).take y4.1.toNat++List.replicate (y4.2.length-y4.1.toNat) (⟨(0:Int),([]:List Int),(0:Int),(0:Int),(0:Int)⟩:Task)++(y4.2).drop (y4.1.toNat+(y4.2.length-y4.1.toNat))).length:Int))) (cond (decide (ax.now=ax.now)) (cond (decide (ax.ai=ax.ai)) (cond (decide (ax.age=ax.age)) (cond (decide (ax.tasks=ax.tasks)) (cond (decide (ax.run=ax.run)) (cond (decide (ax.left=ax.left)) (cond (decide (ax.turns=ax.turns)) (cond (decide (ax.next=ax.next)) (some (((y4.2).take y4.1.toNat++List.replicate (y4.2.length-y4.1.toNat) (⟨(0:Int),([]:List Int),(0:Int),(0:Int),(0:Int)⟩:Task)++(y4.2).drop (y4.1.toNat+(y4.2.length-y4.1.toNat))).take (y4.1.toNat-0))) none) none) none) none) none) none) none) none) none) none)) k (r1,i64.wrap (r1+1),a0))
def jF (k:Nat) (a0:Task):Option (Int):=
 some a0.born
def lZ (k:Nat) (a0:Int):Option (Bool):=
 some (a0 !=a0)
def du (k:Nat) (a0:Int) (a1:Int):Option (Int):=
 (lZ k a0).bind λr1=>(lZ k a1).bind λr2=>cond (r1) (cond (r2) (some (0:Int)) (some (-1:Int))) (cond (r2) (some (1:Int)) (cond (decide (a0<a1)) (some (-1:Int)) (cond (decide (a0>a1)) (some (1:Int)) (some (0:Int)))))
def l0 {ρ:Type} (k:Nat) (p:Int× List Int× Int) (v:Int) (next:Int->Option ρ) (x0:Unit->Option ρ) (dE:Int->Option ρ):Option ρ:=
 cond (decide (v<p.2.2)) ((idx p.2.1 v).bind λe1=>cond (e1 !=p.1) (dE e1) (next (i64.wrap (v+1)))) (x0 ())
def pC (k:Nat) (a0:List Int):Option (Int):=
 iter (λu4 n4=>l0 k ((0:Int),a0,(a0.length:Int)) u4 n4 (λy2=>some (0:Int)) (λy3=>some y3)) k (0:Int)
def jG (k:Nat) (a0:Task) (a1:Task):Option (Int):=
 (jF k a0).bind λr1=>(jF k a1).bind λr2=>(du k r1 r2).bind λr3=>(du k a0.id a1.id).bind λr4=>(pC k [r3,r4]).bind λr5=>some r5
def bH {ρ:Type} (k:Nat) (p:List Task× Int× Int× Int× Int) (v:Int× Int× List Int× Int× Int× Int) (next:(Int× Int× List Int× Int× Int× Int)->Option ρ) (x0:(Int× List Int× Int× Int× Int)->Option ρ):Option ρ:=
 cond (decide (v.1<(p.1.length:Int))) ((idx p.1 v.1).bind λe2=>(jG k e2 (⟨v.2.1,v.2.2.1,v.2.2.2.1,v.2.2.2.2.1,v.2.2.2.2.2⟩:Task)).bind λr3=>cond (decide (r3<0)) ((idx p.1 v.1).bind λe4=>next (i64.wrap (v.1+1),e4.id,e4.av,e4.at_,e4.due,e4.born)) (next (i64.wrap (v.1+1),v.2.1,v.2.2.1,v.2.2.2.1,v.2.2.2.2.1,v.2.2.2.2.2))) (x0 (v.2.1,v.2.2.1,v.2.2.2.1,v.2.2.2.2.1,v.2.2.2.2.2))
def cH (k:Nat) (a0:List Task):Option (Task):=
 cond (decide ((a0.length:Int)<(1:Int))) (none) ((idx a0 (0:Int)).bind λe1=>iter (λu6 n6=>bH k (a0,(0:Int),(0:Int),(0:Int),(0:Int)) u6 n6 (λy5=>some (⟨y5.1,y5.2.1,y5.2.2.1,y5.2.2.2.1,y5.2.2.2.2⟩:Task))) k ((1:Int),e1.id,e1.av,e1.at_,e1.due,e1.born))
def jH (k:Nat) (a0:ak) (Xx:ak):Option (Int):=
 (cC k a0.tasks).bind λr1=>(b7 k r1 Xx).bind λr2=>cond ((r2.length:Int)==(0:Int)) (some (0:Int)) ((cH k r2).bind λr3=>some r3.id)
def fD (k:Nat) (a0:Task) (a1:ak):Option (Bool):=
 (dm k a1 a0).bind λr1=>cond (decide (a1.now=a1.now)) (cond (decide (a1.ai=a1.ai)) (cond (decide (a1.age=a1.age)) (cond (decide (a1.tasks=a1.tasks)) (cond (decide (a1.run=a1.run)) (cond (decide (a1.left=a1.left)) (cond (decide (a1.turns=a1.turns)) (cond (decide (a1.next=a1.next)) (some (!r1)) none) none) none) none) none) none) none) none
def iM (k:Nat) (a0:Task) (dL:ak):Option (Bool):=
 (fD k a0 dL).bind λr1=>cond (decide (dL.now=dL.now)) (cond (decide (dL.ai=dL.ai)) (cond (decide (dL.age=dL.age)) (cond (decide (dL.tasks=dL.tasks)) (cond (decide (dL.run=dL.run)) (cond (decide (dL.left=dL.left)) (cond (decide (dL.turns=dL.turns)) (cond (decide (dL.next=dL.next)) (some (!r1)) none) none) none) none) none) none) none) none
def eC (k:Nat) (a0:Task) (dL:ak):Option (Bool):=
 (fD k a0 dL).bind λr1=>cond (decide (dL.now=dL.now)) (cond (decide (dL.ai=dL.ai)) (cond (decide (dL.age=dL.age)) (cond (decide (dL.tasks=dL.tasks)) (cond (decide (dL.run=dL.run)) (cond (decide (dL.left=dL.left)) (cond (decide (dL.turns=dL.turns)) (cond (decide (dL.next=dL.next)) (some (!r1)) none) none) none) none) none) none) none) none
def bV {ρ:Type} (k:Nat) (p:Int× List Task× Int× Int× Int× List Task× Int× Int× Int× Int) (v:Int) (next:Int->Option ρ) (x0:Unit->Option ρ) (dE:Int->Option ρ):Option ρ:=
 cond (decide (v<p.1)) (cond (decide (0<=v/\v<(p.2.1.length:Int))) ((p.2.1[v.toNat]?).bind λe1=>(iM k e1 (⟨p.2.2.1,p.2.2.2.1,p.2.2.2.2.1,p.2.2.2.2.2.1,p.2.2.2.2.2.2.1,p.2.2.2.2.2.2.2.1,p.2.2.2.2.2.2.2.2.1,p.2.2.2.2.2.2.2.2.2⟩:ak)).bind λr2=>cond (r2) (dE v) (next (i64.wrap (v+1)))) none) (x0 ())
def cg (k:Nat) (a0:List Task) (ay:ak):Option (Int):=
 iter (λu5 n5=>bV k ((a0.length:Int),a0,ay.now,ay.ai,ay.age,ay.tasks,ay.run,ay.left,ay.turns,ay.next) u5 n5 (λy3=>cond (decide (a0=a0)) (cond (decide (ay.now=ay.now)) (cond (decide (ay.ai=ay.ai)) (cond (decide (ay.age=ay.age)) (cond (decide (ay.tasks=ay.tasks)) (cond (decide (ay.run=ay.run)) (cond (decide (ay.left=ay.left)) (cond (decide (ay.turns=ay.turns)) (cond (decide (ay.next=ay.next)) (some (-1:Int)) none) none) none) none) none) none) none) none) none) (λy4=>cond (decide (a0=a0)) (cond (decide (ay.now=ay.now)) (cond (decide (ay.ai=ay.ai)) (cond (decide (ay.age=ay.age)) (cond (decide (ay.tasks=ay.tasks)) (cond (decide (ay.run=ay.run)) (cond (decide (ay.left=ay.left)) (cond (decide (ay.turns=ay.turns)) (cond (decide (ay.next=ay.next)) (some y4) none) none) none) none) none) none) none) none) none)) k (0:Int)
def bc {ρ:Type} (k:Nat) (p:Int× Int× Int× List Task× Int× Int× Int× Int) (v:Int× Int× List Task) (next:(Int× Int× List Task)->Option ρ) (x0:(Int× List Task)->Option ρ):Option ρ:=
 cond (decide (v.2.1<(v.2.2.length:Int))) (cond (decide (0<=v.2.1/\v.2.1<(v.2.2.length:Int))) ((v.2.2[v.2.1.toNat]?).bind λe2=>(eC k e2 (⟨p.1,p.2.1,p.2.2.1,p.2.2.2.1,p.2.2.2.2.1,p.2.2.2.2.2.1,p.2.2.2.2.2.2.1,p.2.2.2.2.2.2.2⟩:ak)).bind λr3=>cond (!r3) (cond (decide (0<=v.1/\v.1<(v.2.2.length:Int))) (next (i64.wrap (v.1+1),i64.wrap (v.2.1+1),v.2.2.set v.1.toNat e2)) none) (next (v.1,i64.wrap (v.2.1+1),v.2.2))) none) (x0 (v.1,v.2.2))
def b8 (k:Nat) (a0:List Task) (ay:ak):Option (List Task):=
 (cg k a0 ay).bind λr1=>cond (r1==(-1:Int)) (cond (decide (ay.now=ay.now)) (cond (decide (ay.ai=ay.ai)) (cond (decide (ay.age=ay.age)) (cond (decide (ay.tasks=ay.tasks)) (cond (decide (ay.run=ay.run)) (cond (decide (ay.left=ay.left)) (cond (decide (ay.turns=ay.turns)) (cond (decide (ay.next=ay.next)) (some a0) none) none) none) none) none) none) none) none) (iter (λu5 n5=>bc k (ay.now,ay.ai,ay.age,ay.tasks,ay.run,ay.left,ay.turns,ay.next) u5 n5 (λy4=>cond (decide (0<=y4.1/\y4.1<=(y4.2.length:Int))) (cond (decide (0<=y4.1/\y4.1<=(((y4.2).take y4.1.toNat++List.replicate (y4.2.length-y4.1.toNat) (⟨(0:Int),([]:List Int),(0:Int),(0:Int),(0:Int)⟩:Task)++(y4.2).drop (y4.1.toNat+(y4.2.length-y4.1.toNat))).length:Int))) (cond (decide (ay.now=ay.now)) (cond (decide (ay.ai=ay.ai)) (cond (decide (ay.age=ay.age)) (cond (decide (ay.tasks=ay.tasks)) (cond (decide (ay.run=ay.run)) (cond (decide (ay.left=ay.left)) (cond (decide (ay.turns=ay.turns)) (cond (decide (ay.next=ay.next)) (some (((y4.2).take y4.1.toNat++List.replicate (y4.2.length-y4.1.toNat) (⟨(0:Int),([]:List Int),(0:Int),(0:Int),(0:Int)⟩:Task)++(y4.2).drop (y4.1.toNat+(y4.2.length-y4.1.toNat))).take (y4.1.toNat-0))) none) none) none) none) none) none) none) none) none) none)) k (r1,i64.wrap (r1+1),a0))
def jI (k:Nat) (a0:Task):Option (Int):=
 some a0.due
def iN (k:Nat) (a0:Task) (a1:Task):Option (Int):=
 (jI k a0).bind λr1=>(jI k a1).bind λr2=>(du k r1 r2).bind λr3=>(du k a0.id a1.id).bind λr4=>(pC k [r3,r4]).bind λr5=>some r5
def bA {ρ:Type} (k:Nat) (p:List Task× Int× Int× Int× Int) (v:Int× Int× List Int× Int× Int× Int) (next:(Int× Int× List Int× Int× Int× Int)->Option ρ) (x0:(Int× List Int× Int× Int× Int)->Option ρ):Option ρ:=
 cond (decide (v.1<(p.1.length:Int))) ((idx p.1 v.1).bind λe2=>(iN k e2 (⟨v.2.1,v.2.2.1,v.2.2.2.1,v.2.2.2.2.1,v.2.2.2.2.2⟩:Task)).bind λr3=>cond (decide (r3<0)) ((idx p.1 v.1).bind λe4=>next (i64.wrap (v.1+1),e4.id,e4.av,e4.at_,e4.due,e4.born)) (next (i64.wrap (v.1+1),v.2.1,v.2.2.1,v.2.2.2.1,v.2.2.2.2.1,v.2.2.2.2.2))) (x0 (v.2.1,v.2.2.1,v.2.2.2.1,v.2.2.2.2.1,v.2.2.2.2.2))
def cu (k:Nat) (a0:List Task):Option (Task):=
 cond (decide ((a0.length:Int)<(1:Int))) (none) ((idx a0 (0:Int)).bind λe1=>iter (λu6 n6=>bA k (a0,(0:Int),(0:Int),(0:Int),(0:Int)) u6 n6 (λy5=>some (⟨y5.1,y5.2.1,y5.2.2.1,y5.2.2.2.1,y5.2.2.2.2⟩:Task))) k ((1:Int),e1.id,e1.av,e1.at_,e1.due,e1.born))
def iF (k:Nat) (a0:ak) (eM:ak):Option (Int):=
 (cC k a0.tasks).bind λr1=>(b8 k r1 eM).bind λr2=>cond ((r2.length:Int)==(0:Int)) (cond (decide (eM.now=eM.now)) (cond (decide (eM.ai=eM.ai)) (cond (decide (eM.age=eM.age)) (cond (decide (eM.tasks=eM.tasks)) (cond (decide (eM.run=eM.run)) (cond (decide (eM.left=eM.left)) (cond (decide (eM.turns=eM.turns)) (cond (decide (eM.next=eM.next)) (some (0:Int)) none) none) none) none) none) none) none) none) ((cu k r2).bind λr3=>cond (decide (eM.now=eM.now)) (cond (decide (eM.ai=eM.ai)) (cond (decide (eM.age=eM.age)) (cond (decide (eM.tasks=eM.tasks)) (cond (decide (eM.run=eM.run)) (cond (decide (eM.left=eM.left)) (cond (decide (eM.turns=eM.turns)) (cond (decide (eM.next=eM.next)) (some r3.id) none) none) none) none) none) none) none) none)
def lg (k:Nat) (a0:ak):Option (Int):=
 (jH k a0 a0).bind λr1=>(iF k a0 a0).bind λr2=>cond (decide (a0.age>0)) (cond (decide (a0.age=0)) none (cond ((a0.turns.tmod a0.age)==0) (cond (r1 !=0) (some r1) (cond (r2==0) (some r1) (some r2))) (cond (r2==0) (some r1) (some r2)))) (cond (r2==0) (some r1) (some r2))
def eO (k:Nat) (a0:ak):Option (Bool× Int× Int× Int):=
 (lg k a0).bind λr1=>cond (r1==0) (cond (decide (a0.now=a0.now)) (cond (decide (a0.ai=a0.ai)) (cond (decide (a0.age=a0.age)) (cond (decide (a0.tasks=a0.tasks)) (cond (decide (a0.next=a0.next)) (some (false,a0.run,a0.left,a0.turns)) none) none) none) none) none) ((dz k a0 r1).bind λr2=>cond (decide (0<=r2/\r2<(a0.tasks.length:Int))) ((a0.tasks[r2.toNat]?).bind λe3=>(idx e3.av e3.at_).bind λe4=>cond (decide ((i64.wrap (a0.turns+1))>1000000)) (cond (decide (a0.now=a0.now)) (cond (decide (a0.ai=a0.ai)) (cond (decide (a0.age=a0.age)) (cond (decide (a0.tasks=a0.tasks)) (cond (decide (a0.next=a0.next)) (some (true,r1,e4,(0:Int))) none) none) none) none) none) (cond (decide (a0.now=a0.now)) (cond (decide (a0.ai=a0.ai)) (cond (decide (a0.age=a0.age)) (cond (decide (a0.tasks=a0.tasks)) (cond (decide (a0.next=a0.next)) (some (true,r1,e4,i64.wrap (a0.turns+1))) none) none) none) none) none)) none)
def gG (k:Nat) (a0:ak) (a1:Bool):Option ((Int× Bool)× Int× List Task× Int× Int× Int):=
 cond (!a1) (cond (a0.run !=0) (cond (decide ((i64.wrap (a0.left-1))>0)) (cond (decide (a0.ai=a0.ai)) (cond (decide (a0.age=a0.age)) (cond (decide (a0.next=a0.next)) (some (((0:Int),false),i64.wrap (a0.now+1),a0.tasks,a0.run,i64.wrap (a0.left-1),a0.turns)) none) none) none) ((dz k (⟨(i64.wrap (a0.now+1)),a0.ai,a0.age,a0.tasks,a0.run,(i64.wrap (a0.left-1)),a0.turns,a0.next⟩:ak) a0.run).bind λr1=>cond (decide (0<=r1/\r1<(a0.tasks.length:Int))) ((a0.tasks[r1.toNat]?).bind λe2=>(a0.tasks[r1.toNat]?).bind λe3=>((a0.tasks.set r1.toNat (⟨e3.id,e3.av,(i64.wrap (e2.at_+1)),e3.due,e3.born⟩:Task))[r1.toNat]?).bind λe4=>((a0.tasks.set r1.toNat (⟨e3.id,e3.av,(i64.wrap (e2.at_+1)),e3.due,e3.born⟩:Task))[r1.toNat]?).bind λe5=>cond (decide (e4.at_<(e5.av.length:Int))) (cond (decide (a0.ai=a0.ai)) (cond (decide (a0.age=a0.age)) (cond (decide (a0.next=a0.next)) (some ((a0.run,false),i64.wrap (a0.now+1),a0.tasks.set r1.toNat (⟨e3.id,e3.av,(i64.wrap (e2.at_+1)),e3.due,e3.born⟩:Task),(0:Int),i64.wrap (a0.left-1),a0.turns)) none) none) none) ((lJ (a0.tasks.set r1.toNat (⟨e3.id,e3.av,(i64.wrap (e2.at_+1)),e3.due,e3.born⟩:Task))).bind λy6=>(dN k (i64.wrap (a0.now+1)) a0.ai a0.age y6 (0:Int) (i64.wrap (a0.left-1)) a0.turns a0.next a0.run).bind λr7=>cond (j8 r7.1) ((qS (a0.tasks.set r1.toNat (⟨e3.id,e3.av,(i64.wrap (e2.at_+1)),e3.due,e3.born⟩:Task)) r7.1).bind λz8=>cond (decide (a0.ai=a0.ai)) (cond (decide (a0.age=a0.age)) (cond (decide (a0.next=a0.next)) (some ((a0.run,true),i64.wrap (a0.now+1),z8,r7.2.1,r7.2.2,a0.turns)) none) none) none) none)) none)) ((eO k a0).bind λr9=>cond (!r9.1) (cond (decide (a0.ai=a0.ai)) (cond (decide (a0.age=a0.age)) (cond (decide (a0.next=a0.next)) (some (((0:Int),false),i64.wrap (a0.now+1),a0.tasks,r9.2.1,r9.2.2.1,r9.2.2.2)) none) none) none) (cond (decide ((i64.wrap (r9.2.2.1-1))>0)) (cond (decide (a0.ai=a0.ai)) (cond (decide (a0.age=a0.age)) (cond (decide (a0.next=a0.next)) (some (((0:Int),false),i64.wrap (a0.now+1),a0.tasks,r9.2.1,i64.wrap (r9.2.2.1-1),r9.2.2.2)) none) none) none) ((dz k (⟨(i64.wrap (a0.now+1)),a0.ai,a0.age,a0.tasks,r9.2.1,(i64.wrap (r9.2.2.1-1)),r9.2.2.2,a0.next⟩:ak) r9.2.1).bind λr10=>cond (decide (0<=r10/\r10<(a0.tasks.length:Int))) ((a0.tasks[r10.toNat]?).bind λe11=>(a0.tasks[r10.toNat]?).bind λe12=>((a0.tasks.set r10.toNat (⟨e12.id,e12.av,(i64.wrap (e11.at_+1)),e12.due,e12.born⟩:Task))[r10.toNat]?).bind λe13=>((a0.tasks.set r10.toNat (⟨e12.id,e12.av,(i64.wrap (e11.at_+1)),e12.due,e12.born⟩:Task))[r10.toNat]?).bind λe14=>cond (decide (e13.at_<(e14.av.length:Int))) (cond (decide (a0.ai=a0.ai)) (cond (decide (a0.age=a0.age)) (cond (decide (a0.next=a0.next)) (some ((r9.2.1,false),i64.wrap (a0.now+1),a0.tasks.set r10.toNat (⟨e12.id,e12.av,(i64.wrap (e11.at_+1)),e12.due,e12.born⟩:Task),(0:Int),i64.wrap (r9.2.2.1-1),r9.2.2.2)) none) none) none) ((lJ (a0.tasks.set r10.toNat (⟨e12.id,e12.av,(i64.wrap (e11.at_+1)),e12.due,e12.born⟩:Task))).bind λy15=>(dN k (i64.wrap (a0.now+1)) a0.ai a0.age y15 (0:Int) (i64.wrap (r9.2.2.1-1)) r9.2.2.2 a0.next r9.2.1).bind λr16=>cond (j8 r16.1) ((qS (a0.tasks.set r10.toNat (⟨e12.id,e12.av,(i64.wrap (e11.at_+1)),e12.due,e12.born⟩:Task)) r16.1).bind λz17=>cond (decide (a0.ai=a0.ai)) (cond (decide (a0.age=a0.age)) (cond (decide (a0.next=a0.next)) (some ((r9.2.1,true),i64.wrap (a0.now+1),z17,r16.2.1,r16.2.2,r9.2.2.2)) none) none) none) none)) none)))) (cond (decide (a0.ai=a0.ai)) (cond (decide (a0.age=a0.age)) (cond (decide (a0.next=a0.next)) (some (((0:Int),false),i64.wrap (a0.now+1),a0.tasks,a0.run,a0.left,a0.turns)) none) none) none)
def uz (k:Nat) (a0:ak) (a1:Bool):Option (ak× Int× Bool):=
 (gi k a0).bind λr1=>(nc k a0).bind λr2=>cond (!r2) (some (r1,(0:Int),false)) (cond (a0.now==1000000) (some (r1,(0:Int),false)) ((gG k r1 a1).bind λr3=>some ((⟨r3.2.1,r1.ai,r1.age,r3.2.2.1,r3.2.2.2.1,r3.2.2.2.2.1,r3.2.2.2.2.2,r1.next⟩:ak),r3.1.1,r3.1.2)))
def s8 (k:Nat) (a0:Int) (a1:Int):Option (ak× Bool):=
 (fA k (⟨(0:Int),a0,a1,([]:List Task),(0:Int),(0:Int),(0:Int),(1:Int)⟩:ak)).bind λr1=>cond (!r1) (some ((⟨(0:Int),(0:Int),(0:Int),([]:List Task),(0:Int),(0:Int),(0:Int),(0:Int)⟩:ak),false)) (some ((⟨(0:Int),a0,a1,([]:List Task),(0:Int),(0:Int),(0:Int),(1:Int)⟩:ak),true))
def s9 (k:Nat) (a0:Int) (a1:Int):Option (ak× Bool):=
 (nc k (⟨(0:Int),a0,a1,([]:List Task),(0:Int),(0:Int),(0:Int),(1:Int)⟩:ak)).bind λr1=>cond (!r1) (some ((⟨(0:Int),(0:Int),(0:Int),([]:List Task),(0:Int),(0:Int),(0:Int),(0:Int)⟩:ak),false)) (some ((⟨(0:Int),a0,a1,([]:List Task),(0:Int),(0:Int),(0:Int),(1:Int)⟩:ak),true))
end
end Go.Proofs.Ev
set_option maxRecDepth 100000
set_option maxHeartbeats 4000000
namespace Go.Proofs.Ev
open IntKind(i64 u8 u64)
noncomputable section
def oo (k:Nat) (a0:Int) (a1:Int):Option (Runtime× Bool):=
 (s8 k a0 a1).bind λr1=>cond (!r1.2) (some ((⟨(⟨(0:Int),(0:Int),(0:Int),([]:List Task),(0:Int),(0:Int),(0:Int),(0:Int)⟩:ak),([]:List Model),([]:List Bool),([]:List Request)⟩:Runtime),false)) (some ((⟨r1.1,(List.replicate ((4:Int).toNat) (⟨(⟨(0:Int),(0:Int),(0:Int)⟩:Shape),([]:List aA)⟩:Model)),(List.replicate ((4:Int).toNat) false),([]:List Request)⟩:Runtime),true))
def bn (k:Nat) (a0:Step) (a1:Int):Option (List Event):=
 some [(⟨(5:Int),a0.kind,a1,(⟨(⟨(0:Int),(0:Int),(0:Int)⟩:Shape),([]:List Int)⟩:az)⟩:Event)]
def vY (k:Nat) (a0:List Int):Option (Bool):=
 cond (decide ((a0.length:Int)>=(3:Int))) ((idx a0 (0:Int)).bind λe1=>cond (e1==80) ((idx a0 (1:Int)).bind λe2=>cond (e2==77) ((idx a0 (2:Int)).bind λe3=>some (e3==49)) (some false)) (some false)) (some false)
def lh (k:Nat) (ke:List Int) (lD:Int) (lE:Bool):Option (Int× Int× Bool):=
 (bf k ke lD lE).bind λr1=>(bO k r1.1 (0:Int) (2000:Int)).bind λr2=>cond (!r2) (cond (decide (ke=ke)) (some ((0:Int),r1.2.1,true)) none) (cond (decide (ke=ke)) (some (r1.1,r1.2.1,r1.2.2)) none)
def fg {ρ:Type} (k:Nat) (p:Int× List Int) (v:Int× Int× Bool× List Int) (next:(Int× Int× Bool× List Int)->Option ρ) (x0:(List Int× Int× Bool)->Option ρ):Option ρ:=
 cond (decide (v.1<p.1)) (cond (!v.2.2.1) ((bf k p.2 v.2.1 v.2.2.1).bind λr2=>cond (Nat.ble (v.2.2.2.length+[r2.1].length) aG) (next (i64.wrap (v.1+1),r2.2.1,r2.2.2,v.2.2.2++[r2.1])) none) (x0 (v.2.2.2,v.2.1,v.2.2.1))) (x0 (v.2.2.2,v.2.1,v.2.2.1))
def nd (k:Nat) (ke:List Int) (lD:Int) (lE:Bool):Option (List Int× Int× Bool):=
 (lh k ke lD lE).bind λr1=>iter (λu4 n4=>fg k (r1.1,ke) u4 n4 (λy3=>cond (decide (ke=ke)) (some (y3.1,y3.2.1,y3.2.2)) none)) k ((0:Int),r1.2.1,r1.2.2,([]:List Int))
def cW {ρ:Type} (k:Nat) (p:List Int× Int× Int× Int× Int× Int× Int× Int× List Int× Int× Int× Int) (v:Int× Int× Bool× List aA) (next:(Int× Int× Bool× List aA)->Option ρ) (x0:(Int× Bool× List aA)->Option ρ):Option ρ:=
 cond (decide (v.1<p.2.1)) (cond (!v.2.2.1) ((bf k p.2.2.2.2.2.2.2.2.1 v.2.1 v.2.2.1).bind λr6=>(bf k p.2.2.2.2.2.2.2.2.1 r6.2.1 r6.2.2).bind λr7=>(bf k p.2.2.2.2.2.2.2.2.1 r7.2.1 r7.2.2).bind λr8=>(bf k p.2.2.2.2.2.2.2.2.1 r8.2.1 r8.2.2).bind λr9=>(bf k p.2.2.2.2.2.2.2.2.1 r9.2.1 r9.2.2).bind λr10=>(bf k p.2.2.2.2.2.2.2.2.1 r10.2.1 r10.2.2).bind λr11=>(bf k p.2.2.2.2.2.2.2.2.1 r11.2.1 r11.2.2).bind λr12=>(nd k p.2.2.2.2.2.2.2.2.1 r12.2.1 r12.2.2).bind λr13=>(nd k p.2.2.2.2.2.2.2.2.1 r13.2.1 r13.2.2).bind λr14=>cond (Nat.ble (v.2.2.2.length+1) aG) (next (i64.wrap (v.1+1),r14.2.1,r14.2.2,v.2.2.2++[(⟨r6.1,r7.1,r8.1,r9.1,r10.1,r11.1,r12.1,r13.1,r14.1⟩:aA)])) none) (x0 (v.2.1,v.2.2.1,v.2.2.2))) (x0 (v.2.1,v.2.2.1,v.2.2.2))
def l5 (k:Nat) (a0:List Int):Option (Model× Int):=
 cond (decide ((a0.length:Int)>(6000:Int))) (some ((⟨(⟨(0:Int),(0:Int),(0:Int)⟩:Shape),([]:List aA)⟩:Model),(5:Int))) ((vY k a0).bind λr1=>cond (!r1) (some ((⟨(⟨(0:Int),(0:Int),(0:Int)⟩:Shape),([]:List aA)⟩:Model),(1:Int))) ((bf k a0 (3:Int) false).bind λr2=>(bf k a0 r2.2.1 r2.2.2).bind λr3=>(bf k a0 r3.2.1 r3.2.2).bind λr4=>(lh k a0 r4.2.1 r4.2.2).bind λr5=>iter (λu19 n19=>cW k (a0,r5.1,(0:Int),(0:Int),(0:Int),(0:Int),(0:Int),(0:Int),a0,r2.1,r3.1,r4.1) u19 n19 (λy15=>(bf k a0 y15.1 y15.2.1).bind λr16=>cond (r16.2.2) (some ((⟨(⟨(0:Int),(0:Int),(0:Int)⟩:Shape),([]:List aA)⟩:Model),(2:Int))) (cond (decide (0<=y15.1/\y15.1<=(a0.length:Int))) ((qn k ((a0.take y15.1.toNat).drop 0)).bind λr17=>cond (r16.1 !=r17) (some ((⟨(⟨(0:Int),(0:Int),(0:Int)⟩:Shape),([]:List aA)⟩:Model),(3:Int))) (cond (r16.2.1 !=(a0.length:Int)) (some ((⟨(⟨(0:Int),(0:Int),(0:Int)⟩:Shape),([]:List aA)⟩:Model),(3:Int))) ((rR k (⟨(⟨r2.1,r3.1,r4.1⟩:Shape),y15.2.2⟩:Model)).bind λr18=>cond (!r18) (some ((⟨(⟨(0:Int),(0:Int),(0:Int)⟩:Shape),([]:List aA)⟩:Model),(4:Int))) (some ((⟨(⟨r2.1,r3.1,r4.1⟩:Shape),y15.2.2⟩:Model),(0:Int)))))) none))) k ((0:Int),r5.2.1,r5.2.2,([]:List aA))))
def l6 {ρ:Type} (k:Nat) (p:Int× Int× Int× List aA× List Int) (v:Int) (next:Int->Option ρ) (x0:Unit->Option ρ) (dE:Bool->Option ρ):Option ρ:=
 cond (decide (v<(p.2.2.2.2.length:Int))) (cond (decide (0<=v/\v<(p.2.2.2.2.length:Int))) ((p.2.2.2.2[v.toNat]?).bind λe2=>cond (decide (e2>1000)) (dE false) (next (i64.wrap (v+1)))) none) (x0 ())
def ta (k:Nat) (a0:Model):Option (Bool):=
 (k7 k a0).bind λr1=>iter (λu6 n6=>l6 k (a0.inp.h,a0.inp.w,a0.inp.c,a0.aF,r1) u6 n6 (λy3=>(rR k a0).bind λr4=>some r4) (λy5=>some y5)) k (0:Int)
def qz (k:Nat) (a0:Runtime) (a1:Step):Option (List Event× List Model× List Bool):=
 (bO k a1.a (0:Int) (3:Int)).bind λr1=>cond (!r1) ((bn k a1 (1:Int)).bind λr2=>cond (decide (a0.sched.now=a0.sched.now)) (cond (decide (a0.sched.ai=a0.sched.ai)) (cond (decide (a0.sched.age=a0.sched.age)) (cond (decide (a0.sched.run=a0.sched.run)) (cond (decide (a0.sched.left=a0.sched.left)) (cond (decide (a0.sched.turns=a0.sched.turns)) (cond (decide (a0.sched.next=a0.sched.next)) (cond (decide (a0.sched.tasks=a0.sched.tasks)) (cond (decide (a0.ae=a0.ae)) (some (r2,a0.ao,a0.aq)) none) none) none) none) none) none) none) none) none) (cond (decide (0<=a1.a/\a1.a<(a0.aq.length:Int))) ((a0.aq[a1.a.toNat]?).bind λe3=>cond (e3) ((bn k a1 (1:Int)).bind λr4=>cond (decide (a0.sched.now=a0.sched.now)) (cond (decide (a0.sched.ai=a0.sched.ai)) (cond (decide (a0.sched.age=a0.sched.age)) (cond (decide (a0.sched.run=a0.sched.run)) (cond (decide (a0.sched.left=a0.sched.left)) (cond (decide (a0.sched.turns=a0.sched.turns)) (cond (decide (a0.sched.next=a0.sched.next)) (cond (decide (a0.sched.tasks=a0.sched.tasks)) (cond (decide (a0.ae=a0.ae)) (some (r4,a0.ao,a0.aq)) none) none) none) none) none) none) none) none) none) ((l5 k a1.data).bind λr5=>cond (r5.2 !=0) ((bn k a1 (2:Int)).bind λr6=>cond (decide (a0.sched.now=a0.sched.now)) (cond (decide (a0.sched.ai=a0.sched.ai)) (cond (decide (a0.sched.age=a0.sched.age)) (cond (decide (a0.sched.run=a0.sched.run)) (cond (decide (a0.sched.left=a0.sched.left)) (cond (decide (a0.sched.turns=a0.sched.turns)) (cond (decide (a0.sched.next=a0.sched.next)) (cond (decide (a0.sched.tasks=a0.sched.tasks)) (cond (decide (a0.ae=a0.ae)) (some (r6,a0.ao,a0.aq)) none) none) none) none) none) none) none) none) none) ((ta k r5.1).bind λr7=>cond (!r7) ((bn k a1 (2:Int)).bind λr8=>cond (decide (a0.sched.now=a0.sched.now)) (cond (decide (a0.sched.ai=a0.sched.ai)) (cond (decide (a0.sched.age=a0.sched.age)) (cond (decide (a0.sched.run=a0.sched.run)) (cond (decide (a0.sched.left=a0.sched.left)) (cond (decide (a0.sched.turns=a0.sched.turns)) (cond (decide (a0.sched.next=a0.sched.next)) (cond (decide (a0.sched.tasks=a0.sched.tasks)) (cond (decide (a0.ae=a0.ae)) (some (r8,a0.ao,a0.aq)) none) none) none) none) none) none) none) none) none) (cond (decide (0<=a1.a/\a1.a<(a0.ao.length:Int))) (cond (decide (0<=a1.a/\a1.a<(a0.aq.length:Int))) ((ql k r5.1).bind λr9=>cond (decide (a0.sched.now=a0.sched.now)) (cond (decide (a0.sched.ai=a0.sched.ai)) (cond (decide (a0.sched.age=a0.sched.age)) (cond (decide (a0.sched.run=a0.sched.run)) (cond (decide (a0.sched.left=a0.sched.left)) (cond (decide (a0.sched.turns=a0.sched.turns)) (cond (decide (a0.sched.next=a0.sched.next)) (cond (decide (a0.sched.tasks=a0.sched.tasks)) (cond (decide (a0.ae=a0.ae)) (some ([(⟨(0:Int),a1.a,r9,(⟨(⟨(0:Int),(0:Int),(0:Int)⟩:Shape),([]:List Int)⟩:az)⟩:Event)],a0.ao.set a1.a.toNat r5.1,a0.aq.set a1.a.toNat true)) none) none) none) none) none) none) none) none) none) none) none)))) none)
def iB {ρ:Type} (k:Nat) (p:Int× Int× Int× Int× Int× Int× Int× Int× List Request× List Task× List Model× List Bool) (v:Int× List Request) (next:(Int× List Request)->Option ρ) (x0:(List Request)->Option ρ):Option ρ:=
 cond (decide (v.1<(p.2.2.2.2.2.2.2.2.1.length:Int))) ((idx p.2.2.2.2.2.2.2.2.1 v.1).bind λe1=>cond (e1.id !=p.1) ((idx p.2.2.2.2.2.2.2.2.1 v.1).bind λe2=>cond (Nat.ble (v.2.length+1) aG) (next (i64.wrap (v.1+1),v.2++[e2])) none) (next (i64.wrap (v.1+1),v.2))) (x0 v.2)
def qA (k:Nat) (a0:Runtime) (a1:Int):Option (Int× Int× Int× List Task× Int× Int× Int× Int× List Request):=
 iter (λu5 n5=>iB k (a1,a0.sched.now,a0.sched.ai,a0.sched.age,a0.sched.run,a0.sched.left,a0.sched.turns,a0.sched.next,a0.ae,a0.sched.tasks,a0.ao,a0.aq) u5 n5 (λy3=>(lf k a0.sched a1).bind λr4=>cond (r4.2) (cond (decide (a0.ao=a0.ao)) (cond (decide (a0.aq=a0.aq)) (some (r4.1.now,r4.1.ai,r4.1.age,r4.1.tasks,r4.1.run,r4.1.left,r4.1.turns,r4.1.next,y3)) none) none) (cond (decide (a0.ao=a0.ao)) (cond (decide (a0.aq=a0.aq)) (some (a0.sched.now,a0.sched.ai,a0.sched.age,a0.sched.tasks,a0.sched.run,a0.sched.left,a0.sched.turns,a0.sched.next,y3)) none) none))) k ((0:Int),([]:List Request))
def cX {ρ:Type} (k:Nat) (p:List Request× Int× Int× Int× List Int× Int× Int× Int× List Int× List Model× List Bool) (v:Int× Int× Int× Int× Int× Int× Int× Int× List Event× List Task× List Request) (next:(Int× Int× Int× Int× Int× Int× Int× Int× List Event× List Task× List Request)->Option ρ) (x0:(Int× Int× Int× Int× Int× Int× Int× List Event× List Task× List Request)->Option ρ):Option ρ:=
 cond (decide (v.1<(p.1.length:Int))) ((idx p.1 v.1).bind λe5=>cond (e5.model==p.2.2.1) ((idx p.1 v.1).bind λe6=>(qA k (⟨(⟨v.2.1,v.2.2.1,v.2.2.2.1,v.2.2.2.2.2.2.2.2.2.1,v.2.2.2.2.1,v.2.2.2.2.2.1,v.2.2.2.2.2.2.1,v.2.2.2.2.2.2.2.1⟩:ak),p.2.2.2.2.2.2.2.2.2.1,p.2.2.2.2.2.2.2.2.2.2,v.2.2.2.2.2.2.2.2.2.2⟩:Runtime) e6.id).bind λr7=>(idx p.1 v.1).bind λe8=>cond (Nat.ble (v.2.2.2.2.2.2.2.2.1.length+1) aG) (next (i64.wrap (v.1+1),r7.1,r7.2.1,r7.2.2.1,r7.2.2.2.2.1,r7.2.2.2.2.2.1,r7.2.2.2.2.2.2.1,r7.2.2.2.2.2.2.2.1,v.2.2.2.2.2.2.2.2.1++[(⟨(4:Int),e8.id,(0:Int),(⟨(⟨(0:Int),(0:Int),(0:Int)⟩:Shape),([]:List Int)⟩:az)⟩:Event)],r7.2.2.2.1,r7.2.2.2.2.2.2.2.2)) none) (next (i64.wrap (v.1+1),v.2.1,v.2.2.1,v.2.2.2.1,v.2.2.2.2.1,v.2.2.2.2.2.1,v.2.2.2.2.2.2.1,v.2.2.2.2.2.2.2.1,v.2.2.2.2.2.2.2.2.1,v.2.2.2.2.2.2.2.2.2.1,v.2.2.2.2.2.2.2.2.2.2))) (x0 (v.2.1,v.2.2.1,v.2.2.2.1,v.2.2.2.2.1,v.2.2.2.2.2.1,v.2.2.2.2.2.2.1,v.2.2.2.2.2.2.2.1,v.2.2.2.2.2.2.2.2.1,v.2.2.2.2.2.2.2.2.2.1,v.2.2.2.2.2.2.2.2.2.2))
def l7 (k:Nat) (a0:Runtime) (a1:Step):Option (List Event× Int× Int× Int× List Task× Int× Int× Int× Int× List Model× List Bool× List Request):=
 (bO k a1.a (0:Int) (3:Int)).bind λr1=>cond (!r1) ((bn k a1 (1:Int)).bind λr2=>some (r2,a0.sched.now,a0.sched.ai,a0.sched.age,a0.sched.tasks,a0.sched.run,a0.sched.left,a0.sched.turns,a0.sched.next,a0.ao,a0.aq,a0.ae)) (cond (decide (0<=a1.a/\a1.a<(a0.aq.length:Int))) ((a0.aq[a1.a.toNat]?).bind λe3=>cond (!e3) ((bn k a1 (1:Int)).bind λr4=>some (r4,a0.sched.now,a0.sched.ai,a0.sched.age,a0.sched.tasks,a0.sched.run,a0.sched.left,a0.sched.turns,a0.sched.next,a0.ao,a0.aq,a0.ae)) (iter (λu10 n10=>cX k (a0.ae,a1.kind,a1.a,a1.b,a1.data,a1.input.sh.h,a1.input.sh.w,a1.input.sh.c,a1.input.data,a0.ao,a0.aq) u10 n10 (λy9=>cond (decide (0<=a1.a/\a1.a<(a0.ao.length:Int))) (cond (decide (0<=a1.a/\a1.a<(a0.aq.length:Int))) (cond (Nat.ble (y9.2.2.2.2.2.2.2.1.length+1) aG) (some (y9.2.2.2.2.2.2.2.1++[(⟨(1:Int),a1.a,(0:Int),(⟨(⟨(0:Int),(0:Int),(0:Int)⟩:Shape),([]:List Int)⟩:az)⟩:Event)],y9.1,y9.2.1,y9.2.2.1,y9.2.2.2.2.2.2.2.2.1,y9.2.2.2.1,y9.2.2.2.2.1,y9.2.2.2.2.2.1,y9.2.2.2.2.2.2.1,a0.ao.set a1.a.toNat (⟨(⟨(0:Int),(0:Int),(0:Int)⟩:Shape),([]:List aA)⟩:Model),a0.aq.set a1.a.toNat false,y9.2.2.2.2.2.2.2.2.2)) none) none) none)) k ((0:Int),a0.sched.now,a0.sched.ai,a0.sched.age,a0.sched.run,a0.sched.left,a0.sched.turns,a0.sched.next,([]:List Event),a0.sched.tasks,a0.ae))) none)
def l8 (k:Nat) (a0:Runtime) (a1:Step):Option (List Event× Int× Int× Int× List Task× Int× Int× Int× Int× List Request):=
 (bO k a1.a (0:Int) (3:Int)).bind λr1=>cond (!r1) ((bn k a1 (1:Int)).bind λr2=>cond (decide (a0.ao=a0.ao)) (cond (decide (a0.aq=a0.aq)) (some (r2,a0.sched.now,a0.sched.ai,a0.sched.age,a0.sched.tasks,a0.sched.run,a0.sched.left,a0.sched.turns,a0.sched.next,a0.ae)) none) none) (cond (decide (0<=a1.a/\a1.a<(a0.aq.length:Int))) ((a0.aq[a1.a.toNat]?).bind λe3=>cond (!e3) ((bn k a1 (1:Int)).bind λr4=>cond (decide (a0.ao=a0.ao)) (cond (decide (a0.aq=a0.aq)) (some (r4,a0.sched.now,a0.sched.ai,a0.sched.age,a0.sched.tasks,a0.sched.run,a0.sched.left,a0.sched.turns,a0.sched.next,a0.ae)) none) none) (cond (decide (0<=a1.a/\a1.a<(a0.ao.length:Int))) ((a0.ao[a1.a.toNat]?).bind λe5=>(sS k e5 a1.input).bind λr6=>cond (!r6.2) ((bn k a1 (3:Int)).bind λr7=>cond (decide (a0.ao=a0.ao)) (cond (decide (a0.aq=a0.aq)) (some (r7,a0.sched.now,a0.sched.ai,a0.sched.age,a0.sched.tasks,a0.sched.run,a0.sched.left,a0.sched.turns,a0.sched.next,a0.ae)) none) none) ((ld k a1.b).bind λr8=>cond (!r8) ((bn k a1 (8:Int)).bind λr9=>cond (decide (a0.ao=a0.ao)) (cond (decide (a0.aq=a0.aq)) (some (r9,a0.sched.now,a0.sched.ai,a0.sched.age,a0.sched.tasks,a0.sched.run,a0.sched.left,a0.sched.turns,a0.sched.next,a0.ae)) none) none) ((k7 k r6.1.model).bind λr10=>(Fy k a0.sched r10 (i64.wrap (a0.sched.now+a1.b))).bind λr11=>cond (r11.2.2 !=0) ((bn k a1 (i64.wrap ((3:Int)+r11.2.2))).bind λr12=>cond (decide (a0.ao=a0.ao)) (cond (decide (a0.aq=a0.aq)) (some (r12,a0.sched.now,a0.sched.ai,a0.sched.age,a0.sched.tasks,a0.sched.run,a0.sched.left,a0.sched.turns,a0.sched.next,a0.ae)) none) none) (cond (Nat.ble (a0.ae.length+1) aG) (cond (decide (0<=(i64.wrap (((a0.ae++[(⟨r11.2.1,a1.a,r6.1,(i64.wrap (a0.sched.now+a1.b))⟩:Request)]).length:Int)-(1:Int)))/\(i64.wrap (((a0.ae++[(⟨r11.2.1,a1.a,r6.1,(i64.wrap (a0.sched.now+a1.b))⟩:Request)]).length:Int)-(1:Int)))<((a0.ae++[(⟨r11.2.1,a1.a,r6.1,(i64.wrap (a0.sched.now+a1.b))⟩:Request)]).length:Int))) (((a0.ae++[(⟨r11.2.1,a1.a,r6.1,(i64.wrap (a0.sched.now+a1.b))⟩:Request)])[(i64.wrap (((a0.ae++[(⟨r11.2.1,a1.a,r6.1,(i64.wrap (a0.sched.now+a1.b))⟩:Request)]).length:Int)-(1:Int))).toNat]?).bind λe13=>cond (decide (a0.ao=a0.ao)) (cond (decide (a0.aq=a0.aq)) (some ([(⟨(2:Int),r11.2.1,e13.due,(⟨(⟨(0:Int),(0:Int),(0:Int)⟩:Shape),([]:List Int)⟩:az)⟩:Event)],r11.1.now,r11.1.ai,r11.1.age,r11.1.tasks,r11.1.run,r11.1.left,r11.1.turns,r11.1.next,a0.ae++[(⟨r11.2.1,a1.a,r6.1,(i64.wrap (a0.sched.now+a1.b))⟩:Request)])) none) none) none) none)))) none)) none)
def tb {ρ:Type} (k:Nat) (p:Int× Int× Int× Int× List Task× Int× Int× Int× Int× List Model× List Bool× List Request) (v:Int) (next:Int->Option ρ) (x0:Unit->Option ρ) (dE:Int->Option ρ):Option ρ:=
 cond (decide (v<(p.2.2.2.2.2.2.2.2.2.2.2.length:Int))) ((idx p.2.2.2.2.2.2.2.2.2.2.2 v).bind λe1=>cond (e1.id==p.1) (dE v) (next (i64.wrap (v+1)))) (x0 ())
def BJ (k:Nat) (a0:Runtime) (a1:Int):Option (Int):=
 iter (λu4 n4=>tb k (a1,a0.sched.now,a0.sched.ai,a0.sched.age,a0.sched.tasks,a0.sched.run,a0.sched.left,a0.sched.turns,a0.sched.next,a0.ao,a0.aq,a0.ae) u4 n4 (λy2=>some (-1:Int)) (λy3=>some y3)) k (0:Int)
def gH {ρ:Type} (k:Nat) (p:Int× Int× Int× Int× Int× Int× Int× Int× List Task× List Model× List Bool× List Request) (v:Int× List Request) (next:(Int× List Request)->Option ρ) (x0:(List Request)->Option ρ):Option ρ:=
 cond (decide (v.1<(p.2.2.2.2.2.2.2.2.2.2.2.length:Int))) (cond (decide (0<=v.1/\v.1<(p.2.2.2.2.2.2.2.2.2.2.2.length:Int))) ((p.2.2.2.2.2.2.2.2.2.2.2[v.1.toNat]?).bind λe1=>cond (e1.id !=p.1) (cond (decide (0<=v.1/\v.1<(p.2.2.2.2.2.2.2.2.2.2.2.length:Int))) ((p.2.2.2.2.2.2.2.2.2.2.2[v.1.toNat]?).bind λe2=>cond (Nat.ble (v.2.length+1) aG) (next (i64.wrap (v.1+1),v.2++[e2])) none) none) (next (i64.wrap (v.1+1),v.2))) none) (x0 v.2)
def lj (k:Nat) (a0:Runtime) (a1:Int):Option (Int× Int× Int× List Task× Int× Int× Int× Int× List Request):=
 iter (λu5 n5=>gH k (a1,a0.sched.now,a0.sched.ai,a0.sched.age,a0.sched.run,a0.sched.left,a0.sched.turns,a0.sched.next,a0.sched.tasks,a0.ao,a0.aq,a0.ae) u5 n5 (λy3=>(lf k a0.sched a1).bind λr4=>cond (r4.2) (cond (decide (a0.ae=a0.ae)) (cond (decide (a0.ao=a0.ao)) (cond (decide (a0.aq=a0.aq)) (some (r4.1.now,r4.1.ai,r4.1.age,r4.1.tasks,r4.1.run,r4.1.left,r4.1.turns,r4.1.next,y3)) none) none) none) (cond (decide (a0.ae=a0.ae)) (cond (decide (a0.ao=a0.ao)) (cond (decide (a0.aq=a0.aq)) (some (a0.sched.now,a0.sched.ai,a0.sched.age,a0.sched.tasks,a0.sched.run,a0.sched.left,a0.sched.turns,a0.sched.next,y3)) none) none) none))) k ((0:Int),([]:List Request))
def dv {ρ:Type} (k:Nat) (p:Bool× Int× Int× Int× List Int× Int× Int× Int× List Int× List Model× List Bool) (v:Int× Int× Int× Int× Int× Int× Int× Int× List Event× List Task× List Request) (next:(Int× Int× Int× Int× Int× Int× Int× Int× List Event× List Task× List Request)->Option ρ) (x0:(List Event× Int× Int× Int× Int× Int× Int× Int× List Task× List Request)->Option ρ):Option ρ:=
 cond (decide (v.1<p.2.2.1)) ((qy k (⟨v.2.1,v.2.2.1,v.2.2.2.1,v.2.2.2.2.2.2.2.2.2.1,v.2.2.2.2.1,v.2.2.2.2.2.1,v.2.2.2.2.2.2.1,v.2.2.2.2.2.2.2.1⟩:ak) p.1).bind λr3=>cond (r3.2.1==0) (next (i64.wrap (v.1+1),r3.1.now,r3.1.ai,r3.1.age,r3.1.run,r3.1.left,r3.1.turns,r3.1.next,v.2.2.2.2.2.2.2.2.1,r3.1.tasks,v.2.2.2.2.2.2.2.2.2.2)) ((BJ k (⟨r3.1,p.2.2.2.2.2.2.2.2.2.1,p.2.2.2.2.2.2.2.2.2.2,v.2.2.2.2.2.2.2.2.2.2⟩:Runtime) r3.2.1).bind λr4=>cond (decide (0<=r4/\r4<(v.2.2.2.2.2.2.2.2.2.2.length:Int))) ((v.2.2.2.2.2.2.2.2.2.2[r4.toNat]?).bind λe5=>(vR k e5.job).bind λr6=>cond (decide (0<=r4/\r4<(v.2.2.2.2.2.2.2.2.2.2.length:Int))) ((v.2.2.2.2.2.2.2.2.2.2[r4.toNat]?).bind λe7=>cond (r3.2.2) ((lj k (⟨r3.1,p.2.2.2.2.2.2.2.2.2.1,p.2.2.2.2.2.2.2.2.2.2,(v.2.2.2.2.2.2.2.2.2.2.set r4.toNat (⟨e7.id,e7.model,r6.1,e7.due⟩:Request))⟩:Runtime) r3.2.1).bind λr8=>cond (Nat.ble (v.2.2.2.2.2.2.2.2.1.length+1) aG) (next (i64.wrap (v.1+1),r8.1,r8.2.1,r8.2.2.1,r8.2.2.2.2.1,r8.2.2.2.2.2.1,r8.2.2.2.2.2.2.1,r8.2.2.2.2.2.2.2.1,v.2.2.2.2.2.2.2.2.1++[(⟨(3:Int),r3.2.1,r3.1.now,r6.1.act⟩:Event)],r8.2.2.2.1,r8.2.2.2.2.2.2.2.2)) none) (next (i64.wrap (v.1+1),r3.1.now,r3.1.ai,r3.1.age,r3.1.run,r3.1.left,r3.1.turns,r3.1.next,v.2.2.2.2.2.2.2.2.1,r3.1.tasks,v.2.2.2.2.2.2.2.2.2.2.set r4.toNat (⟨e7.id,e7.model,r6.1,e7.due⟩:Request)))) none) none)) (x0 (v.2.2.2.2.2.2.2.2.1,v.2.1,v.2.2.1,v.2.2.2.1,v.2.2.2.2.1,v.2.2.2.2.2.1,v.2.2.2.2.2.2.1,v.2.2.2.2.2.2.2.1,v.2.2.2.2.2.2.2.2.2.1,v.2.2.2.2.2.2.2.2.2.2))
def gI (k:Nat) (a0:Runtime) (a1:Step) (a2:Bool):Option (List Event× Int× Int× Int× List Task× Int× Int× Int× Int× List Request):=
 (bO k a1.a (0:Int) (200:Int)).bind λr1=>cond (!r1) ((bn k a1 (8:Int)).bind λr2=>cond (decide (a0.ao=a0.ao)) (cond (decide (a0.aq=a0.aq)) (some (r2,a0.sched.now,a0.sched.ai,a0.sched.age,a0.sched.tasks,a0.sched.run,a0.sched.left,a0.sched.turns,a0.sched.next,a0.ae)) none) none) (iter (λu10 n10=>dv k (a2,a1.kind,a1.a,a1.b,a1.data,a1.input.sh.h,a1.input.sh.w,a1.input.sh.c,a1.input.data,a0.ao,a0.aq) u10 n10 (λy9=>cond (decide (a0.ao=a0.ao)) (cond (decide (a0.aq=a0.aq)) (some (y9.1,y9.2.1,y9.2.2.1,y9.2.2.2.1,y9.2.2.2.2.2.2.2.2.1,y9.2.2.2.2.1,y9.2.2.2.2.2.1,y9.2.2.2.2.2.2.1,y9.2.2.2.2.2.2.2.1,y9.2.2.2.2.2.2.2.2.2)) none) none)) k ((0:Int),a0.sched.now,a0.sched.ai,a0.sched.age,a0.sched.run,a0.sched.left,a0.sched.turns,a0.sched.next,([]:List Event),a0.sched.tasks,a0.ae))
def ng (k:Nat) (a0:Runtime) (a1:Step):Option (List Event× Int× Int× Int× List Task× Int× Int× Int× Int× List Model× List Bool× List Request):=
 cond (a1.kind==0) ((qz k a0 a1).bind λr1=>some (r1.1,a0.sched.now,a0.sched.ai,a0.sched.age,a0.sched.tasks,a0.sched.run,a0.sched.left,a0.sched.turns,a0.sched.next,r1.2.1,r1.2.2,a0.ae)) (cond (a1.kind==1) ((l7 k a0 a1).bind λr2=>some (r2.1,r2.2.1,r2.2.2.1,r2.2.2.2.1,r2.2.2.2.2.1,r2.2.2.2.2.2.1,r2.2.2.2.2.2.2.1,r2.2.2.2.2.2.2.2.1,r2.2.2.2.2.2.2.2.2.1,r2.2.2.2.2.2.2.2.2.2.1,r2.2.2.2.2.2.2.2.2.2.2.1,r2.2.2.2.2.2.2.2.2.2.2.2)) (cond (a1.kind==2) ((l8 k a0 a1).bind λr3=>some (r3.1,r3.2.1,r3.2.2.1,r3.2.2.2.1,r3.2.2.2.2.1,r3.2.2.2.2.2.1,r3.2.2.2.2.2.2.1,r3.2.2.2.2.2.2.2.1,r3.2.2.2.2.2.2.2.2.1,a0.ao,a0.aq,r3.2.2.2.2.2.2.2.2.2)) (cond (a1.kind==3) ((BJ k a0 a1.a).bind λr4=>cond (decide (r4<0)) ((bn k a1 (7:Int)).bind λr5=>some (r5,a0.sched.now,a0.sched.ai,a0.sched.age,a0.sched.tasks,a0.sched.run,a0.sched.left,a0.sched.turns,a0.sched.next,a0.ao,a0.aq,a0.ae)) ((lj k a0 a1.a).bind λr6=>some ([(⟨(4:Int),a1.a,(0:Int),(⟨(⟨(0:Int),(0:Int),(0:Int)⟩:Shape),([]:List Int)⟩:az)⟩:Event)],r6.1,r6.2.1,r6.2.2.1,r6.2.2.2.1,r6.2.2.2.2.1,r6.2.2.2.2.2.1,r6.2.2.2.2.2.2.1,r6.2.2.2.2.2.2.2.1,a0.ao,a0.aq,r6.2.2.2.2.2.2.2.2))) (cond (a1.kind==4) ((gI k a0 a1 false).bind λr7=>some (r7.1,r7.2.1,r7.2.2.1,r7.2.2.2.1,r7.2.2.2.2.1,r7.2.2.2.2.2.1,r7.2.2.2.2.2.2.1,r7.2.2.2.2.2.2.2.1,r7.2.2.2.2.2.2.2.2.1,a0.ao,a0.aq,r7.2.2.2.2.2.2.2.2.2)) (cond (a1.kind==5) ((gI k a0 a1 true).bind λr8=>some (r8.1,r8.2.1,r8.2.2.1,r8.2.2.2.1,r8.2.2.2.2.1,r8.2.2.2.2.2.1,r8.2.2.2.2.2.2.1,r8.2.2.2.2.2.2.2.1,r8.2.2.2.2.2.2.2.2.1,a0.ao,a0.aq,r8.2.2.2.2.2.2.2.2.2)) ((bn k a1 (8:Int)).bind λr9=>some (r9,a0.sched.now,a0.sched.ai,a0.sched.age,a0.sched.tasks,a0.sched.run,a0.sched.left,a0.sched.turns,a0.sched.next,a0.ao,a0.aq,a0.ae)))))))
def oq (k:Nat) (a0:Int) (a1:Int):Option (Runtime× Bool):=
 (s9 k a0 a1).bind λr1=>cond (!r1.2) (some ((⟨(⟨(0:Int),(0:Int),(0:Int),([]:List Task),(0:Int),(0:Int),(0:Int),(0:Int)⟩:ak),([]:List Model),([]:List Bool),([]:List Request)⟩:Runtime),false)) (some ((⟨r1.1,(List.replicate ((4:Int).toNat) (⟨(⟨(0:Int),(0:Int),(0:Int)⟩:Shape),([]:List aA)⟩:Model)),(List.replicate ((4:Int).toNat) false),([]:List Request)⟩:Runtime),true))
def ek (k:Nat) (a0:Int) (a1:Int):Option (List Event):=
 some [(⟨(5:Int),a0,a1,(⟨(⟨(0:Int),(0:Int),(0:Int)⟩:Shape),([]:List Int)⟩:az)⟩:Event)]
def eV (k:Nat) (a0:Reader):Option (aA× Int× Bool):=
 (au k a0).bind λr1=>(au k (⟨a0.b,r1.2.1,r1.2.2⟩:Reader)).bind λr2=>(au k (⟨a0.b,r2.2.1,r2.2.2⟩:Reader)).bind λr3=>(au k (⟨a0.b,r3.2.1,r3.2.2⟩:Reader)).bind λr4=>(au k (⟨a0.b,r4.2.1,r4.2.2⟩:Reader)).bind λr5=>(au k (⟨a0.b,r5.2.1,r5.2.2⟩:Reader)).bind λr6=>(au k (⟨a0.b,r6.2.1,r6.2.2⟩:Reader)).bind λr7=>(bj k (⟨a0.b,r7.2.1,r7.2.2⟩:Reader) (2000:Int)).bind λr8=>(bj k (⟨a0.b,r8.2.1,r8.2.2⟩:Reader) (2000:Int)).bind λr9=>cond (decide (a0.b=a0.b)) (some ((⟨r1.1,r2.1,r3.1,r4.1,r5.1,r6.1,r7.1,r8.1,r9.1⟩:aA),r9.2.1,r9.2.2)) none
def dO {ρ:Type} (k:Nat) (p:List Int× Int× Int× Int× List Int× Int× Int× Int) (v:Int× Int× Bool× List aA) (next:(Int× Int× Bool× List aA)->Option ρ) (x1:(Int× Bool× List aA)->Option ρ):Option ρ:=
 cond (decide (v.1>0)) (cond (!v.2.2.1) ((eV k (⟨p.2.2.2.2.1,v.2.1,v.2.2.1⟩:Reader)).bind λr4=>cond (Nat.ble (v.2.2.2.length+1) aG) (next (i64.wrap (v.1-1),r4.2.1,r4.2.2,v.2.2.2++[r4.1])) none) (x1 (v.2.1,v.2.2.1,v.2.2.2))) (x1 (v.2.1,v.2.2.1,v.2.2.2))
def l9 (k:Nat) (a0:List Int):Option (Model× Int):=
 cond (decide ((a0.length:Int)>(6000:Int))) (some ((⟨(⟨(0:Int),(0:Int),(0:Int)⟩:Shape),([]:List aA)⟩:Model),(5:Int))) ((eA k a0 [(80:Int),(77:Int),(49:Int)]).bind λr1=>cond (!r1) (some ((⟨(⟨(0:Int),(0:Int),(0:Int)⟩:Shape),([]:List aA)⟩:Model),(1:Int))) ((dJ k (⟨a0,(3:Int),false⟩:Reader)).bind λr2=>(cz k (⟨a0,r2.2.1,r2.2.2⟩:Reader) (2000:Int)).bind λr3=>iter (λu9 n9=>dO k (a0,(0:Int),(0:Int),(0:Int),a0,r2.1.h,r2.1.w,r2.1.c) u9 n9 (λy5=>(au k (⟨a0,y5.1,y5.2.1⟩:Reader)).bind λr6=>cond (r6.2.2) (some ((⟨(⟨(0:Int),(0:Int),(0:Int)⟩:Shape),([]:List aA)⟩:Model),(2:Int))) (cond (decide (0<=y5.1/\y5.1<=(a0.length:Int))) ((lK k ((a0.take y5.1.toNat).drop 0)).bind λr7=>cond (r6.1 !=r7) (some ((⟨(⟨(0:Int),(0:Int),(0:Int)⟩:Shape),([]:List aA)⟩:Model),(3:Int))) (cond (r6.2.1 !=(a0.length:Int)) (some ((⟨(⟨(0:Int),(0:Int),(0:Int)⟩:Shape),([]:List aA)⟩:Model),(3:Int))) ((mV k (⟨r2.1,y5.2.2⟩:Model)).bind λr8=>cond (!r8) (some ((⟨(⟨(0:Int),(0:Int),(0:Int)⟩:Shape),([]:List aA)⟩:Model),(4:Int))) (some ((⟨r2.1,y5.2.2⟩:Model),(0:Int)))))) none))) k (r3.1,r3.2.1,r3.2.2,([]:List aA))))
def rV (k:Nat) (a0:Int):Option (Bool):=
 some (decide (a0>1000))
def bw {ρ:Type} (k:Nat) (p:List Int× Int) (v:Int) (next:Int->Option ρ) (x0:Unit->Option ρ) (dE:Int->Option ρ):Option ρ:=
 cond (decide (v<p.2)) ((idx p.1 v).bind λe1=>(rV k e1).bind λr2=>cond (r2) (dE v) (next (i64.wrap (v+1)))) (x0 ())
def cD (k:Nat) (a0:List Int):Option (Int):=
 iter (λu5 n5=>bw k (a0,(a0.length:Int)) u5 n5 (λy3=>some (-1:Int)) (λy4=>some y4)) k (0:Int)
def ca (k:Nat) (a0:List Int):Option (Bool):=
 (cD k a0).bind λr1=>some (decide (r1>=0))
def vZ (k:Nat) (a0:Model):Option (Bool):=
 (k9 k a0).bind λr1=>(ca k r1).bind λr2=>some (!r2)
def hY (k:Nat) (a0:Runtime) (a1:Step):Option (List Event× List Model× List Bool):=
 (tP k a1.a (0:Int) (3:Int)).bind λr1=>cond (!r1) ((ek k a1.kind (1:Int)).bind λr2=>cond (decide (a0.sched.now=a0.sched.now)) (cond (decide (a0.sched.ai=a0.sched.ai)) (cond (decide (a0.sched.age=a0.sched.age)) (cond (decide (a0.sched.run=a0.sched.run)) (cond (decide (a0.sched.left=a0.sched.left)) (cond (decide (a0.sched.turns=a0.sched.turns)) (cond (decide (a0.sched.next=a0.sched.next)) (cond (decide (a0.sched.tasks=a0.sched.tasks)) (cond (decide (a0.ae=a0.ae)) (some (r2,a0.ao,a0.aq)) none) none) none) none) none) none) none) none) none) (cond (decide (0<=a1.a/\a1.a<(a0.aq.length:Int))) ((a0.aq[a1.a.toNat]?).bind λe3=>cond (e3) ((ek k a1.kind (1:Int)).bind λr4=>cond (decide (a0.sched.now=a0.sched.now)) (cond (decide (a0.sched.ai=a0.sched.ai)) (cond (decide (a0.sched.age=a0.sched.age)) (cond (decide (a0.sched.run=a0.sched.run)) (cond (decide (a0.sched.left=a0.sched.left)) (cond (decide (a0.sched.turns=a0.sched.turns)) (cond (decide (a0.sched.next=a0.sched.next)) (cond (decide (a0.sched.tasks=a0.sched.tasks)) (cond (decide (a0.ae=a0.ae)) (some (r4,a0.ao,a0.aq)) none) none) none) none) none) none) none) none) none) ((l9 k a1.data).bind λr5=>cond (r5.2 !=0) ((ek k a1.kind (2:Int)).bind λr6=>cond (decide (a0.sched.now=a0.sched.now)) (cond (decide (a0.sched.ai=a0.sched.ai)) (cond (decide (a0.sched.age=a0.sched.age)) (cond (decide (a0.sched.run=a0.sched.run)) (cond (decide (a0.sched.left=a0.sched.left)) (cond (decide (a0.sched.turns=a0.sched.turns)) (cond (decide (a0.sched.next=a0.sched.next)) (cond (decide (a0.sched.tasks=a0.sched.tasks)) (cond (decide (a0.ae=a0.ae)) (some (r6,a0.ao,a0.aq)) none) none) none) none) none) none) none) none) none) ((vZ k r5.1).bind λr7=>cond (!r7) ((ek k a1.kind (2:Int)).bind λr8=>cond (decide (a0.sched.now=a0.sched.now)) (cond (decide (a0.sched.ai=a0.sched.ai)) (cond (decide (a0.sched.age=a0.sched.age)) (cond (decide (a0.sched.run=a0.sched.run)) (cond (decide (a0.sched.left=a0.sched.left)) (cond (decide (a0.sched.turns=a0.sched.turns)) (cond (decide (a0.sched.next=a0.sched.next)) (cond (decide (a0.sched.tasks=a0.sched.tasks)) (cond (decide (a0.ae=a0.ae)) (some (r8,a0.ao,a0.aq)) none) none) none) none) none) none) none) none) none) (cond (decide (0<=a1.a/\a1.a<(a0.ao.length:Int))) (cond (decide (0<=a1.a/\a1.a<(a0.aq.length:Int))) ((qm k r5.1).bind λr9=>cond (decide (a0.sched.now=a0.sched.now)) (cond (decide (a0.sched.ai=a0.sched.ai)) (cond (decide (a0.sched.age=a0.sched.age)) (cond (decide (a0.sched.run=a0.sched.run)) (cond (decide (a0.sched.left=a0.sched.left)) (cond (decide (a0.sched.turns=a0.sched.turns)) (cond (decide (a0.sched.next=a0.sched.next)) (cond (decide (a0.sched.tasks=a0.sched.tasks)) (cond (decide (a0.ae=a0.ae)) (some ([(⟨(0:Int),a1.a,r9,(⟨(⟨(0:Int),(0:Int),(0:Int)⟩:Shape),([]:List Int)⟩:az)⟩:Event)],a0.ao.set a1.a.toNat r5.1,a0.aq.set a1.a.toNat true)) none) none) none) none) none) none) none) none) none) none) none)))) none)
def eW (k:Nat) (a0:Runtime) (a1:Int):Option (Bool):=
 (tP k a1 (0:Int) (3:Int)).bind λr1=>cond (r1) ((idx a0.aq a1).bind λe2=>some e2) (some false)
def b9 (k:Nat) (a0:List Request):Option (List Request):=
 cond (isNil a0) (both (cond (decide (a0=a0)) (some ([]:List Request)) none) (cond (Nat.ble (([]:List Request).length+a0.length) aG) (cond (decide (a0=a0)) (some (([]:List Request)++a0)) none) none)) (cond (Nat.ble (([]:List Request).length+a0.length) aG) (cond (decide (a0=a0)) (some (([]:List Request)++a0)) none) none)
def dA (k:Nat) (ke:Int) (lD:Int) (lE:Int) (pL:List dY) (BI:Int) (FB:Int) (xE:Int) (om:Int) (uA:List Model) (uB:List Bool) (iO:List Request) (a1:Int):Option (List dY× Int× Int):=
 (bz k pL a1).bind λr1=>cond (BI==a1) (cond (decide (ke=ke)) (cond (decide (lD=lD)) (cond (decide (lE=lE)) (cond (decide (xE=xE)) (cond (decide (om=om)) (cond (decide (uA=uA)) (cond (decide (uB=uB)) (cond (decide (iO=iO)) (some (r1,(0:Int),(0:Int))) none) none) none) none) none) none) none) none) (cond (decide (ke=ke)) (cond (decide (lD=lD)) (cond (decide (lE=lE)) (cond (decide (xE=xE)) (cond (decide (om=om)) (cond (decide (uA=uA)) (cond (decide (uB=uB)) (cond (decide (iO=iO)) (some (r1,BI,FB)) none) none) none) none) none) none) none) none)
def il (k:Nat) (a0:Request) (Fz:Int):Option (Bool):=
 cond (decide (Fz=Fz)) (some (a0.id==Fz)) none
def gJ (k:Nat) (a0:Request) (Fz:Int):Option (Bool):=
 cond (decide (Fz=Fz)) (some (a0.id==Fz)) none
def bo {ρ:Type} (k:Nat) (p:Int× List Request× Int) (v:Int) (next:Int->Option ρ) (x0:Unit->Option ρ) (dE:Int->Option ρ):Option ρ:=
 cond (decide (v<p.1)) (cond (decide (0<=v/\v<(p.2.1.length:Int))) ((p.2.1[v.toNat]?).bind λe1=>(il k e1 p.2.2).bind λr2=>cond (r2) (dE v) (next (i64.wrap (v+1)))) none) (x0 ())
def bK (k:Nat) (a0:List Request) (dD:Int):Option (Int):=
 iter (λu5 n5=>bo k ((a0.length:Int),a0,dD) u5 n5 (λy3=>cond (decide (a0=a0)) (cond (decide (dD=dD)) (some (-1:Int)) none) none) (λy4=>cond (decide (a0=a0)) (cond (decide (dD=dD)) (some y4) none) none)) k (0:Int)
def aQ {ρ:Type} (k:Nat) (p:Int) (v:Int× Int× List Request) (next:(Int× Int× List Request)->Option ρ) (x0:(Int× List Request)->Option ρ):Option ρ:=
 cond (decide (v.2.1<(v.2.2.length:Int))) (cond (decide (0<=v.2.1/\v.2.1<(v.2.2.length:Int))) ((v.2.2[v.2.1.toNat]?).bind λe2=>(gJ k e2 p).bind λr3=>cond (!r3) (cond (decide (0<=v.1/\v.1<(v.2.2.length:Int))) (next (i64.wrap (v.1+1),i64.wrap (v.2.1+1),v.2.2.set v.1.toNat e2)) none) (next (v.1,i64.wrap (v.2.1+1),v.2.2))) none) (x0 (v.1,v.2.2))
def bE (k:Nat) (a0:List Request) (dD:Int):Option (List Request):=
 (bK k a0 dD).bind λr1=>cond (r1==(-1:Int)) (cond (decide (dD=dD)) (some a0) none) (iter (λu5 n5=>aQ k dD u5 n5 (λy4=>cond (decide (0<=y4.1/\y4.1<=(y4.2.length:Int))) (cond (decide (0<=y4.1/\y4.1<=(((y4.2).take y4.1.toNat++List.replicate (y4.2.length-y4.1.toNat) (⟨(0:Int),(0:Int),(⟨(⟨(⟨(0:Int),(0:Int),(0:Int)⟩:Shape),([]:List aA)⟩:Model),(0:Int),(⟨(⟨(0:Int),(0:Int),(0:Int)⟩:Shape),([]:List Int)⟩:az),(0:Int)⟩:Job),(0:Int)⟩:Request)++(y4.2).drop (y4.1.toNat+(y4.2.length-y4.1.toNat))).length:Int))) (cond (decide (dD=dD)) (some (((y4.2).take y4.1.toNat++List.replicate (y4.2.length-y4.1.toNat) (⟨(0:Int),(0:Int),(⟨(⟨(⟨(0:Int),(0:Int),(0:Int)⟩:Shape),([]:List aA)⟩:Model),(0:Int),(⟨(⟨(0:Int),(0:Int),(0:Int)⟩:Shape),([]:List Int)⟩:az),(0:Int)⟩:Job),(0:Int)⟩:Request)++(y4.2).drop (y4.1.toNat+(y4.2.length-y4.1.toNat))).take (y4.1.toNat-0))) none) none) none)) k (r1,i64.wrap (r1+1),a0))
def eu (k:Nat) (a0:Runtime) (a1:Int):Option (Event× List Task× Int× Int× List Request):=
 (lJ a0.sched.tasks).bind λy1=>(dA k a0.sched.now a0.sched.ai a0.sched.age y1 a0.sched.run a0.sched.left a0.sched.turns a0.sched.next a0.ao a0.aq a0.ae a1).bind λr2=>cond (j8 r2.1) ((qS a0.sched.tasks r2.1).bind λz3=>(bE k a0.ae a1).bind λr4=>cond (decide (a0.sched.now=a0.sched.now)) (cond (decide (a0.sched.ai=a0.sched.ai)) (cond (decide (a0.sched.age=a0.sched.age)) (cond (decide (a0.sched.turns=a0.sched.turns)) (cond (decide (a0.sched.next=a0.sched.next)) (cond (decide (a0.ao=a0.ao)) (cond (decide (a0.aq=a0.aq)) (some ((⟨(4:Int),a1,(0:Int),(⟨(⟨(0:Int),(0:Int),(0:Int)⟩:Shape),[]⟩:az)⟩:Event),z3,r2.2.1,r2.2.2,r4)) none) none) none) none) none) none) none) none
def bF {ρ:Type} (k:Nat) (p:Int× Int× Int× Int× Int× Int× Int× Int× Int× List Int× Int× Int× Int× List Int× List Request× List Model× List Bool) (v:Int× Int× Int× List Event× List Task× List Request) (next:(Int× Int× Int× List Event× List Task× List Request)->Option ρ) (x0:(Int× Int× List Event× List Task× List Request)->Option ρ):Option ρ:=
 cond (decide (v.1<p.1)) (cond (decide (0<=v.1/\v.1<(p.2.2.2.2.2.2.2.2.2.2.2.2.2.2.1.length:Int))) ((p.2.2.2.2.2.2.2.2.2.2.2.2.2.2.1[v.1.toNat]?).bind λe4=>cond (e4.model==p.2.2.2.2.2.2.2.1) ((eu k (⟨(⟨p.2.1,p.2.2.1,p.2.2.2.1,v.2.2.2.2.1,v.2.1,v.2.2.1,p.2.2.2.2.1,p.2.2.2.2.2.1⟩:ak),p.2.2.2.2.2.2.2.2.2.2.2.2.2.2.2.1,p.2.2.2.2.2.2.2.2.2.2.2.2.2.2.2.2,v.2.2.2.2.2⟩:Runtime) e4.id).bind λr5=>cond (Nat.ble (v.2.2.2.1.length+1) aG) (next (i64.wrap (v.1+1),r5.2.2.1,r5.2.2.2.1,v.2.2.2.1++[(⟨r5.1.kind,r5.1.a,r5.1.b,(⟨r5.1.out.sh,([]:List Int)⟩:az)⟩:Event)],r5.2.1,r5.2.2.2.2)) none) (next (i64.wrap (v.1+1),v.2.1,v.2.2.1,v.2.2.2.1,v.2.2.2.2.1,v.2.2.2.2.2))) none) (x0 (v.2.1,v.2.2.1,v.2.2.2.1,v.2.2.2.2.1,v.2.2.2.2.2))
def fQ (k:Nat) (a0:Runtime) (a1:Step):Option (List Event× List Task× Int× Int× List Model× List Bool× List Request):=
 (eW k a0 a1.a).bind λr1=>cond (!r1) ((ek k a1.kind (1:Int)).bind λr2=>cond (decide (a0.sched.now=a0.sched.now)) (cond (decide (a0.sched.ai=a0.sched.ai)) (cond (decide (a0.sched.age=a0.sched.age)) (cond (decide (a0.sched.turns=a0.sched.turns)) (cond (decide (a0.sched.next=a0.sched.next)) (some (r2,a0.sched.tasks,a0.sched.run,a0.sched.left,a0.ao,a0.aq,a0.ae)) none) none) none) none) none) ((b9 k a0.ae).bind λr3=>iter (λu7 n7=>bF k ((r3.length:Int),a0.sched.now,a0.sched.ai,a0.sched.age,a0.sched.turns,a0.sched.next,a1.kind,a1.a,a1.b,a1.data,a1.input.sh.h,a1.input.sh.w,a1.input.sh.c,a1.input.data,r3,a0.ao,a0.aq) u7 n7 (λy6=>cond (decide (0<=a1.a/\a1.a<(a0.ao.length:Int))) (cond (decide (0<=a1.a/\a1.a<(a0.aq.length:Int))) (cond (Nat.ble (y6.2.2.1.length+1) aG) (cond (decide (a0.sched.now=a0.sched.now)) (cond (decide (a0.sched.ai=a0.sched.ai)) (cond (decide (a0.sched.age=a0.sched.age)) (cond (decide (a0.sched.turns=a0.sched.turns)) (cond (decide (a0.sched.next=a0.sched.next)) (some (y6.2.2.1++[(⟨(1:Int),a1.a,(0:Int),(⟨(⟨(0:Int),(0:Int),(0:Int)⟩:Shape),([]:List Int)⟩:az)⟩:Event)],y6.2.2.2.1,y6.1,y6.2.1,a0.ao.set a1.a.toNat (⟨(⟨(0:Int),(0:Int),(0:Int)⟩:Shape),([]:List aA)⟩:Model),a0.aq.set a1.a.toNat false,y6.2.2.2.2)) none) none) none) none) none) none) none) none)) k ((0:Int),a0.sched.run,a0.sched.left,([]:List Event),a0.sched.tasks,a0.ae))
def fR (k:Nat) (a0:Runtime) (a1:Step):Option (List Event× Int× Int× Int× List Task× Int× Int× Int× Int× List Request):=
 (eW k a0 a1.a).bind λr1=>cond (!r1) ((ek k a1.kind (1:Int)).bind λr2=>cond (decide (a0.ao=a0.ao)) (cond (decide (a0.aq=a0.aq)) (some (r2,a0.sched.now,a0.sched.ai,a0.sched.age,a0.sched.tasks,a0.sched.run,a0.sched.left,a0.sched.turns,a0.sched.next,a0.ae)) none) none) (cond (decide (0<=a1.a/\a1.a<(a0.ao.length:Int))) ((a0.ao[a1.a.toNat]?).bind λe3=>(sT k e3 a1.input).bind λr4=>cond (!r4.2) ((ek k a1.kind (3:Int)).bind λr5=>cond (decide (a0.ao=a0.ao)) (cond (decide (a0.aq=a0.aq)) (some (r5,a0.sched.now,a0.sched.ai,a0.sched.age,a0.sched.tasks,a0.sched.run,a0.sched.left,a0.sched.turns,a0.sched.next,a0.ae)) none) none) ((oh k a1.b).bind λr6=>cond (!r6) ((ek k a1.kind (8:Int)).bind λr7=>cond (decide (a0.ao=a0.ao)) (cond (decide (a0.aq=a0.aq)) (some (r7,a0.sched.now,a0.sched.ai,a0.sched.age,a0.sched.tasks,a0.sched.run,a0.sched.left,a0.sched.turns,a0.sched.next,a0.ae)) none) none) ((k9 k r4.1.model).bind λr8=>(FA k a0.sched r8 (i64.wrap (a0.sched.now+a1.b))).bind λr9=>cond (r9.2.2 !=0) ((ek k a1.kind (i64.wrap ((3:Int)+r9.2.2))).bind λr10=>cond (decide (a0.ao=a0.ao)) (cond (decide (a0.aq=a0.aq)) (some (r10,a0.sched.now,a0.sched.ai,a0.sched.age,a0.sched.tasks,a0.sched.run,a0.sched.left,a0.sched.turns,a0.sched.next,a0.ae)) none) none) (cond (Nat.ble (a0.ae.length+1) aG) (cond (decide (a0.ao=a0.ao)) (cond (decide (a0.aq=a0.aq)) (some ([(⟨(2:Int),r9.2.1,(i64.wrap (a0.sched.now+a1.b)),(⟨(⟨(0:Int),(0:Int),(0:Int)⟩:Shape),([]:List Int)⟩:az)⟩:Event)],r9.1.now,r9.1.ai,r9.1.age,r9.1.tasks,r9.1.run,r9.1.left,r9.1.turns,r9.1.next,a0.ae++[(⟨r9.2.1,a1.a,r4.1,(i64.wrap (a0.sched.now+a1.b))⟩:Request)])) none) none) none)))) none)
def iP (k:Nat) (a0:Request) (Fz:Int):Option (Bool):=
 cond (decide (Fz=Fz)) (some (a0.id==Fz)) none
def bp {ρ:Type} (k:Nat) (p:List Request× Int× Int) (v:Int) (next:Int->Option ρ) (x0:Unit->Option ρ) (dE:Int->Option ρ):Option ρ:=
 cond (decide (v<p.2.1)) ((idx p.1 v).bind λe1=>(iP k e1 p.2.2).bind λr2=>cond (r2) (dE v) (next (i64.wrap (v+1)))) (x0 ())
def bL (k:Nat) (a0:List Request) (dD:Int):Option (Int):=
 iter (λu5 n5=>bp k (a0,(a0.length:Int),dD) u5 n5 (λy3=>cond (decide (dD=dD)) (some (-1:Int)) none) (λy4=>cond (decide (dD=dD)) (some y4) none)) k (0:Int)
def iC (k:Nat) (a0:Runtime) (a1:Int):Option (Int):=
 (bL k a0.ae a1).bind λr1=>some r1
def iQ (k:Nat) (a0:Runtime) (a1:Step):Option (List Event× List Task× Int× Int× List Request):=
 (iC k a0 a1.a).bind λr1=>cond (decide (r1<0)) ((ek k a1.kind (7:Int)).bind λr2=>cond (decide (a0.sched.now=a0.sched.now)) (cond (decide (a0.sched.ai=a0.sched.ai)) (cond (decide (a0.sched.age=a0.sched.age)) (cond (decide (a0.sched.turns=a0.sched.turns)) (cond (decide (a0.sched.next=a0.sched.next)) (cond (decide (a0.ao=a0.ao)) (cond (decide (a0.aq=a0.aq)) (some (r2,a0.sched.tasks,a0.sched.run,a0.sched.left,a0.ae)) none) none) none) none) none) none) none) ((eu k a0 a1.a).bind λr3=>cond (decide (a0.sched.now=a0.sched.now)) (cond (decide (a0.sched.ai=a0.sched.ai)) (cond (decide (a0.sched.age=a0.sched.age)) (cond (decide (a0.sched.turns=a0.sched.turns)) (cond (decide (a0.sched.next=a0.sched.next)) (cond (decide (a0.ao=a0.ao)) (cond (decide (a0.aq=a0.aq)) (some ([(⟨r3.1.kind,r3.1.a,r3.1.b,(⟨r3.1.out.sh,([]:List Int)⟩:az)⟩:Event)],r3.2.1,r3.2.2.1,r3.2.2.2.1,r3.2.2.2.2)) none) none) none) none) none) none) none)
def ia (k:Nat) (ke:Int) (lD:Int) (lE:Int) (pL:List Task) (BI:Int) (FB:Int) (xE:Int) (om:Int) (uA:List Model) (uB:List Bool) (iO:List Request):Option (Bool× Int× Int× Int):=
 (lg k (⟨ke,lD,lE,pL,BI,FB,xE,om⟩:ak)).bind λr1=>cond (r1==0) (cond (decide (ke=ke)) (cond (decide (lD=lD)) (cond (decide (lE=lE)) (cond (decide (om=om)) (cond (decide (pL=pL)) (cond (decide (uA=uA)) (cond (decide (uB=uB)) (cond (decide (iO=iO)) (some (false,BI,FB,xE)) none) none) none) none) none) none) none) none) ((dz k (⟨ke,lD,lE,pL,BI,FB,xE,om⟩:ak) r1).bind λr2=>cond (decide (0<=r2/\r2<(pL.length:Int))) ((pL[r2.toNat]?).bind λe3=>(idx e3.av e3.at_).bind λe4=>cond (decide ((i64.wrap (xE+1))>1000000)) (cond (decide (ke=ke)) (cond (decide (lD=lD)) (cond (decide (lE=lE)) (cond (decide (om=om)) (cond (decide (pL=pL)) (cond (decide (uA=uA)) (cond (decide (uB=uB)) (cond (decide (iO=iO)) (some (true,r1,e4,(0:Int))) none) none) none) none) none) none) none) none) (cond (decide (ke=ke)) (cond (decide (lD=lD)) (cond (decide (lE=lE)) (cond (decide (om=om)) (cond (decide (pL=pL)) (cond (decide (uA=uA)) (cond (decide (uB=uB)) (cond (decide (iO=iO)) (some (true,r1,e4,i64.wrap (xE+1))) none) none) none) none) none) none) none) none)) none)
def fZ (k:Nat) (ke:Int) (lD:Int) (lE:Int) (pL:List Task) (BI:Int) (FB:Int) (xE:Int) (om:Int) (uA:List Model) (uB:List Bool) (iO:List Request) (a1:Bool):Option ((Int× Bool)× Int× List Task× Int× Int× Int):=
 cond (!a1) (cond (BI !=0) (cond (decide ((i64.wrap (FB-1))>0)) (cond (decide (lD=lD)) (cond (decide (lE=lE)) (cond (decide (om=om)) (cond (decide (uA=uA)) (cond (decide (uB=uB)) (cond (decide (iO=iO)) (some (((0:Int),false),i64.wrap (ke+1),pL,BI,i64.wrap (FB-1),xE)) none) none) none) none) none) none) ((dz k (⟨(i64.wrap (ke+1)),lD,lE,pL,BI,(i64.wrap (FB-1)),xE,om⟩:ak) BI).bind λr1=>cond (decide (0<=r1/\r1<(pL.length:Int))) ((pL[r1.toNat]?).bind λe2=>(pL[r1.toNat]?).bind λe3=>((pL.set r1.toNat (⟨e3.id,e3.av,(i64.wrap (e2.at_+1)),e3.due,e3.born⟩:Task))[r1.toNat]?).bind λe4=>((pL.set r1.toNat (⟨e3.id,e3.av,(i64.wrap (e2.at_+1)),e3.due,e3.born⟩:Task))[r1.toNat]?).bind λe5=>cond (decide (e4.at_<(e5.av.length:Int))) (cond (decide (lD=lD)) (cond (decide (lE=lE)) (cond (decide (om=om)) (cond (decide (uA=uA)) (cond (decide (uB=uB)) (cond (decide (iO=iO)) (some ((BI,false),i64.wrap (ke+1),pL.set r1.toNat (⟨e3.id,e3.av,(i64.wrap (e2.at_+1)),e3.due,e3.born⟩:Task),(0:Int),i64.wrap (FB-1),xE)) none) none) none) none) none) none) ((lJ (pL.set r1.toNat (⟨e3.id,e3.av,(i64.wrap (e2.at_+1)),e3.due,e3.born⟩:Task))).bind λy6=>(dA k (i64.wrap (ke+1)) lD lE y6 (0:Int) (i64.wrap (FB-1)) xE om uA uB iO BI).bind λr7=>cond (j8 r7.1) ((qS (pL.set r1.toNat (⟨e3.id,e3.av,(i64.wrap (e2.at_+1)),e3.due,e3.born⟩:Task)) r7.1).bind λz8=>cond (decide (lD=lD)) (cond (decide (lE=lE)) (cond (decide (om=om)) (cond (decide (uA=uA)) (cond (decide (uB=uB)) (cond (decide (iO=iO)) (some ((BI,true),i64.wrap (ke+1),z8,r7.2.1,r7.2.2,xE)) none) none) none) none) none) none) none)) none)) ((ia k ke lD lE pL BI FB xE om uA uB iO).bind λr9=>cond (!r9.1) (cond (decide (lD=lD)) (cond (decide (lE=lE)) (cond (decide (om=om)) (cond (decide (uA=uA)) (cond (decide (uB=uB)) (cond (decide (iO=iO)) (some (((0:Int),false),i64.wrap (ke+1),pL,r9.2.1,r9.2.2.1,r9.2.2.2)) none) none) none) none) none) none) (cond (decide ((i64.wrap (r9.2.2.1-1))>0)) (cond (decide (lD=lD)) (cond (decide (lE=lE)) (cond (decide (om=om)) (cond (decide (uA=uA)) (cond (decide (uB=uB)) (cond (decide (iO=iO)) (some (((0:Int),false),i64.wrap (ke+1),pL,r9.2.1,i64.wrap (r9.2.2.1-1),r9.2.2.2)) none) none) none) none) none) none) ((dz k (⟨(i64.wrap (ke+1)),lD,lE,pL,r9.2.1,(i64.wrap (r9.2.2.1-1)),r9.2.2.2,om⟩:ak) r9.2.1).bind λr10=>cond (decide (0<=r10/\r10<(pL.length:Int))) ((pL[r10.toNat]?).bind λe11=>(pL[r10.toNat]?).bind λe12=>((pL.set r10.toNat (⟨e12.id,e12.av,(i64.wrap (e11.at_+1)),e12.due,e12.born⟩:Task))[r10.toNat]?).bind λe13=>((pL.set r10.toNat (⟨e12.id,e12.av,(i64.wrap (e11.at_+1)),e12.due,e12.born⟩:Task))[r10.toNat]?).bind λe14=>cond (decide (e13.at_<(e14.av.length:Int))) (cond (decide (lD=lD)) (cond (decide (lE=lE)) (cond (decide (om=om)) (cond (decide (uA=uA)) (cond (decide (uB=uB)) (cond (decide (iO=iO)) (some ((r9.2.1,false),i64.wrap (ke+1),pL.set r10.toNat (⟨e12.id,e12.av,(i64.wrap (e11.at_+1)),e12.due,e12.born⟩:Task),(0:Int),i64.wrap (r9.2.2.1-1),r9.2.2.2)) none) none) none) none) none) none) ((lJ (pL.set r10.toNat (⟨e12.id,e12.av,(i64.wrap (e11.at_+1)),e12.due,e12.born⟩:Task))).bind λy15=>(dA k (i64.wrap (ke+1)) lD lE y15 (0:Int) (i64.wrap (r9.2.2.1-1)) r9.2.2.2 om uA uB iO r9.2.1).bind λr16=>cond (j8 r16.1) ((qS (pL.set r10.toNat (⟨e12.id,e12.av,(i64.wrap (e11.at_+1)),e12.due,e12.born⟩:Task)) r16.1).bind λz17=>cond (decide (lD=lD)) (cond (decide (lE=lE)) (cond (decide (om=om)) (cond (decide (uA=uA)) (cond (decide (uB=uB)) (cond (decide (iO=iO)) (some ((r9.2.1,true),i64.wrap (ke+1),z17,r16.2.1,r16.2.2,r9.2.2.2)) none) none) none) none) none) none) none)) none)))) (cond (decide (lD=lD)) (cond (decide (lE=lE)) (cond (decide (om=om)) (cond (decide (uA=uA)) (cond (decide (uB=uB)) (cond (decide (iO=iO)) (some (((0:Int),false),i64.wrap (ke+1),pL,BI,FB,xE)) none) none) none) none) none) none)
def kH (k:Nat) (a0x:Nat) (a0:List Request):Option (List Request):=
 (a0[a0x]?).bind λe1=>(a0[a0x]?).bind λe2=>(sX k e2.job).bind λr3=>(a0[a0x]?).bind λe4=>((a0.set a0x (⟨e4.id,e4.model,(⟨e4.job.model,e4.job.at_,e4.job.act,(i64.wrap (e1.job.jQ+r3))⟩:Job),e4.due⟩:Request))[a0x]?).bind λe5=>((a0.set a0x (⟨e4.id,e4.model,(⟨e4.job.model,e4.job.at_,e4.job.act,(i64.wrap (e1.job.jQ+r3))⟩:Job),e4.due⟩:Request))[a0x]?).bind λe6=>((a0.set a0x (⟨e4.id,e4.model,(⟨e4.job.model,e4.job.at_,e4.job.act,(i64.wrap (e1.job.jQ+r3))⟩:Job),e4.due⟩:Request))[a0x]?).bind λe7=>(idx e6.job.model.aF e7.job.at_).bind λe8=>(sZ k e5.job.act e8).bind λr9=>((a0.set a0x (⟨e4.id,e4.model,(⟨e4.job.model,e4.job.at_,e4.job.act,(i64.wrap (e1.job.jQ+r3))⟩:Job),e4.due⟩:Request))[a0x]?).bind λe10=>(((a0.set a0x (⟨e4.id,e4.model,(⟨e4.job.model,e4.job.at_,e4.job.act,(i64.wrap (e1.job.jQ+r3))⟩:Job),e4.due⟩:Request)).set a0x (⟨e10.id,e10.model,(⟨e10.job.model,e10.job.at_,r9.1,e10.job.jQ⟩:Job),e10.due⟩:Request))[a0x]?).bind λe11=>(((a0.set a0x (⟨e4.id,e4.model,(⟨e4.job.model,e4.job.at_,e4.job.act,(i64.wrap (e1.job.jQ+r3))⟩:Job),e4.due⟩:Request)).set a0x (⟨e10.id,e10.model,(⟨e10.job.model,e10.job.at_,r9.1,e10.job.jQ⟩:Job),e10.due⟩:Request))[a0x]?).bind λe12=>some (((a0.set a0x (⟨e4.id,e4.model,(⟨e4.job.model,e4.job.at_,e4.job.act,(i64.wrap (e1.job.jQ+r3))⟩:Job),e4.due⟩:Request)).set a0x (⟨e10.id,e10.model,(⟨e10.job.model,e10.job.at_,r9.1,e10.job.jQ⟩:Job),e10.due⟩:Request)).set a0x (⟨e12.id,e12.model,(⟨e12.job.model,(i64.wrap (e11.job.at_+1)),e12.job.act,e12.job.jQ⟩:Job),e12.due⟩:Request))
def bW (k:Nat) (a0:List Request) (a1:Int) (a2:Int):Option (List Request):=
 cond (decide (0<=(a0.length:Int)/\(a0.length:Int)<=(a0.length:Int))) (cond (decide (0<=a2/\a2<=((a0.length:Int).toNat:Int))) (cond (decide (0<=a1/\a1<=(a2.toNat:Int))) (cond (a1==a2) (some a0) (cond (decide (0<=a1/\a1<=(a0.length:Int))) (cond (decide (0<=a2/\a2<=(a0.length:Int))) (cond (Nat.ble ((a1.toNat-0)+(a0.length-a2.toNat)) a0.length&&(Nat.ble (a2.toNat+(a0.length-a2.toNat)) a0.length&&Nat.ble 1 a0.length)) (cond (decide (0<=(a0.length:Int)/\(a0.length:Int)<=(((a0.take (a1.toNat-0)++(a0.drop a2.toNat).take (a0.length-a2.toNat)++a0.drop ((a1.toNat-0)+(a0.length-a2.toNat))).length-0:Nat):Int))) (cond (decide (0<=(((a1.toNat-0)+(a0.length-a2.toNat):Nat):Int)/\(((a1.toNat-0)+(a0.length-a2.toNat):Nat):Int)<=((a0.length:Int).toNat:Int))) (some (((a0.take (a1.toNat-0)++(a0.drop a2.toNat).take (a0.length-a2.toNat)++a0.drop ((a1.toNat-0)+(a0.length-a2.toNat))).take (0+((((a1.toNat-0)+(a0.length-a2.toNat):Nat):Int).toNat))++List.replicate (((a0.length:Int).toNat)-((((a1.toNat-0)+(a0.length-a2.toNat):Nat):Int).toNat)) (⟨(0:Int),(0:Int),(⟨(⟨(⟨(0:Int),(0:Int),(0:Int)⟩:Shape),([]:List aA)⟩:Model),(0:Int),(⟨(⟨(0:Int),(0:Int),(0:Int)⟩:Shape),([]:List Int)⟩:az),(0:Int)⟩:Job),(0:Int)⟩:Request)++(a0.take (a1.toNat-0)++(a0.drop a2.toNat).take (a0.length-a2.toNat)++a0.drop ((a1.toNat-0)+(a0.length-a2.toNat))).drop ((0+((((a1.toNat-0)+(a0.length-a2.toNat):Nat):Int).toNat))+(((a0.length:Int).toNat)-((((a1.toNat-0)+(a0.length-a2.toNat):Nat):Int).toNat)))).take ((a1.toNat-0)+(a0.length-a2.toNat)))) none) none) none) none) none)) none) none) none
def bB {ρ:Type} (k:Nat) (p:Int× Int× Int× Int× Int× Int× Int× List Int× Int× Int× Int× List Int× List Model× List Bool) (v:Int× Int× Int× Int× Int× List Event× List Task× List Request) (next:(Int× Int× Int× Int× Int× List Event× List Task× List Request)->Option ρ) (x0:(List Event× Int× Int× Int× Int× List Task× List Request)->Option ρ):Option ρ:=
 cond (decide (v.1<p.1)) (cond (v.2.1==1000000) (x0 (v.2.2.2.2.2.1,v.2.1,v.2.2.1,v.2.2.2.1,v.2.2.2.2.1,v.2.2.2.2.2.2.1,v.2.2.2.2.2.2.2)) ((fZ k v.2.1 p.2.1 p.2.2.1 v.2.2.2.2.2.2.1 v.2.2.1 v.2.2.2.1 v.2.2.2.2.1 p.2.2.2.1 p.2.2.2.2.2.2.2.2.2.2.2.2.1 p.2.2.2.2.2.2.2.2.2.2.2.2.2 v.2.2.2.2.2.2.2 (p.2.2.2.2.1==5)).bind λr3=>cond (r3.1.1==0) (next (i64.wrap (v.1+1),r3.2.1,r3.2.2.2.1,r3.2.2.2.2.1,r3.2.2.2.2.2,v.2.2.2.2.2.1,r3.2.2.1,v.2.2.2.2.2.2.2)) ((iC k (⟨(⟨r3.2.1,p.2.1,p.2.2.1,r3.2.2.1,r3.2.2.2.1,r3.2.2.2.2.1,r3.2.2.2.2.2,p.2.2.2.1⟩:ak),p.2.2.2.2.2.2.2.2.2.2.2.2.1,p.2.2.2.2.2.2.2.2.2.2.2.2.2,v.2.2.2.2.2.2.2⟩:Runtime) r3.1.1).bind λr4=>cond (decide (0<=r4/\r4<(v.2.2.2.2.2.2.2.length:Int))) ((kH k r4.toNat v.2.2.2.2.2.2.2).bind λr5=>cond (r3.1.2) (cond (decide (0<=r4/\r4<(r5.length:Int))) ((r5[r4.toNat]?).bind λe6=>cond (Nat.ble (v.2.2.2.2.2.1.length+1) aG) ((bW k r5 r4 (i64.wrap (r4+1))).bind λr7=>next (i64.wrap (v.1+1),r3.2.1,r3.2.2.2.1,r3.2.2.2.2.1,r3.2.2.2.2.2,v.2.2.2.2.2.1++[(⟨(3:Int),r3.1.1,r3.2.1,e6.job.act⟩:Event)],r3.2.2.1,r7)) none) none) (next (i64.wrap (v.1+1),r3.2.1,r3.2.2.2.1,r3.2.2.2.2.1,r3.2.2.2.2.2,v.2.2.2.2.2.1,r3.2.2.1,r5))) none))) (x0 (v.2.2.2.2.2.1,v.2.1,v.2.2.1,v.2.2.2.1,v.2.2.2.2.1,v.2.2.2.2.2.2.1,v.2.2.2.2.2.2.2))
def gd (k:Nat) (a0:Runtime) (a1:Step):Option (List Event× Int× List Task× Int× Int× Int× List Request):=
 (tP k a1.a (0:Int) (200:Int)).bind λr1=>cond (!r1) ((ek k a1.kind (8:Int)).bind λr2=>cond (decide (a0.sched.ai=a0.sched.ai)) (cond (decide (a0.sched.age=a0.sched.age)) (cond (decide (a0.sched.next=a0.sched.next)) (cond (decide (a0.ao=a0.ao)) (cond (decide (a0.aq=a0.aq)) (some (r2,a0.sched.now,a0.sched.tasks,a0.sched.run,a0.sched.left,a0.sched.turns,a0.ae)) none) none) none) none) none) (iter (λu9 n9=>bB k (a1.a,a0.sched.ai,a0.sched.age,a0.sched.next,a1.kind,a1.a,a1.b,a1.data,a1.input.sh.h,a1.input.sh.w,a1.input.sh.c,a1.input.data,a0.ao,a0.aq) u9 n9 (λy8=>cond (decide (a0.sched.ai=a0.sched.ai)) (cond (decide (a0.sched.age=a0.sched.age)) (cond (decide (a0.sched.next=a0.sched.next)) (cond (decide (a0.ao=a0.ao)) (cond (decide (a0.aq=a0.aq)) (some (y8.1,y8.2.1,y8.2.2.2.2.2.1,y8.2.2.1,y8.2.2.2.1,y8.2.2.2.2.1,y8.2.2.2.2.2.2)) none) none) none) none) none)) k ((0:Int),a0.sched.now,a0.sched.run,a0.sched.left,a0.sched.turns,([]:List Event),a0.sched.tasks,a0.ae))
def gK (k:Nat) (a0:Runtime) (a1:Step):Option (List Event× Int× Int× Int× List Task× Int× Int× Int× Int× List Model× List Bool× List Request):=
 cond (a1.kind==0) ((hY k a0 a1).bind λr1=>some (r1.1,a0.sched.now,a0.sched.ai,a0.sched.age,a0.sched.tasks,a0.sched.run,a0.sched.left,a0.sched.turns,a0.sched.next,r1.2.1,r1.2.2,a0.ae)) (cond (a1.kind==1) ((fQ k a0 a1).bind λr2=>some (r2.1,a0.sched.now,a0.sched.ai,a0.sched.age,r2.2.1,r2.2.2.1,r2.2.2.2.1,a0.sched.turns,a0.sched.next,r2.2.2.2.2.1,r2.2.2.2.2.2.1,r2.2.2.2.2.2.2)) (cond (a1.kind==2) ((fR k a0 a1).bind λr3=>some (r3.1,r3.2.1,r3.2.2.1,r3.2.2.2.1,r3.2.2.2.2.1,r3.2.2.2.2.2.1,r3.2.2.2.2.2.2.1,r3.2.2.2.2.2.2.2.1,r3.2.2.2.2.2.2.2.2.1,a0.ao,a0.aq,r3.2.2.2.2.2.2.2.2.2)) (cond (a1.kind==3) ((iQ k a0 a1).bind λr4=>some (r4.1,a0.sched.now,a0.sched.ai,a0.sched.age,r4.2.1,r4.2.2.1,r4.2.2.2.1,a0.sched.turns,a0.sched.next,a0.ao,a0.aq,r4.2.2.2.2)) (cond (a1.kind==4) ((gd k a0 a1).bind λr5=>some (r5.1,r5.2.1,a0.sched.ai,a0.sched.age,r5.2.2.1,r5.2.2.2.1,r5.2.2.2.2.1,r5.2.2.2.2.2.1,a0.sched.next,a0.ao,a0.aq,r5.2.2.2.2.2.2)) (cond (a1.kind==5) ((gd k a0 a1).bind λr6=>some (r6.1,r6.2.1,a0.sched.ai,a0.sched.age,r6.2.2.1,r6.2.2.2.1,r6.2.2.2.2.1,r6.2.2.2.2.2.1,a0.sched.next,a0.ao,a0.aq,r6.2.2.2.2.2.2)) ((ek k a1.kind (8:Int)).bind λr7=>some (r7,a0.sched.now,a0.sched.ai,a0.sched.age,a0.sched.tasks,a0.sched.run,a0.sched.left,a0.sched.turns,a0.sched.next,a0.ao,a0.aq,a0.ae)))))))
end
end Go.Proofs.Ev
set_option maxRecDepth 100000
set_option maxHeartbeats 4000000
namespace Go.Proofs.Ev
open IntKind(i64 u8 u64)
noncomputable section
end
end Go.Proofs.Ev
set_option maxRecDepth 100000
set_option maxHeartbeats 4000000
namespace Go.Proofs.Ev
open IntKind(i64 u8 u64)
noncomputable section
end
end Go.Proofs.Ev
set_option maxRecDepth 100000
set_option maxHeartbeats 4000000
namespace Go.Proofs.Ev
open IntKind(i64 u8 u64)
noncomputable section
end
end Go.Proofs.Ev
set_option maxRecDepth 100000
set_option maxHeartbeats 4000000
namespace Go.Proofs.Ev
open IntKind(i64 u8 u64)
noncomputable section
end
end Go.Proofs.Ev
set_option maxRecDepth 100000
set_option maxHeartbeats 4000000
namespace Go.Proofs.Ev
open IntKind(i64 u8 u64)
noncomputable section
def eP {ρ:Type} (k:Nat) (p:List Step× Int× List Event× Int× Int× Int× Int× Int× Int× Int× Int× Int× Int× Int× Int× Int× Int× List Request× List Task× List Model× List Bool× List Request) (v:Int× List Event) (next:(Int× List Event)->Option ρ) (x2:(List Event)->Option ρ):Option ρ:=
 cond (decide (v.1<(p.2.2.1.length:Int))) ((idx p.2.2.1 v.1).bind λe4=>cond (Nat.ble (v.2.length+1) aG) (next (i64.wrap (v.1+1),v.2++[e4])) none) (x2 v.2)
def dP {ρ:Type} (k:Nat) (p:List Step× Int× Int× Int× Int× Int× Int× Int× List Request) (v:Int× Int× Int× Int× Int× Int× Int× Int× List Event× List Task× List Model× List Bool× List Request) (next:(Int× Int× Int× Int× Int× Int× Int× Int× List Event× List Task× List Model× List Bool× List Request)->Option ρ) (x0:(Int× Int× Int× Int× Int× Int× Int× List Event× List Task× List Model× List Bool× List Request)->Option ρ):Option ρ:=
 cond (decide (v.1<(p.1.length:Int))) ((idx p.1 v.1).bind λe2=>(ng k (⟨(⟨v.2.1,v.2.2.1,v.2.2.2.1,v.2.2.2.2.2.2.2.2.2.1,v.2.2.2.2.1,v.2.2.2.2.2.1,v.2.2.2.2.2.2.1,v.2.2.2.2.2.2.2.1⟩:ak),v.2.2.2.2.2.2.2.2.2.2.1,v.2.2.2.2.2.2.2.2.2.2.2.1,v.2.2.2.2.2.2.2.2.2.2.2.2⟩:Runtime) e2).bind λr3=>iter (λu6 n6=>eP k (p.1,v.1,r3.1,p.2.1,p.2.2.1,p.2.2.2.1,p.2.2.2.2.1,p.2.2.2.2.2.1,p.2.2.2.2.2.2.1,p.2.2.2.2.2.2.2.1,r3.2.1,r3.2.2.1,r3.2.2.2.1,r3.2.2.2.2.2.1,r3.2.2.2.2.2.2.1,r3.2.2.2.2.2.2.2.1,r3.2.2.2.2.2.2.2.2.1,p.2.2.2.2.2.2.2.2,r3.2.2.2.2.1,r3.2.2.2.2.2.2.2.2.2.1,r3.2.2.2.2.2.2.2.2.2.2.1,r3.2.2.2.2.2.2.2.2.2.2.2) u6 n6 (λy5=>next (i64.wrap (v.1+1),r3.2.1,r3.2.2.1,r3.2.2.2.1,r3.2.2.2.2.2.1,r3.2.2.2.2.2.2.1,r3.2.2.2.2.2.2.2.1,r3.2.2.2.2.2.2.2.2.1,y5,r3.2.2.2.2.1,r3.2.2.2.2.2.2.2.2.2.1,r3.2.2.2.2.2.2.2.2.2.2.1,r3.2.2.2.2.2.2.2.2.2.2.2))) k ((0:Int),v.2.2.2.2.2.2.2.2.1)) (x0 (v.2.1,v.2.2.1,v.2.2.2.1,v.2.2.2.2.1,v.2.2.2.2.2.1,v.2.2.2.2.2.2.1,v.2.2.2.2.2.2.2.1,v.2.2.2.2.2.2.2.2.1,v.2.2.2.2.2.2.2.2.2.1,v.2.2.2.2.2.2.2.2.2.2.1,v.2.2.2.2.2.2.2.2.2.2.2.1,v.2.2.2.2.2.2.2.2.2.2.2.2))
def jJ (k:Nat) (a0:Int) (a1:Int) (a2:List Step):Option (Runtime× List Event× Bool):=
 (oo k a0 a1).bind λr1=>cond (!r1.2) (some ((⟨(⟨(0:Int),(0:Int),(0:Int),([]:List Task),(0:Int),(0:Int),(0:Int),(0:Int)⟩:ak),([]:List Model),([]:List Bool),([]:List Request)⟩:Runtime),([]:List Event),false)) (cond (decide ((a2.length:Int)>(200:Int))) (some ((⟨(⟨(0:Int),(0:Int),(0:Int),([]:List Task),(0:Int),(0:Int),(0:Int),(0:Int)⟩:ak),([]:List Model),([]:List Bool),([]:List Request)⟩:Runtime),([]:List Event),false)) (iter (λu8 n8=>dP k (a2,(0:Int),(0:Int),(0:Int),(0:Int),(0:Int),(0:Int),(0:Int),([]:List Request)) u8 n8 (λy7=>some ((⟨(⟨y7.1,y7.2.1,y7.2.2.1,y7.2.2.2.2.2.2.2.2.1,y7.2.2.2.1,y7.2.2.2.2.1,y7.2.2.2.2.2.1,y7.2.2.2.2.2.2.1⟩:ak),y7.2.2.2.2.2.2.2.2.2.1,y7.2.2.2.2.2.2.2.2.2.2.1,y7.2.2.2.2.2.2.2.2.2.2.2⟩:Runtime),y7.2.2.2.2.2.2.2.1,true))) k ((0:Int),r1.1.sched.now,r1.1.sched.ai,r1.1.sched.age,r1.1.sched.run,r1.1.sched.left,r1.1.sched.turns,r1.1.sched.next,([]:List Event),r1.1.sched.tasks,r1.1.ao,r1.1.aq,r1.1.ae)))
end
end Go.Proofs.Ev
set_option maxRecDepth 100000
set_option maxHeartbeats 4000000
namespace Go.Proofs.Ev
open IntKind(i64 u8 u64)
noncomputable section
def nh {ρ:Type} (k:Nat) (p:Bool) (v:Int× List UInt8) (next:(Int× List UInt8)->Option ρ) (x0:(List UInt8)->Option ρ):Option ρ:=
 cond (v.1 !=0) (cond (decide ((v.1.tmod (10:Int))<0)) (cond (decide ((bytesOf [(u8.wrap (i64.wrap ((48:Int)+(i64.wrap (0-(v.1.tmod (10:Int)))))))]).length+v.2.length<=aG)) (next (i64.wrap (v.1.tdiv (10:Int)),(bytesOf [(u8.wrap (i64.wrap ((48:Int)+(i64.wrap (0-(v.1.tmod (10:Int)))))))])++v.2)) none) (cond (decide ((bytesOf [(u8.wrap (i64.wrap ((48:Int)+(v.1.tmod (10:Int)))))]).length+v.2.length<=aG)) (next (i64.wrap (v.1.tdiv (10:Int)),(bytesOf [(u8.wrap (i64.wrap ((48:Int)+(v.1.tmod (10:Int)))))])++v.2)) none)) (x0 v.2)
def ma (k:Nat) (a0:Int):Option (List UInt8):=
 cond (a0==0) (some ([48]:List UInt8)) (iter (λu2 n2=>nh k (decide (a0<0)) u2 n2 (λy1=>cond (decide (a0<0)) (cond (decide (([45]:List UInt8).length+y1.length<=aG)) (some (([45]:List UInt8)++y1)) none) (some y1))) k (a0,([]:List UInt8)))
def gL {ρ:Type} (k:Nat) (p:Int× Int× Int× List Int) (v:List UInt8× Int) (next:(List UInt8× Int)->Option ρ) (x0:(List UInt8)->Option ρ):Option ρ:=
 cond (decide (v.2<(p.2.2.2.length:Int))) (cond (decide (v.1.length+([32]:List UInt8).length<=aG)) ((idx p.2.2.2 v.2).bind λe5=>(ma k e5).bind λr6=>cond (decide ((v.1++([32]:List UInt8)).length+r6.length<=aG)) (next ((v.1++([32]:List UInt8))++r6,i64.wrap (v.2+1))) none) none) (x0 v.1)
def ot (k:Nat) (a0:az):Option (List UInt8):=
 (j9 k a0).bind λr1=>cond (!r1) (some ([]:List UInt8)) ((ma k a0.sh.h).bind λr2=>cond (decide (r2.length+([120]:List UInt8).length<=aG)) ((ma k a0.sh.w).bind λr3=>cond (decide ((r2++([120]:List UInt8)).length+r3.length<=aG)) (cond (decide (((r2++([120]:List UInt8))++r3).length+([120]:List UInt8).length<=aG)) ((ma k a0.sh.c).bind λr4=>cond (decide ((((r2++([120]:List UInt8))++r3)++([120]:List UInt8)).length+r4.length<=aG)) (cond (decide (((((r2++([120]:List UInt8))++r3)++([120]:List UInt8))++r4).length+([58]:List UInt8).length<=aG)) (iter (λu8 n8=>gL k (a0.sh.h,a0.sh.w,a0.sh.c,a0.data) u8 n8 (λy7=>some y7)) k (((((r2++([120]:List UInt8))++r3)++([120]:List UInt8))++r4)++([58]:List UInt8),(0:Int))) none) none) none) none) none)
def strconv_Itoa (k:Nat) (n:Int):Option (List UInt8):=cond (decide (-9223372036854775808<=n)&&decide (n<=9223372036854775807)) (some (Go.Lib.itoa n)) none
def spacedL:List Int->List UInt8
 |[]=>[]
 |x::l=>32::(Go.Lib.itoa x++spacedL l)
def I_spaced (k:Nat) (l:List Int):Option (List UInt8):=cond (decide (l.length<=2000000)&&l.all λx=>decide (-9223372036854775808<=x)&&decide (x<=9223372036854775807)) (some (spacedL l)) none
def mb (k:Nat) (a0:Shape):Option (List UInt8):=
 (strconv_Itoa k a0.h).bind λr1=>cond (decide (r1.length+([120]:List UInt8).length<=aG)) ((strconv_Itoa k a0.w).bind λr2=>cond (decide ((r1++([120]:List UInt8)).length+r2.length<=aG)) (cond (decide (((r1++([120]:List UInt8))++r2).length+([120]:List UInt8).length<=aG)) ((strconv_Itoa k a0.c).bind λr3=>cond (decide ((((r1++([120]:List UInt8))++r2)++([120]:List UInt8)).length+r3.length<=aG)) (some ((((r1++([120]:List UInt8))++r2)++([120]:List UInt8))++r3)) none) none) none) none
def ou (k:Nat) (a0:az):Option (List UInt8):=
 (mx k a0).bind λr1=>cond (!r1) (some ([]:List UInt8)) ((mb k a0.sh).bind λr2=>cond (decide (r2.length+([58]:List UInt8).length<=aG)) ((I_spaced k a0.data).bind λr3=>cond (decide ((r2++([58]:List UInt8)).length+r3.length<=aG)) (some ((r2++([58]:List UInt8))++r3)) none) none)
end
end Go.Proofs.Ev
set_option maxRecDepth 100000
set_option maxHeartbeats 4000000
namespace Go.Proofs.Ev
open IntKind(i64 u8 u64)
noncomputable section
def iR (k:Nat) (a0:Event):Option (List UInt8):=
 (ma k a0.a).bind λr1=>(ma k a0.b).bind λr2=>cond (a0.kind==0) (cond (decide (([108,111,97,100,32]:List UInt8).length+r1.length<=aG)) (cond (decide ((([108,111,97,100,32]:List UInt8)++r1).length+([32,99,111,115,116,32]:List UInt8).length<=aG)) (cond (decide (((([108,111,97,100,32]:List UInt8)++r1)++([32,99,111,115,116,32]:List UInt8)).length+r2.length<=aG)) (some (((([108,111,97,100,32]:List UInt8)++r1)++([32,99,111,115,116,32]:List UInt8))++r2)) none) none) none) (cond (a0.kind==1) (cond (decide (([100,114,111,112,32]:List UInt8).length+r1.length<=aG)) (some (([100,114,111,112,32]:List UInt8)++r1)) none) (cond (a0.kind==2) (cond (decide (([97,100,109,105,116,32]:List UInt8).length+r1.length<=aG)) (cond (decide ((([97,100,109,105,116,32]:List UInt8)++r1).length+([32,100,117,101,32]:List UInt8).length<=aG)) (cond (decide (((([97,100,109,105,116,32]:List UInt8)++r1)++([32,100,117,101,32]:List UInt8)).length+r2.length<=aG)) (some (((([97,100,109,105,116,32]:List UInt8)++r1)++([32,100,117,101,32]:List UInt8))++r2)) none) none) none) (cond (a0.kind==3) (cond (decide (([100,111,110,101,32]:List UInt8).length+r1.length<=aG)) (cond (decide ((([100,111,110,101,32]:List UInt8)++r1).length+([32,97,116,32]:List UInt8).length<=aG)) (cond (decide (((([100,111,110,101,32]:List UInt8)++r1)++([32,97,116,32]:List UInt8)).length+r2.length<=aG)) (cond (decide ((((([100,111,110,101,32]:List UInt8)++r1)++([32,97,116,32]:List UInt8))++r2).length+([58,32]:List UInt8).length<=aG)) ((ot k a0.out).bind λr3=>cond (decide (((((([100,111,110,101,32]:List UInt8)++r1)++([32,97,116,32]:List UInt8))++r2)++([58,32]:List UInt8)).length+r3.length<=aG)) (some (((((([100,111,110,101,32]:List UInt8)++r1)++([32,97,116,32]:List UInt8))++r2)++([58,32]:List UInt8))++r3)) none) none) none) none) none) (cond (a0.kind==4) (cond (decide (([99,97,110,99,101,108,32]:List UInt8).length+r1.length<=aG)) (some (([99,97,110,99,101,108,32]:List UInt8)++r1)) none) (cond (a0.kind==5) (cond (decide (([114,101,102,117,115,101,32]:List UInt8).length+r1.length<=aG)) (cond (decide ((([114,101,102,117,115,101,32]:List UInt8)++r1).length+([32,99,111,100,101,32]:List UInt8).length<=aG)) (cond (decide (((([114,101,102,117,115,101,32]:List UInt8)++r1)++([32,99,111,100,101,32]:List UInt8)).length+r2.length<=aG)) (some (((([114,101,102,117,115,101,32]:List UInt8)++r1)++([32,99,111,100,101,32]:List UInt8))++r2)) none) none) none) (some ([]:List UInt8)))))))
def gN {ρ:Type} (k:Nat) (p:List Event× List Event) (v:Int) (next:Int->Option ρ) (x0:Unit->Option ρ) (dE:Bool->Option ρ):Option ρ:=
 cond (decide (v<(p.1.length:Int))) ((idx p.1 v).bind λe1=>(iR k e1).bind λr2=>(idx p.2 v).bind λe3=>(iR k e3).bind λr4=>cond (!(r2==r4)) (dE false) (next (i64.wrap (v+1)))) (x0 ())
def ov (k:Nat) (a0:List Event) (a1:List Event):Option (Bool):=
 cond ((a0.length:Int) !=(a1.length:Int)) (some false) (iter (λu7 n7=>gN k (a0,a1) u7 n7 (λy5=>some true) (λy6=>some y6)) k (0:Int))
def ow (k:Nat) (a0:Int) (a1:Int) (a2:List Step):Option (Bool):=
 (vH k a2).bind λr1=>cond (!r1.2) (some false) ((qq k r1.1).bind λr2=>(jJ k a0 a1 a2).bind λr3=>(jJ k a0 a1 r2.1).bind λr4=>cond (r2.2==0) (cond (r3.2.2) (cond (r4.2.2) ((nM k a2 r2.1).bind λr5=>cond (r5==(-1:Int)) ((ov k r3.2.1 r4.2.1).bind λr6=>some r6) (some false)) (some false)) (some false)) (some false))
def dQ {ρ:Type} (k:Nat) (p:List Step× Int× Int× Int× Int× Int× Int× Int× Int× List Request) (v:Int× Int× Int× Int× Int× Int× Int× Int× List Event× List Task× List Model× List Bool× List Request) (next:(Int× Int× Int× Int× Int× Int× Int× Int× List Event× List Task× List Model× List Bool× List Request)->Option ρ) (x0:(Int× Int× Int× Int× Int× Int× Int× List Event× List Task× List Model× List Bool× List Request)->Option ρ):Option ρ:=
 cond (decide (v.1<p.2.1)) ((idx p.1 v.1).bind λe2=>(gK k (⟨(⟨v.2.1,v.2.2.1,v.2.2.2.1,v.2.2.2.2.2.2.2.2.2.1,v.2.2.2.2.1,v.2.2.2.2.2.1,v.2.2.2.2.2.2.1,v.2.2.2.2.2.2.2.1⟩:ak),v.2.2.2.2.2.2.2.2.2.2.1,v.2.2.2.2.2.2.2.2.2.2.2.1,v.2.2.2.2.2.2.2.2.2.2.2.2⟩:Runtime) e2).bind λr3=>cond (Nat.ble (v.2.2.2.2.2.2.2.2.1.length+r3.1.length) aG) (next (i64.wrap (v.1+1),r3.2.1,r3.2.2.1,r3.2.2.2.1,r3.2.2.2.2.2.1,r3.2.2.2.2.2.2.1,r3.2.2.2.2.2.2.2.1,r3.2.2.2.2.2.2.2.2.1,v.2.2.2.2.2.2.2.2.1++r3.1,r3.2.2.2.2.1,r3.2.2.2.2.2.2.2.2.2.1,r3.2.2.2.2.2.2.2.2.2.2.1,r3.2.2.2.2.2.2.2.2.2.2.2)) none) (x0 (v.2.1,v.2.2.1,v.2.2.2.1,v.2.2.2.2.1,v.2.2.2.2.2.1,v.2.2.2.2.2.2.1,v.2.2.2.2.2.2.2.1,v.2.2.2.2.2.2.2.2.1,v.2.2.2.2.2.2.2.2.2.1,v.2.2.2.2.2.2.2.2.2.2.1,v.2.2.2.2.2.2.2.2.2.2.2.1,v.2.2.2.2.2.2.2.2.2.2.2.2))
def jK (k:Nat) (a0:Int) (a1:Int) (a2:List Step):Option (Runtime× List Event× Bool):=
 (oq k a0 a1).bind λr1=>cond (!r1.2) (some ((⟨(⟨(0:Int),(0:Int),(0:Int),([]:List Task),(0:Int),(0:Int),(0:Int),(0:Int)⟩:ak),([]:List Model),([]:List Bool),([]:List Request)⟩:Runtime),([]:List Event),false)) (cond (decide ((a2.length:Int)>(200:Int))) (some ((⟨(⟨(0:Int),(0:Int),(0:Int),([]:List Task),(0:Int),(0:Int),(0:Int),(0:Int)⟩:ak),([]:List Model),([]:List Bool),([]:List Request)⟩:Runtime),([]:List Event),false)) (iter (λu5 n5=>dQ k (a2,(a2.length:Int),(0:Int),(0:Int),(0:Int),(0:Int),(0:Int),(0:Int),(0:Int),([]:List Request)) u5 n5 (λy4=>some ((⟨(⟨y4.1,y4.2.1,y4.2.2.1,y4.2.2.2.2.2.2.2.2.1,y4.2.2.2.1,y4.2.2.2.2.1,y4.2.2.2.2.2.1,y4.2.2.2.2.2.2.1⟩:ak),y4.2.2.2.2.2.2.2.2.2.1,y4.2.2.2.2.2.2.2.2.2.2.1,y4.2.2.2.2.2.2.2.2.2.2.2⟩:Runtime),y4.2.2.2.2.2.2.2.1,true))) k ((0:Int),r1.1.sched.now,r1.1.sched.ai,r1.1.sched.age,r1.1.sched.run,r1.1.sched.left,r1.1.sched.turns,r1.1.sched.next,([]:List Event),r1.1.sched.tasks,r1.1.ao,r1.1.aq,r1.1.ae)))
def iS (k:Nat) (a0:Event):Option (List UInt8):=
 (strconv_Itoa k a0.a).bind λr1=>(strconv_Itoa k a0.b).bind λr2=>cond (a0.kind==0) (cond (decide (([108,111,97,100,32]:List UInt8).length+r1.length<=aG)) (cond (decide ((([108,111,97,100,32]:List UInt8)++r1).length+([32,99,111,115,116,32]:List UInt8).length<=aG)) (cond (decide (((([108,111,97,100,32]:List UInt8)++r1)++([32,99,111,115,116,32]:List UInt8)).length+r2.length<=aG)) (some (((([108,111,97,100,32]:List UInt8)++r1)++([32,99,111,115,116,32]:List UInt8))++r2)) none) none) none) (cond (a0.kind==1) (cond (decide (([100,114,111,112,32]:List UInt8).length+r1.length<=aG)) (some (([100,114,111,112,32]:List UInt8)++r1)) none) (cond (a0.kind==2) (cond (decide (([97,100,109,105,116,32]:List UInt8).length+r1.length<=aG)) (cond (decide ((([97,100,109,105,116,32]:List UInt8)++r1).length+([32,100,117,101,32]:List UInt8).length<=aG)) (cond (decide (((([97,100,109,105,116,32]:List UInt8)++r1)++([32,100,117,101,32]:List UInt8)).length+r2.length<=aG)) (some (((([97,100,109,105,116,32]:List UInt8)++r1)++([32,100,117,101,32]:List UInt8))++r2)) none) none) none) (cond (a0.kind==3) (cond (decide (([100,111,110,101,32]:List UInt8).length+r1.length<=aG)) (cond (decide ((([100,111,110,101,32]:List UInt8)++r1).length+([32,97,116,32]:List UInt8).length<=aG)) (cond (decide (((([100,111,110,101,32]:List UInt8)++r1)++([32,97,116,32]:List UInt8)).length+r2.length<=aG)) (cond (decide ((((([100,111,110,101,32]:List UInt8)++r1)++([32,97,116,32]:List UInt8))++r2).length+([58,32]:List UInt8).length<=aG)) ((ou k a0.out).bind λr3=>cond (decide (((((([100,111,110,101,32]:List UInt8)++r1)++([32,97,116,32]:List UInt8))++r2)++([58,32]:List UInt8)).length+r3.length<=aG)) (some (((((([100,111,110,101,32]:List UInt8)++r1)++([32,97,116,32]:List UInt8))++r2)++([58,32]:List UInt8))++r3)) none) none) none) none) none) (cond (a0.kind==4) (cond (decide (([99,97,110,99,101,108,32]:List UInt8).length+r1.length<=aG)) (some (([99,97,110,99,101,108,32]:List UInt8)++r1)) none) (cond (a0.kind==5) (cond (decide (([114,101,102,117,115,101,32]:List UInt8).length+r1.length<=aG)) (cond (decide ((([114,101,102,117,115,101,32]:List UInt8)++r1).length+([32,99,111,100,101,32]:List UInt8).length<=aG)) (cond (decide (((([114,101,102,117,115,101,32]:List UInt8)++r1)++([32,99,111,100,101,32]:List UInt8)).length+r2.length<=aG)) (some (((([114,101,102,117,115,101,32]:List UInt8)++r1)++([32,99,111,100,101,32]:List UInt8))++r2)) none) none) none) (some ([]:List UInt8)))))))
def gO {ρ:Type} (k:Nat) (p:List Event× List Event× Int) (v:Int) (next:Int->Option ρ) (x0:Unit->Option ρ) (dE:Bool->Option ρ):Option ρ:=
 cond (decide (v<p.2.2)) ((idx p.1 v).bind λe1=>(iS k e1).bind λr2=>(idx p.2.1 v).bind λe3=>(iS k e3).bind λr4=>cond (!(r2==r4)) (dE false) (next (i64.wrap (v+1)))) (x0 ())
def oz (k:Nat) (a0:List Event) (a1:List Event):Option (Bool):=
 iter (λu7 n7=>gO k (a0,a1,if(a1.length:Int)<(a0.length:Int)then(a1.length:Int)else(a0.length:Int)) u7 n7 (λy5=>some ((a0.length:Int)==(a1.length:Int))) (λy6=>some y6)) k (0:Int)
def oA (k:Nat) (a0:Int) (a1:Int) (a2:List Step):Option (Bool):=
 (vJ k a2).bind λr1=>cond (!r1.2) (some false) ((qt k r1.1).bind λr2=>(jK k a0 a1 a2).bind λr3=>(jK k a0 a1 r2.1).bind λr4=>cond (r2.2==0) ((nN k a2 r2.1).bind λr5=>cond (decide (r5<0)) (cond (r3.2.2) (cond (r4.2.2) ((oz k r3.2.1 r4.2.1).bind λr6=>some r6) (some false)) (some false)) (some false)) (some false))
def eD (k:Nat) (a0:Int) (a1:Int) (a2:List Step):Option (Bool):=
 (BB k a2 (1048576:Int)).bind λr1=>cond (decide (r1<0)) (some true) ((rQ k a2).bind λr2=>(ow k a0 a1 r2).bind λr3=>(rQ k a2).bind λr4=>(oA k a0 a1 r4).bind λr5=>cond (!(r5==r3)) (some false) ((rQ k a2).bind λr6=>(BC k r4 r6).bind λr7=>cond (!r7) (some false) (some true)))
end
end Go.Proofs.Ev
set_option maxRecDepth 100000
set_option maxHeartbeats 4000000
namespace Go.Proofs.Ev
open IntKind(i64 u8 u64)
noncomputable section
def rW (k:Nat) (a0:Int):Option (Int):=
 some a0
def BK (k:Nat) (a0:Int) (a1:Int) (VZ:List Int):Option (Int):=
 (idx VZ a0).bind λe1=>(rW k e1).bind λr2=>(idx VZ a1).bind λe3=>(rW k e3).bind λr4=>(du k r2 r4).bind λr5=>cond (decide (VZ=VZ)) (some r5) none
end
end Go.Proofs.Ev
set_option maxRecDepth 100000
set_option maxHeartbeats 4000000
namespace Go.Proofs.Ev
open IntKind(i64 u8 u64)
noncomputable section
def zA (k:Nat) (a0:Mc) (a1:Mc):Option (Int):=
 (du k a0.due a1.due).bind λr1=>some r1
end
end Go.Proofs.Ev
set_option maxRecDepth 100000
set_option maxHeartbeats 4000000
namespace Go.Proofs.Ev
open IntKind(i64 u8 u64)
noncomputable section
end
end Go.Proofs.Ev
set_option maxRecDepth 100000
set_option maxHeartbeats 4000000
namespace Go.Proofs.Ev
open IntKind(i64 u8 u64)
noncomputable section
end
end Go.Proofs.Ev
namespace Go.Proofs
open Go.Shelf
def Tryz.BL:Go.Shelf.Ren:=⟨λ|169=>108|n=>n,λ|70=>140|9=>9|0=>0|72=>142|37=>29|127=>174|3=>3|5=>5|n=>n,λ|n=>n⟩
theorem Tryz.T6:Go.Proofs.Lays.n169 Tryz.prog Tryz.BL:={
 mixed:=by kernel_rfl
 f169:=Tryz.func108.trans (congrArg some (by kernel_rfl))
 t0:=Tryz.underlying0
 a0:=Tryz.isAgg0
 z0:=Tryz.sizeOf0
 v0:=Tryz.zeroValue0
 t3:=Tryz.underlying3
 a3:=Tryz.isAgg3
 z3:=Tryz.sizeOf3
 v3:=Tryz.zeroValue3
 t9:=Tryz.underlying9
 a9:=Tryz.isAgg9
 z9:=Tryz.sizeOf9
 v9:=Tryz.zeroValue9
 t37:=Tryz.underlying29
 a37:=Tryz.isAgg29
 z37:=Tryz.sizeOf29
 v37:=Tryz.zeroValue29
 t70:=Tryz.underlying140
 a70:=Tryz.isAgg140
 z70:=Tryz.sizeOf140
 v70:=Tryz.zeroValue140
 t72:=Tryz.underlying142
 a72:=Tryz.isAgg142
 z72:=Tryz.sizeOf142
 v72:=Tryz.zeroValue142
 t127:=Tryz.underlying174
 a127:=Tryz.isAgg174
 z127:=Tryz.sizeOf174
 v127:=Tryz.zeroValue174}
theorem Tryz.xF:Builder.Extra Tryz.prog Tryz.BL:={
 sizeBuilder:=by kernel_rfl
 liesBuilder:=by kernel_rfl
 t5:=Tryz.underlying5
 a5:=Tryz.isAgg5
 z5:=Tryz.sizeOf5
 v5:=Tryz.zeroValue5
 infoByte:=by kernel_rfl
 cellsByte:=by kernel_rfl
 sizeByte:=by kernel_rfl
 neB5:=by decide}
open Go.RowKit in
theorem Tryz.Builder_String_any (B b:Nat) (l:List UInt8) (w:World) (h:Lib.IsBuilder 142 5 B b (Lib.byteCells l) w) (hBw:B<=w.heap.size):
  Calls Tryz.prog 108 #[.pointer (some ⟨b,0,none⟩)] w λe w'=>e=.returned (.string ⟨l.toArray⟩)/\Below B w w':=Any.Builder_String_any Tryz.T6 Tryz.xF B b l w h hBw
def Tryz.Hz:Go.Shelf.Ren:=⟨λ|171=>64|243=>106|246=>146|283=>179|284=>180|285=>181|286=>182|129=>225|317=>224|318=>226|319=>227|320=>228|337=>251|338=>252|n=>n,λ|3=>3|9=>9|2=>2|4=>4|171=>199|0=>0|53=>200|37=>29|5=>5|173=>203|212=>237|51=>238|20=>20|213=>239|46=>120|232=>263|233=>264|n=>n,λ|17=>0|18=>1|19=>2|n=>n⟩
theorem Tryz.RK:Go.Proofs.LaysM.n171 Tryz.prog Tryz.Hz:={
 mixed:=by kernel_rfl
 f129:=Tryz.func225.trans (congrArg some (by kernel_rfl))
 f171:=Tryz.func64.trans (congrArg some (by kernel_rfl))
 f243:=Tryz.func106.trans (congrArg some (by kernel_rfl))
 f246:=Tryz.func146.trans (congrArg some (by kernel_rfl))
 f283:=Tryz.func179.trans (congrArg some (by kernel_rfl))
 f284:=Tryz.func180.trans (congrArg some (by kernel_rfl))
 f285:=Tryz.func181.trans (congrArg some (by kernel_rfl))
 f286:=Tryz.func182.trans (congrArg some (by kernel_rfl))
 f317:=Tryz.func224.trans (congrArg some (by kernel_rfl))
 f318:=Tryz.func226.trans (congrArg some (by kernel_rfl))
 f319:=Tryz.func227.trans (congrArg some (by kernel_rfl))
 f320:=Tryz.func228.trans (congrArg some (by kernel_rfl))
 f337:=Tryz.func251.trans (congrArg some (by kernel_rfl))
 f338:=Tryz.func252.trans (congrArg some (by kernel_rfl))
 t0:=Tryz.underlying0
 a0:=Tryz.isAgg0
 z0:=Tryz.sizeOf0
 v0:=Tryz.zeroValue0
 t2:=Tryz.underlying2
 a2:=Tryz.isAgg2
 z2:=Tryz.sizeOf2
 v2:=Tryz.zeroValue2
 t3:=Tryz.underlying3
 a3:=Tryz.isAgg3
 z3:=Tryz.sizeOf3
 v3:=Tryz.zeroValue3
 t4:=Tryz.underlying4
 a4:=Tryz.isAgg4
 z4:=Tryz.sizeOf4
 v4:=Tryz.zeroValue4
 t5:=Tryz.underlying5
 a5:=Tryz.isAgg5
 z5:=Tryz.sizeOf5
 v5:=Tryz.zeroValue5
 t9:=Tryz.underlying9
 a9:=Tryz.isAgg9
 z9:=Tryz.sizeOf9
 v9:=Tryz.zeroValue9
 t20:=Tryz.underlying20
 a20:=Tryz.isAgg20
 z20:=Tryz.sizeOf20
 v20:=Tryz.zeroValue20
 t37:=Tryz.underlying29
 a37:=Tryz.isAgg29
 z37:=Tryz.sizeOf29
 v37:=Tryz.zeroValue29
 t46:=Tryz.underlying120
 a46:=Tryz.isAgg120
 z46:=Tryz.sizeOf120
 v46:=Tryz.zeroValue120
 t51:=Tryz.underlying238
 a51:=Tryz.isAgg238
 z51:=Tryz.sizeOf238
 v51:=Tryz.zeroValue238
 t53:=Tryz.underlying200
 a53:=Tryz.isAgg200
 z53:=Tryz.sizeOf200
 v53:=Tryz.zeroValue200
 t171:=Tryz.underlying199
 a171:=Tryz.isAgg199
 z171:=Tryz.sizeOf199
 v171:=Tryz.zeroValue199
 t173:=Tryz.underlying203
 a173:=Tryz.isAgg203
 z173:=Tryz.sizeOf203
 v173:=Tryz.zeroValue203
 t212:=Tryz.underlying237
 a212:=Tryz.isAgg237
 z212:=Tryz.sizeOf237
 v212:=Tryz.zeroValue237
 t213:=Tryz.underlying239
 a213:=Tryz.isAgg239
 z213:=Tryz.sizeOf239
 t232:=Tryz.underlying263
 a232:=Tryz.isAgg263
 z232:=Tryz.sizeOf263
 v232:=Tryz.zeroValue263
 t233:=Tryz.underlying264
 a233:=Tryz.isAgg264
 z233:=Tryz.sizeOf264
 v233:=Tryz.zeroValue264
 g17:=by kernel_rfl
 g18:=by kernel_rfl
 g19:=by kernel_rfl
 i0:=by kernel_rfl
 i2:=by kernel_rfl
 i3:=by kernel_rfl
 i4:=by kernel_rfl
 i5:=by kernel_rfl
 i9:=by kernel_rfl
 i20:=by kernel_rfl
 i37:=by kernel_rfl
 i46:=by kernel_rfl
 i51:=by kernel_rfl
 i53:=by kernel_rfl
 i171:=by kernel_rfl
 i173:=by kernel_rfl
 i212:=by kernel_rfl
 i232:=by kernel_rfl
 i233:=by kernel_rfl
 m17:=by kernel_rfl
 m18:=by kernel_rfl
 m19:=by kernel_rfl}
open Go.RowKit Go.Sort Go.Lib in
theorem Tryz.strconv_Itoa (n:Int) (h0:-9223372036854775808<=n) (h1:n<=9223372036854775807) (w:World) (Xy:Lib.TabIs Tryz.prog w "internal/strconv.uint64pow10" .u64 Lib.pow10Tab):
  Calls Tryz.prog 64 #[.int .i64 n] w λe w'=>e=.returned (.string ⟨(Lib.itoa n).toArray⟩)/\∃k os,w'=grow (w.drewN k) os:=Any.strconv_Itoa Tryz.RK n h0 h1 w Xy
end Go.Proofs
set_option maxRecDepth 100000
set_option maxHeartbeats 4000000
namespace Go.Proofs.Ev
open IntKind(i64 u8 u64)
open Go Go.RowKit
noncomputable section
variable [Tok]
instance(priority:=high) doorGlo:Glo:=powGlo 0
theorem pow_named:Tryz.prog.globalNamed "internal/strconv.uint64pow10"=some 0:=by kernel_rfl
theorem bl_size:(Tryz.prog.info? 142).map (·.size)=some 2:=by kernel_rfl
theorem bl_lies:liesAt Tryz.prog Tryz.prog.depth 142 (2/Tryz.prog.cellsOf 142) 0 142 1=true:=by kernel_rfl
theorem cc_used (b:Nat) (w:World) (h0:w.cell? ⟨b,0,none⟩=some (.pointer (some ⟨b,0,none⟩))):
  Calls Tryz.prog 147 #[.pointer (some ⟨b,0,none⟩)] w λe w'=>e=.returned (.tuple #[])/\w'=w:=by
 obtain⟨j,hj,_⟩:=XK.1 bl_size
 go_enter Tryz.func147,Tryz.ntmps147
 go_wp2
 rw[Lib.run_neq_ptr_same w _ Tryz.underlying140 hj]
 go_wp2
 go_end0
 exact⟨rfl,rfl⟩
theorem cc_fresh (b:Nat) (w:World) (h0:w.cell? ⟨b,0,none⟩=some (.pointer none)) (hsh:w.shape? b=some (142,2)) (hfz:w.frozen? ⟨b,0,none⟩=false):
  Calls Tryz.prog 147 #[.pointer (some ⟨b,0,none⟩)] w λe w'=>e=.returned (.tuple #[])/\w'=w.setCell ⟨b,0,none⟩ (.pointer (some ⟨b,0,none⟩)):=by
 obtain⟨j,hj,hjs⟩:=XK.1 bl_size
 go_enter Tryz.func147,Tryz.ntmps147
 go_wp2
 rw[Lib.run_to_unsafe w ⟨b,0,none⟩ Tryz.underlying140 Tryz.underlying205 hj (by rw[hjs];decide) hsh (Nat.zero_lt_succ 1)];simp only[Result.andThen];rw[Oper.upon_value]
 go_wp2
 rw[run_callFunc_extern Tryz.func183 (by kernel_rfl) (by kernel_rfl) (by kernel_rfl) (e:=Extern.AbiNoEscape.same) (by kernel_rfl)];rw[Lib.run_noEscape];simp only[Result.andThen];rw[Oper.upon_value]
 go_wp2
 rw[Lib.run_from_unsafe w ⟨b,0,none⟩ Tryz.underlying205 Tryz.underlying140 hj hsh bl_lies];simp only[Result.andThen];rw[Oper.upon_value]
 go_wp2
 go_end0
 exact⟨rfl,rfl⟩
theorem cc_calls (B b:Nat) (bs:List Value) (w:World) (h:Lib.IsBuilder 142 5 B b bs w):
  Calls Tryz.prog 147 #[.pointer (some ⟨b,0,none⟩)] w λe w'=>e=.returned (.tuple #[])/\Lib.BuilderAt 142 5 B b (.pointer (some ⟨b,0,none⟩)) bs w'/\Below B w w':=by
 rcases h with h|h
 ·exact(cc_fresh b w h.cell0 h.shape h.frozen0).mono λe w' ⟨h1,h2⟩=>by subst h1 h2;exact⟨rfl,h.used _,(Below.refl B w).setCell (p:=⟨b,0,none⟩) h.1 _⟩
 ·exact(cc_used b w h.cell0).mono λe w' ⟨h1,h2⟩=>by subst h1 h2;exact⟨rfl,h,Below.refl B _⟩
theorem by_info:(Tryz.prog.info? 5).map (λi=>(i.zero,i.size,i.bytes))=some (some (.int .u8 0),1,1):=by kernel_rfl
theorem ws_calls (B b:Nat) (bs:List Value) (s:ByteArray) (w:World) (h:Lib.IsBuilder 142 5 B b bs w) (hlen:bs.length+s.size<=140737488355328) (hBw:B<=w.heap.size):
  Calls Tryz.prog 107 #[.pointer (some ⟨b,0,none⟩),.string s] w λe w'=>e=.returned (.tuple #[.int .i64 s.size,.nilIface])/\Lib.IsBuilder 142 5 B b (bs++Lib.strCells s) w'/\Below B w w':=by
 obtain⟨i,hi,z1,z2,z3⟩:=info_parts by_info
 go_enter Tryz.func107,Tryz.ntmps107
 go_wp2_with (go_at_call 147;refine(cc_calls B b bs _ h).mono ?_)
 rintro e w1 ⟨rfl,h1,hb1⟩
 have hlt:=h1.lt;obtain⟨hB,v,hbk,hown,hne⟩:=h1
 have c0:w1.cell? ⟨b,0,none⟩=some (.pointer (some ⟨b,0,none⟩)):=by rw[Lib.cell_of_heap hbk];rfl
 have c1:w1.cell? ⟨b,1,none⟩=some v:=by rw[Lib.cell_of_heap hbk];rfl
 have hs1:=hb1.size
 go_wp2_with (at_builtin;refine Lib.wpList_append_own_string _ rfl _ _ 29 9 rfl B 5 i Tryz.underlying29 Tryz.underlying9 hi z1 z2 z3 _ _ _ rfl hown s rfl (by unfold maxLen;omega) (by omega) (by omega) ?_)
 intro v' w2 hown' hgrow _
 have hb2:w2.heap[b]? =some (.cells #[.pointer (some ⟨b,0,none⟩),v] 142 (0,0)):=(hgrow.block b hlt λe=>hne e.symm).trans hbk
 have d0:w2.cell? ⟨b,0,none⟩=some (.pointer (some ⟨b,0,none⟩)):=by rw[Lib.cell_of_heap hb2];rfl
 have d1:w2.cell? ⟨b,1,none⟩=some v:=by rw[Lib.cell_of_heap hb2];rfl
 have f1:w2.frozen? ⟨b,1,none⟩=false:=Lib.frozen_of_heap hb2 1;obtain⟨x,y,z,rfl⟩:∃x y z,v'=.slice x y z:=hown'.2.elim (λh=>⟨_,_,_,h.1⟩) λ⟨_,_,_,h,_⟩=>⟨_,_,_,h⟩
 go_wp2
 go_ret2
 exact⟨rfl,.inr (Lib.BuilderAt.put hB hb2 (by simpa[Lib.strCells_length]using hown') (by decide)),(hb1.grown hgrow (by omega) λk hk=>(hown.lt k hk).1).setCell (p:=⟨b,1,none⟩) hB _⟩
theorem itoa_calls (n:Int) (h0:-9223372036854775808<=n) (h1:n<=9223372036854775807) (w:World) (hg:GlobW w λ_=>False):
  Calls Tryz.prog 64 #[.int .i64 n] w λe w'=>e=.returned (.string ⟨(Lib.itoa n).toArray⟩)/\Below w.heap.size w w':=by
 refine(Tryz.strconv_Itoa n h0 h1 w (tab_of pow_named hg)).mono ?_
 rintro e w' ⟨rfl,k,os,rfl⟩
 exact⟨rfl,below_grow _ _ _⟩
def o_strconv_Itoa (k:Nat):O Tryz.prog 64:=okH [.one (.int .i64)] [] cdZ ⟨.h 0,[]⟩ cdT (strconv_Itoa k) λ(n:Int) b h=>by
 refine pure_str (enters_of Tryz.func64 (by kernel_rfl) (by kernel_rfl)) λw us ok hl hr hg=>?_
 obtain⟨u,rfl⟩:∃u,us=#[u]:=by
  have:us.size=1:=hl.symm;exact⟨us[0],by ext i h1 h2<;>grind⟩
 have h0:RepR w ok (.int .i64 n) u:=hr 0 _ u rfl rfl;cases h0;unfold strconv_Itoa at h
 cases hc:(decide (-9223372036854775808<=n)&&decide (n<=9223372036854775807))with
 |false=>rw[hc]at h;exact nomatch h
 |true=>
  rw[hc]at h;cases h;simp only[XB,decide_eq_true_eq]at hc;exact itoa_calls n hc.1 hc.2 w hg
theorem spacedL_append:∀a b:List Int,spacedL (a++b)=spacedL a++spacedL b
 |[],b=>rfl
 |x::a,b=>by simp[spacedL,spacedL_append a b]
theorem spacedL_le:∀l:List Int,(∀x∈l,-9223372036854775808<=x/\x<=9223372036854775807)->(spacedL l).length<=22*l.length
 |[],_=>X1 _
 |x::l,h=>by
  have:=Lib.itoa_length_le x (h x (by simp)).1 (h x (by simp)).2;have:=spacedL_le l λy hy=>h y (by simp[hy]);simp only[spacedL,XI,XG];omega
theorem sp_calls (b off cap:Nat) (l:List Int) (w:World) (hb:l≠[]->b<w.heap.size) (hm:l.length<=2000000) (hc:∀k x,l[k]? =some x->w.cell? ⟨b,off+k,none⟩=some (.int .i64 x))
  (hw:∀x∈l,-9223372036854775808<=x/\x<=9223372036854775807) (a:Option Addr) (ha:l=[]\/a=some ⟨b,off,none⟩) (hg:GlobW w λ_=>False):
  Calls Tryz.prog 65 #[.slice a l.length cap] w λe w'=>e=.returned (.string ⟨(spacedL l).toArray⟩)/\Below w.heap.size w w':=by
 go_enter Tryz.func65,Tryz.ntmps65
 go_wp2
 go_loopw [10] (λi wr=>∃k:Nat,k<=l.length/\i=.int .i64 k/\Lib.IsBuilder 142 5 w.heap.size w.heap.size (Lib.byteCells (spacedL (l.take k))) wr/\Below w.heap.size w wr)
  (λi _=>l.length-(intOf i).toNat)
 case atStart=>exact⟨0,Ya _,rfl,by simpa[spacedL,Lib.byteCells]using Lib.fresh_isBuilder 142 5 w,(Below.refl _ _).alloc (X1 _) _⟩
 case round=>
  obtain⟨k,hk,rfl,hB,hnx⟩:=hrel;have hgr:=globW_below hg hnx;have hwr:=hnx.size;by_cases hlt:k<l.length
  ·obtain⟨x,hx⟩:∃x,l[k]? =some x:=⟨l[k],So hlt⟩
   have hne:l≠[]:=by rintro rfl;simp at hlt
   obtain rfl:=ha.resolve_left hne;have hcx:wr.cell? ⟨b,off+k,none⟩=some (.int .i64 x):=(hnx.cell (by exact hb hne)).trans (hc k x hx);have hwx:=hw x (XX hx);have hln:=spacedL_le (l.take k) λy hy=>hw y (Zb hy);have hlx:=Lib.itoa_length_le x hwx.1 hwx.2
   have htk:l.take (k+1)=l.take k++[x]:=by rw[List.take_add_one,hx];rfl
   clear hb hc hw hg;rw[X9]at hln
   go_wp2_with (first
    |(go_at_call 64;refine(itoa_calls x hwx.1 hwx.2 _ hgr).mono ?_;rintro e w1 ⟨rfl,hb1⟩)
    |(go_at_call 107;refine(ws_calls w.heap.size w.heap.size _ _ _ (isBuilder_below hB hb1) ?_ ?_).mono ?_))
   ·have e:(({data:=#[32]}:ByteArray)++({data:=(Lib.itoa x).toArray}:ByteArray)).size=1+(Lib.itoa x).length:=by simp only[ByteArray.size,ByteArray.data_append,Array.size_append];simp
    rw[e,Lib.byteCells_length];omega
   ·have:=hb1.size;omega
   ·rintro e w2 ⟨rfl,hB2,hb2⟩
    go_wp2
    have e:Lib.byteCells (spacedL (l.take k))++Lib.strCells (({data:=#[32]}:ByteArray)++({data:=(Lib.itoa x).toArray}:ByteArray))=Lib.byteCells (spacedL (l.take (k+1))):=by
     rw[htk,spacedL_append,Lib.byteCells_append,Lib.strCells_eq];simp[ByteArray.data_append,spacedL]
    rw[e]at hB2;refine⟨⟨k+1,hlt,by simp,hB2,(hnx.trans (hb1.mono hwr)).trans hb2⟩,by simp[intOf];omega⟩
  ·go_wp2_with (go_at_call 108;refine(Tryz.Builder_String_any w.heap.size w.heap.size _ _ hB hwr).mono ?_;rintro e w1 ⟨rfl,hb1⟩)
   go_ret
   have e:k=l.length:=by omega
   subst e;rw[Yj];exact⟨rfl,hnx.trans hb1⟩
def o_I_spaced (k:Nat):O Tryz.prog 65:=okH [.one (.sl (.int .i64))] [] (cdL (.int .i64)) ⟨.h 0,[]⟩ cdT (I_spaced k) λ(l:List Int) b h=>by
 refine pure_str (enters_of Tryz.func65 (by kernel_rfl) (by kernel_rfl)) λw us ok hl hr hg=>?_
 obtain⟨u,rfl⟩:∃u,us=#[u]:=by
  have:us.size=1:=hl.symm;exact⟨us[0],by ext i h1 h2<;>grind⟩
 have h0:RepR w ok (.sl (.int .i64) l) u:=hr 0 _ u rfl rfl;unfold I_spaced at h
 cases hc:(decide (l.length<=2000000)&&l.all λx=>decide (-9223372036854775808<=x)&&decide (x<=9223372036854775807))with
 |false=>rw[hc]at h;exact nomatch h
 |true=>
  rw[hc]at h;cases h;simp only[XB,decide_eq_true_eq,X6]at hc
  cases h0 with
  |sl t xs a cap b o vs hcap ha hcc hrr=>
   have cell:∀k x,l[k]? =some x->w.cell? ⟨b,o+k,none⟩=some (.int .i64 x):=λk x hx=>by
    have q1:=(hcc k 0 (.int .i64 x) ⟨x,hx,rfl⟩).2;have q2:=hrr k 0 (.int .i64 x) ⟨x,hx,rfl⟩;generalize vs k 0=v at q1 q2;cases q2
    have e:o+(k*(Ty.int IntKind.i64).sz+0)=o+k:=by show o+(k*1+0)=o+k;omega
    rw[e]at q1;exact q1
   exact sp_calls b o cap l w (λhne=>by
    obtain⟨x,l',rfl⟩:∃x l',l=x::l':=by cases l with|nil=>exact absurd rfl hne|cons x l'=>exact⟨x,l',rfl⟩
    have:=cell 0 x rfl;unfold World.cell? at this
    cases hb:w.heap[b]? with
    |none=>simp[hb]at this
    |some o=>exact(XW.1 hb).1) hc.1 cell hc.2 a ha hg
end
end Go.Proofs.Ev
