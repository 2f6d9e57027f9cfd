/- Typed functions and what holds of them: part 3. -/
import Derived.Test.YtkjdnpefjebmlaaGreatDoorEvL2
import Derived.Test.YtkjdnpefjebmlaaGreatDoorEvK7
import Derived.Lib.ItoaNum
import Derived.Shelf.Strings.Builder1
import Derived.Shelf.Strconv.Itoa0
import Derived.Shelf.Strconv.Itoa1
import Derived.Shelf.LaysM
import Derived.Shelf.Strconv.Itoa2
import Derived.Shelf.Strconv.Itoa3
import Derived.Test.YtkjdnpefjebmlaaGreatDoorProg
import Derived.Test.YtkjdnpefjebmlaaGreatDoorEvK8
import Derived.WalkKit
import Derived.Lib.AppendStr
import Derived.Laws.Externs
import Derived.Laws.IdiomCopy
import Derived.KernelRfl
set_option linter.unusedVariables false
set_option linter.unusedSimpArgs false
set_option linter.unusedSectionVars false
set_option maxRecDepth 100000
set_option maxHeartbeats 4000000
namespace Go.Proofs.Ev
open IntKind(i64 u8 u64)
noncomputable section
def nk {ρ:Type} (k:Nat) (p:Bool) (v:Int× List UInt8) (next:(Int× List UInt8)->Option ρ) (x0:(List UInt8)->Option ρ):Option ρ:=
 cond (v.1 !=0) (cond (decide ((v.1.tmod (10:Int))<0)) (cond (decide ((bytesOf [(u8.wrap (i64.wrap ((48:Int)+(i64.wrap (0-(v.1.tmod (10:Int)))))))]).length+v.2.length<=aO)) (next (i64.wrap (v.1.tdiv (10:Int)),(bytesOf [(u8.wrap (i64.wrap ((48:Int)+(i64.wrap (0-(v.1.tmod (10:Int)))))))])++v.2)) none) (cond (decide ((bytesOf [(u8.wrap (i64.wrap ((48:Int)+(v.1.tmod (10:Int)))))]).length+v.2.length<=aO)) (next (i64.wrap (v.1.tdiv (10:Int)),(bytesOf [(u8.wrap (i64.wrap ((48:Int)+(v.1.tmod (10:Int)))))])++v.2)) none)) (x0 v.2)
def jH (k:Nat) (a0:Int):Option (List UInt8):=
 cond (a0==0) (some ([48]:List UInt8)) (iter (λu2 n2=>nk k (decide (a0<0)) u2 n2 (λy1=>cond (decide (a0<0)) (cond (decide (([45]:List UInt8).length+y1.length<=aO)) (some (([45]:List UInt8)++y1)) none) (some y1))) k (a0,([]:List UInt8)))
def gF {ρ:Type} (k:Nat) (p:Int× Int× Int× List Int) (v:List UInt8× Int) (next:(List UInt8× Int)->Option ρ) (x0:(List UInt8)->Option ρ):Option ρ:=
 cond (decide (v.2<(p.2.2.2.length:Int))) (cond (decide (v.1.length+([32]:List UInt8).length<=aO)) ((idx p.2.2.2 v.2).bind λe5=>(jH k e5).bind λr6=>cond (decide ((v.1++([32]:List UInt8)).length+r6.length<=aO)) (next ((v.1++([32]:List UInt8))++r6,i64.wrap (v.2+1))) none) none) (x0 v.1)
def lg (k:Nat) (a0:aD):Option (List UInt8):=
 (gP k a0).bind λr1=>cond (!r1) (some ([]:List UInt8)) ((jH k a0.sh.h).bind λr2=>cond (decide (r2.length+([120]:List UInt8).length<=aO)) ((jH k a0.sh.w).bind λr3=>cond (decide ((r2++([120]:List UInt8)).length+r3.length<=aO)) (cond (decide (((r2++([120]:List UInt8))++r3).length+([120]:List UInt8).length<=aO)) ((jH k a0.sh.c).bind λr4=>cond (decide ((((r2++([120]:List UInt8))++r3)++([120]:List UInt8)).length+r4.length<=aO)) (cond (decide (((((r2++([120]:List UInt8))++r3)++([120]:List UInt8))++r4).length+([58]:List UInt8).length<=aO)) (iter (λu8 n8=>gF k (a0.sh.h,a0.sh.w,a0.sh.c,a0.data) u8 n8 (λy7=>some y7)) k (((((r2++([120]:List UInt8))++r3)++([120]:List UInt8))++r4)++([58]:List UInt8),(0:Int))) none) none) none) none) none)
def mr (k:Nat) (a0:Step):Option (List UInt8):=
 (jH k a0.kind).bind λr1=>cond (decide (r1.length+([32]:List UInt8).length<=aO)) ((jH k a0.a).bind λr2=>cond (decide ((r1++([32]:List UInt8)).length+r2.length<=aO)) (cond (decide (((r1++([32]:List UInt8))++r2).length+([32]:List UInt8).length<=aO)) ((jH k a0.b).bind λr3=>cond (decide ((((r1++([32]:List UInt8))++r2)++([32]:List UInt8)).length+r3.length<=aO)) (cond (decide ((a0.data.length:Int)>(0:Int))) (cond (decide (((((r1++([32]:List UInt8))++r2)++([32]:List UInt8))++r3).length+([32,100,97,116,97,32]:List UInt8).length<=aO)) ((jH k (a0.data.length:Int)).bind λr4=>cond (decide ((((((r1++([32]:List UInt8))++r2)++([32]:List UInt8))++r3)++([32,100,97,116,97,32]:List UInt8)).length+r4.length<=aO)) ((gP k a0.input).bind λr5=>cond (r5) (cond (decide (((((((r1++([32]:List UInt8))++r2)++([32]:List UInt8))++r3)++([32,100,97,116,97,32]:List UInt8))++r4).length+([32,105,110,112,117,116,32]:List UInt8).length<=aO)) ((lg k a0.input).bind λr6=>cond (decide ((((((((r1++([32]:List UInt8))++r2)++([32]:List UInt8))++r3)++([32,100,97,116,97,32]:List UInt8))++r4)++([32,105,110,112,117,116,32]:List UInt8)).length+r6.length<=aO)) (some ((((((((r1++([32]:List UInt8))++r2)++([32]:List UInt8))++r3)++([32,100,97,116,97,32]:List UInt8))++r4)++([32,105,110,112,117,116,32]:List UInt8))++r6)) none) none) (some ((((((r1++([32]:List UInt8))++r2)++([32]:List UInt8))++r3)++([32,100,97,116,97,32]:List UInt8))++r4))) none) none) ((gP k a0.input).bind λr7=>cond (r7) (cond (decide (((((r1++([32]:List UInt8))++r2)++([32]:List UInt8))++r3).length+([32,105,110,112,117,116,32]:List UInt8).length<=aO)) ((lg k a0.input).bind λr8=>cond (decide ((((((r1++([32]:List UInt8))++r2)++([32]:List UInt8))++r3)++([32,105,110,112,117,116,32]:List UInt8)).length+r8.length<=aO)) (some ((((((r1++([32]:List UInt8))++r2)++([32]:List UInt8))++r3)++([32,105,110,112,117,116,32]:List UInt8))++r8)) none) none) (some ((((r1++([32]:List UInt8))++r2)++([32]:List UInt8))++r3)))) none) none) none) none
def strconv_Itoa (k:Nat) (n:Int):Option (List UInt8):=cond (decide (-9223372036854775808<=n)&&decide (n<=9223372036854775807)) (some (Go.Lib.itoa n)) none
def spacedL:List Int->List UInt8
 |[]=>[]
 |x::l=>32::(Go.Lib.itoa x++spacedL l)
def I_spaced (k:Nat) (l:List Int):Option (List UInt8):=cond (decide (l.length<=2000000)&&l.all λx=>decide (-9223372036854775808<=x)&&decide (x<=9223372036854775807)) (some (spacedL l)) none
def l0 (k:Nat) (a0:Shape):Option (List UInt8):=
 (strconv_Itoa k a0.h).bind λr1=>cond (decide (r1.length+([120]:List UInt8).length<=aO)) ((strconv_Itoa k a0.w).bind λr2=>cond (decide ((r1++([120]:List UInt8)).length+r2.length<=aO)) (cond (decide (((r1++([120]:List UInt8))++r2).length+([120]:List UInt8).length<=aO)) ((strconv_Itoa k a0.c).bind λr3=>cond (decide ((((r1++([120]:List UInt8))++r2)++([120]:List UInt8)).length+r3.length<=aO)) (some ((((r1++([120]:List UInt8))++r2)++([120]:List UInt8))++r3)) none) none) none) none
def lh (k:Nat) (a0:aD):Option (List UInt8):=
 (iV k a0).bind λr1=>cond (!r1) (some ([]:List UInt8)) ((l0 k a0.sh).bind λr2=>cond (decide (r2.length+([58]:List UInt8).length<=aO)) ((I_spaced k a0.data).bind λr3=>cond (decide ((r2++([58]:List UInt8)).length+r3.length<=aO)) (some ((r2++([58]:List UInt8))++r3)) none) none)
def mu (k:Nat) (a0:Step):Option (List UInt8):=
 (strconv_Itoa k a0.kind).bind λr1=>(I_spaced k [a0.a,a0.b]).bind λr2=>cond (decide (r1.length+r2.length<=aO)) (cond (decide ((a0.data.length:Int)>(0:Int))) ((I_spaced k [(a0.data.length:Int)]).bind λr3=>cond (decide (([32,100,97,116,97]:List UInt8).length+r3.length<=aO)) (cond (decide ((r1++r2).length+(([32,100,97,116,97]:List UInt8)++r3).length<=aO)) ((iV k a0.input).bind λr4=>cond (r4) ((lh k a0.input).bind λr5=>cond (decide (([32,105,110,112,117,116,32]:List UInt8).length+r5.length<=aO)) (cond (decide (((r1++r2)++(([32,100,97,116,97]:List UInt8)++r3)).length+(([32,105,110,112,117,116,32]:List UInt8)++r5).length<=aO)) (some (((r1++r2)++(([32,100,97,116,97]:List UInt8)++r3))++(([32,105,110,112,117,116,32]:List UInt8)++r5))) none) none) (some ((r1++r2)++(([32,100,97,116,97]:List UInt8)++r3)))) none) none) ((iV k a0.input).bind λr6=>cond (r6) ((lh k a0.input).bind λr7=>cond (decide (([32,105,110,112,117,116,32]:List UInt8).length+r7.length<=aO)) (cond (decide ((r1++r2).length+(([32,105,110,112,117,116,32]:List UInt8)++r7).length<=aO)) (some ((r1++r2)++(([32,105,110,112,117,116,32]:List UInt8)++r7))) none) none) (some (r1++r2)))) none
end
end Go.Proofs.Ev
set_option maxRecDepth 100000
set_option maxHeartbeats 4000000
namespace Go.Proofs.Ev
open IntKind(i64 u8 u64)
noncomputable section
def qO (k:Nat) (a0:List Int):Option (List Step):=
 (qN k a0).bind λr1=>some r1.1.2.2.2
def jI (k:Nat) (a0:List Int):Option (Step):=
 (pA k a0).bind λr1=>(ae k a0 r1.1 r1.2 (6:Int)).bind λr2=>(fR k a0 r2.2.1 r2.2.2 (i64.wrap ((1:Int)+r2.1))).bind λr3=>cond (decide (0<=(i64.wrap ((r3.1.length:Int)-(1:Int)))/\(i64.wrap ((r3.1.length:Int)-(1:Int)))<(r3.1.length:Int))) ((r3.1[(i64.wrap ((r3.1.length:Int)-(1:Int))).toNat]?).bind λe4=>(bD k a0 r3.2.1 r3.2.2 (10:Int)).bind λr5=>cond (r5.1) ((ae k a0 r5.2.1 r5.2.2 (3:Int)).bind λr6=>cond (r6.1==0) ((ae k a0 r6.2.1 r6.2.2 (2:Int)).bind λr7=>some (⟨e4.kind,(i64.wrap ((1099511627775:Int)+r7.1)),e4.b,e4.data,e4.input⟩:Step)) (cond (r6.1==1) ((ae k a0 r6.2.1 r6.2.2 (2:Int)).bind λr8=>cond (decide (0<=(i64.wrap ((6000:Int)+r8.1))/\(i64.wrap ((6000:Int)+r8.1))<=(i64.wrap ((6000:Int)+r8.1))/\(i64.wrap ((6000:Int)+r8.1))<=(aO:Int))) (some (⟨e4.kind,e4.a,e4.b,(List.replicate ((i64.wrap ((6000:Int)+r8.1)).toNat) (0:Int)),e4.input⟩:Step)) none) (cond (r6.1==2) ((ae k a0 r6.2.1 r6.2.2 (2:Int)).bind λr9=>cond (decide (0<=(i64.wrap ((512:Int)+r9.1))/\(i64.wrap ((512:Int)+r9.1))<=(i64.wrap ((512:Int)+r9.1))/\(i64.wrap ((512:Int)+r9.1))<=(aO:Int))) (some (⟨e4.kind,e4.a,e4.b,e4.data,(⟨e4.input.sh,(List.replicate ((i64.wrap ((512:Int)+r9.1)).toNat) (0:Int))⟩:aD)⟩:Step)) none) (some e4)))) (some e4)) none
def pI (k:Nat) (a0:List Int):Option (Bool):=
 (Ta k a0).bind λr1=>cond (r1) (some true) ((qO k a0).bind λr2=>(vR k r2).bind λr3=>(vS k r2).bind λr4=>cond (!(r4.2==r3.2)) (some false) (cond ((r4.1.length:Int) !=(r3.1.length:Int)) (some false) (cond (!r3.2) (some true) ((kh k r4.1).bind λr5=>cond (r5.2 !=0) (some false) ((kX k r5.1 r2).bind λr6=>cond (r6 !=(-1:Int)) (some false) ((RW k a0 (0:Int)).bind λr7=>(RW k a0 (1:Int)).bind λr8=>cond (decide ((r4.1.length:Int)=0)) none (cond (decide (0<=((i64.wrap (r7*(i64.wrap ((1:Int)+r8)))).tmod (r4.1.length:Int))/\((i64.wrap (r7*(i64.wrap ((1:Int)+r8)))).tmod (r4.1.length:Int))<=(r4.1.length:Int))) ((kh k (((r4.1).drop 0).take ((((i64.wrap (r7*(i64.wrap ((1:Int)+r8)))).tmod (r4.1.length:Int)).toNat)-0))).bind λr9=>cond (Nat.ble (([]:List Int).length+r4.1.length) aO) ((RW k a0 (2:Int)).bind λr10=>(RW k a0 (3:Int)).bind λr11=>cond (decide ((r4.1.length:Int)=0)) none (cond (decide (0<=((i64.wrap (r10*(i64.wrap ((1:Int)+r11)))).tmod (r4.1.length:Int))/\((i64.wrap (r10*(i64.wrap ((1:Int)+r11)))).tmod (r4.1.length:Int))<((([]:List Int)++r4.1).length:Int))) (((([]:List Int)++r4.1)[((i64.wrap (r10*(i64.wrap ((1:Int)+r11)))).tmod (r4.1.length:Int)).toNat]?).bind λe12=>(RW k a0 (4:Int)).bind λr13=>cond (decide (0<=((i64.wrap (r10*(i64.wrap ((1:Int)+r11)))).tmod (r4.1.length:Int))/\((i64.wrap (r10*(i64.wrap ((1:Int)+r11)))).tmod (r4.1.length:Int))<((([]:List Int)++r4.1).length:Int))) ((kh k ((([]:List Int)++r4.1).set (((i64.wrap (r10*(i64.wrap ((1:Int)+r11)))).tmod (r4.1.length:Int)).toNat) (u8.wrap (((BitVec.ofInt u8.bits e12^^^ BitVec.ofInt u8.bits (u8.wrap (i64.wrap ((1:Int)+(r13.tmod (255:Int)))))).toNat:Int))))).bind λr14=>cond (r14.2==0) ((kX k r14.1 r2).bind λr15=>cond (r15==(-1:Int)) (some false) ((O4 k a0 (1:Int)).bind λr16=>(jI k r16).bind λr17=>(m9 k r17).bind λr18=>(mZ k r17).bind λr19=>cond (!(r18.2==r19.2)) (some false) (cond ((r18.1.length:Int) !=(r19.1.length:Int)) (some false) (cond (r19.2) ((mq k r18.1 (0:Int)).bind λr20=>cond (r20.2 !=(r18.1.length:Int)) (some false) ((ka k r20.1 r17).bind λr21=>cond (!r21) (some false) ((mu k r20.1).bind λr22=>(mr k r17).bind λr23=>cond (!(r22==r23)) (some false) (some (r9.2 !=0))))) (some (r9.2 !=0)))))) ((O4 k a0 (1:Int)).bind λr24=>(jI k r24).bind λr25=>(m9 k r25).bind λr26=>(mZ k r25).bind λr27=>cond (!(r26.2==r27.2)) (some false) (cond ((r26.1.length:Int) !=(r27.1.length:Int)) (some false) (cond (r27.2) ((mq k r26.1 (0:Int)).bind λr28=>cond (r28.2 !=(r26.1.length:Int)) (some false) ((ka k r28.1 r25).bind λr29=>cond (!r29) (some false) ((mu k r28.1).bind λr30=>(mr k r25).bind λr31=>cond (!(r30==r31)) (some false) (some (r9.2 !=0))))) (some (r9.2 !=0)))))) none) none)) none) none)))))))
end
end Go.Proofs.Ev
namespace Go.Proofs
open Go.Shelf
def Tryz.Bq:Go.Shelf.Ren:=⟨λ|169=>108|n=>n,λ|70=>140|9=>9|0=>0|72=>142|37=>29|127=>174|3=>3|5=>5|n=>n,λ|n=>n⟩
theorem Tryz.Tb:Go.Proofs.Lays.n169 Tryz.prog Tryz.Bq:={
 mixed:=by kernel_rfl
 f169:=Tryz.func108.trans (congrArg some (by kernel_rfl))
 t0:=Tryz.underlying0
 a0:=Tryz.isAgg0
 z0:=Tryz.sizeOf0
 v0:=Tryz.zeroValue0
 t3:=Tryz.underlying3
 a3:=Tryz.isAgg3
 z3:=Tryz.sizeOf3
 v3:=Tryz.zeroValue3
 t9:=Tryz.underlying9
 a9:=Tryz.isAgg9
 z9:=Tryz.sizeOf9
 v9:=Tryz.zeroValue9
 t37:=Tryz.underlying29
 a37:=Tryz.isAgg29
 z37:=Tryz.sizeOf29
 v37:=Tryz.zeroValue29
 t70:=Tryz.underlying140
 a70:=Tryz.isAgg140
 z70:=Tryz.sizeOf140
 v70:=Tryz.zeroValue140
 t72:=Tryz.underlying142
 a72:=Tryz.isAgg142
 z72:=Tryz.sizeOf142
 v72:=Tryz.zeroValue142
 t127:=Tryz.underlying174
 a127:=Tryz.isAgg174
 z127:=Tryz.sizeOf174
 v127:=Tryz.zeroValue174}
theorem Tryz.xF:Builder.Extra Tryz.prog Tryz.Bq:={
 sizeBuilder:=by kernel_rfl
 liesBuilder:=by kernel_rfl
 t5:=Tryz.underlying5
 a5:=Tryz.isAgg5
 z5:=Tryz.sizeOf5
 v5:=Tryz.zeroValue5
 infoByte:=by kernel_rfl
 cellsByte:=by kernel_rfl
 sizeByte:=by kernel_rfl
 neB5:=by decide}
open Go.RowKit in
theorem Tryz.Builder_String_any (B b:Nat) (l:List UInt8) (w:World) (h:Lib.IsBuilder 142 5 B b (Lib.byteCells l) w) (hBw:B<=w.heap.size):
  Calls Tryz.prog 108 #[.pointer (some ⟨b,0,none⟩)] w λe w'=>e=.returned (.string ⟨l.toArray⟩)/\Below B w w':=Any.Builder_String_any Tryz.Tb Tryz.xF B b l w h hBw
def Tryz.Hs:Go.Shelf.Ren:=⟨λ|171=>64|243=>106|246=>146|283=>179|284=>180|285=>181|286=>182|129=>225|317=>224|318=>226|319=>227|320=>228|337=>251|338=>252|n=>n,λ|3=>3|9=>9|2=>2|4=>4|171=>199|0=>0|53=>200|37=>29|5=>5|173=>203|212=>237|51=>238|20=>20|213=>239|46=>120|232=>263|233=>264|n=>n,λ|17=>0|18=>1|19=>2|n=>n⟩
theorem Tryz.Q9:Go.Proofs.LaysM.n171 Tryz.prog Tryz.Hs:={
 mixed:=by kernel_rfl
 f129:=Tryz.func225.trans (congrArg some (by kernel_rfl))
 f171:=Tryz.func64.trans (congrArg some (by kernel_rfl))
 f243:=Tryz.func106.trans (congrArg some (by kernel_rfl))
 f246:=Tryz.func146.trans (congrArg some (by kernel_rfl))
 f283:=Tryz.func179.trans (congrArg some (by kernel_rfl))
 f284:=Tryz.func180.trans (congrArg some (by kernel_rfl))
 f285:=Tryz.func181.trans (congrArg some (by kernel_rfl))
 f286:=Tryz.func182.trans (congrArg some (by kernel_rfl))
 f317:=Tryz.func224.trans (congrArg some (by kernel_rfl))
 f318:=Tryz.func226.trans (congrArg some (by kernel_rfl))
 f319:=Tryz.func227.trans (congrArg some (by kernel_rfl))
 f320:=Tryz.func228.trans (congrArg some (by kernel_rfl))
 f337:=Tryz.func251.trans (congrArg some (by kernel_rfl))
 f338:=Tryz.func252.trans (congrArg some (by kernel_rfl))
 t0:=Tryz.underlying0
 a0:=Tryz.isAgg0
 z0:=Tryz.sizeOf0
 v0:=Tryz.zeroValue0
 t2:=Tryz.underlying2
 a2:=Tryz.isAgg2
 z2:=Tryz.sizeOf2
 v2:=Tryz.zeroValue2
 t3:=Tryz.underlying3
 a3:=Tryz.isAgg3
 z3:=Tryz.sizeOf3
 v3:=Tryz.zeroValue3
 t4:=Tryz.underlying4
 a4:=Tryz.isAgg4
 z4:=Tryz.sizeOf4
 v4:=Tryz.zeroValue4
 t5:=Tryz.underlying5
 a5:=Tryz.isAgg5
 z5:=Tryz.sizeOf5
 v5:=Tryz.zeroValue5
 t9:=Tryz.underlying9
 a9:=Tryz.isAgg9
 z9:=Tryz.sizeOf9
 v9:=Tryz.zeroValue9
 t20:=Tryz.underlying20
 a20:=Tryz.isAgg20
 z20:=Tryz.sizeOf20
 v20:=Tryz.zeroValue20
 t37:=Tryz.underlying29
 a37:=Tryz.isAgg29
 z37:=Tryz.sizeOf29
 v37:=Tryz.zeroValue29
 t46:=Tryz.underlying120
 a46:=Tryz.isAgg120
 z46:=Tryz.sizeOf120
 v46:=Tryz.zeroValue120
 t51:=Tryz.underlying238
 a51:=Tryz.isAgg238
 z51:=Tryz.sizeOf238
 v51:=Tryz.zeroValue238
 t53:=Tryz.underlying200
 a53:=Tryz.isAgg200
 z53:=Tryz.sizeOf200
 v53:=Tryz.zeroValue200
 t171:=Tryz.underlying199
 a171:=Tryz.isAgg199
 z171:=Tryz.sizeOf199
 v171:=Tryz.zeroValue199
 t173:=Tryz.underlying203
 a173:=Tryz.isAgg203
 z173:=Tryz.sizeOf203
 v173:=Tryz.zeroValue203
 t212:=Tryz.underlying237
 a212:=Tryz.isAgg237
 z212:=Tryz.sizeOf237
 v212:=Tryz.zeroValue237
 t213:=Tryz.underlying239
 a213:=Tryz.isAgg239
 z213:=Tryz.sizeOf239
 t232:=Tryz.underlying263
 a232:=Tryz.isAgg263
 z232:=Tryz.sizeOf263
 v232:=Tryz.zeroValue263
 t233:=Tryz.underlying264
 a233:=Tryz.isAgg264
 z233:=Tryz.sizeOf264
 v233:=Tryz.zeroValue264
 g17:=by kernel_rfl
 g18:=by kernel_rfl
 g19:=by kernel_rfl
 i0:=by kernel_rfl
 i2:=by kernel_rfl
 i3:=by kernel_rfl
 i4:=by kernel_rfl
 i5:=by kernel_rfl
 i9:=by kernel_rfl
 i20:=by kernel_rfl
 i37:=by kernel_rfl
 i46:=by kernel_rfl
 i51:=by kernel_rfl
 i53:=by kernel_rfl
 i171:=by kernel_rfl
 i173:=by kernel_rfl
 i212:=by kernel_rfl
 i232:=by kernel_rfl
 i233:=by kernel_rfl
 m17:=by kernel_rfl
 m18:=by kernel_rfl
 m19:=by kernel_rfl}
open Go.RowKit Go.Sort Go.Lib in
theorem Tryz.strconv_Itoa (n:Int) (h0:-9223372036854775808<=n) (h1:n<=9223372036854775807) (w:World) (WU:Lib.TabIs Tryz.prog w "internal/strconv.uint64pow10" .u64 Lib.pow10Tab):
  Calls Tryz.prog 64 #[.int .i64 n] w λe w'=>e=.returned (.string ⟨(Lib.itoa n).toArray⟩)/\∃k os,w'=grow (w.drewN k) os:=Any.strconv_Itoa Tryz.Q9 n h0 h1 w WU
end Go.Proofs
set_option maxRecDepth 100000
set_option maxHeartbeats 4000000
namespace Go.Proofs.Ev
open IntKind(i64 u8 u64)
open Go Go.RowKit
noncomputable section
variable [Tok]
instance(priority:=high) doorGlo:Glo:=powGlo 0
theorem pow_named:Tryz.prog.globalNamed "internal/strconv.uint64pow10"=some 0:=by kernel_rfl
theorem bl_size:(Tryz.prog.info? 142).map (·.size)=some 2:=by kernel_rfl
theorem bl_lies:liesAt Tryz.prog Tryz.prog.depth 142 (2/Tryz.prog.cellsOf 142) 0 142 1=true:=by kernel_rfl
theorem cc_used (b:Nat) (w:World) (h0:w.cell? ⟨b,0,none⟩=some (.pointer (some ⟨b,0,none⟩))):
  Calls Tryz.prog 147 #[.pointer (some ⟨b,0,none⟩)] w λe w'=>e=.returned (.tuple #[])/\w'=w:=by
 obtain⟨j,hj,_⟩:=Xb.1 bl_size
 go_enter Tryz.func147,Tryz.ntmps147
 go_wp2
 rw[Lib.run_neq_ptr_same w _ Tryz.underlying140 hj]
 go_wp2
 go_end0
 exact⟨rfl,rfl⟩
theorem cc_fresh (b:Nat) (w:World) (h0:w.cell? ⟨b,0,none⟩=some (.pointer none)) (hsh:w.shape? b=some (142,2)) (hfz:w.frozen? ⟨b,0,none⟩=false):
  Calls Tryz.prog 147 #[.pointer (some ⟨b,0,none⟩)] w λe w'=>e=.returned (.tuple #[])/\w'=w.setCell ⟨b,0,none⟩ (.pointer (some ⟨b,0,none⟩)):=by
 obtain⟨j,hj,hjs⟩:=Xb.1 bl_size
 go_enter Tryz.func147,Tryz.ntmps147
 go_wp2
 rw[Lib.run_to_unsafe w ⟨b,0,none⟩ Tryz.underlying140 Tryz.underlying205 hj (by rw[hjs];decide) hsh (Nat.zero_lt_succ 1)];simp only[Result.andThen];rw[Oper.upon_value]
 go_wp2
 rw[run_callFunc_extern Tryz.func183 (by kernel_rfl) (by kernel_rfl) (by kernel_rfl) (e:=Extern.AbiNoEscape.same) (by kernel_rfl)];rw[Lib.run_noEscape];simp only[Result.andThen];rw[Oper.upon_value]
 go_wp2
 rw[Lib.run_from_unsafe w ⟨b,0,none⟩ Tryz.underlying205 Tryz.underlying140 hj hsh bl_lies];simp only[Result.andThen];rw[Oper.upon_value]
 go_wp2
 go_end0
 exact⟨rfl,rfl⟩
theorem cc_calls (B b:Nat) (bs:List Value) (w:World) (h:Lib.IsBuilder 142 5 B b bs w):
  Calls Tryz.prog 147 #[.pointer (some ⟨b,0,none⟩)] w λe w'=>e=.returned (.tuple #[])/\Lib.BuilderAt 142 5 B b (.pointer (some ⟨b,0,none⟩)) bs w'/\Below B w w':=by
 rcases h with h|h
 ·exact(cc_fresh b w h.cell0 h.shape h.frozen0).mono λe w' ⟨h1,h2⟩=>by subst h1 h2;exact⟨rfl,h.used _,(Below.refl B w).setCell (p:=⟨b,0,none⟩) h.1 _⟩
 ·exact(cc_used b w h.cell0).mono λe w' ⟨h1,h2⟩=>by subst h1 h2;exact⟨rfl,h,Below.refl B _⟩
theorem by_info:(Tryz.prog.info? 5).map (λi=>(i.zero,i.size,i.bytes))=some (some (.int .u8 0),1,1):=by kernel_rfl
theorem ws_calls (B b:Nat) (bs:List Value) (s:ByteArray) (w:World) (h:Lib.IsBuilder 142 5 B b bs w) (hlen:bs.length+s.size<=140737488355328) (hBw:B<=w.heap.size):
  Calls Tryz.prog 107 #[.pointer (some ⟨b,0,none⟩),.string s] w λe w'=>e=.returned (.tuple #[.int .i64 s.size,.nilIface])/\Lib.IsBuilder 142 5 B b (bs++Lib.strCells s) w'/\Below B w w':=by
 obtain⟨i,hi,z1,z2,z3⟩:=info_parts by_info
 go_enter Tryz.func107,Tryz.ntmps107
 go_wp2_with (go_at_call 147;refine(cc_calls B b bs _ h).mono ?_)
 rintro e w1 ⟨rfl,h1,hb1⟩
 have hlt:=h1.lt;obtain⟨hB,v,hbk,hown,hne⟩:=h1
 have c0:w1.cell? ⟨b,0,none⟩=some (.pointer (some ⟨b,0,none⟩)):=by rw[Lib.cell_of_heap hbk];rfl
 have c1:w1.cell? ⟨b,1,none⟩=some v:=by rw[Lib.cell_of_heap hbk];rfl
 have hs1:=hb1.size
 go_wp2_with (at_builtin;refine Lib.wpList_append_own_string _ rfl _ _ 29 9 rfl B 5 i Tryz.underlying29 Tryz.underlying9 hi z1 z2 z3 _ _ _ rfl hown s rfl (by unfold maxLen;omega) (by omega) (by omega) ?_)
 intro v' w2 hown' hgrow _
 have hb2:w2.heap[b]? =some (.cells #[.pointer (some ⟨b,0,none⟩),v] 142 (0,0)):=(hgrow.block b hlt λe=>hne e.symm).trans hbk
 have d0:w2.cell? ⟨b,0,none⟩=some (.pointer (some ⟨b,0,none⟩)):=by rw[Lib.cell_of_heap hb2];rfl
 have d1:w2.cell? ⟨b,1,none⟩=some v:=by rw[Lib.cell_of_heap hb2];rfl
 have f1:w2.frozen? ⟨b,1,none⟩=false:=Lib.frozen_of_heap hb2 1;obtain⟨x,y,z,rfl⟩:∃x y z,v'=.slice x y z:=hown'.2.elim (λh=>⟨_,_,_,h.1⟩) λ⟨_,_,_,h,_⟩=>⟨_,_,_,h⟩
 go_wp2
 go_ret2
 exact⟨rfl,.inr (Lib.BuilderAt.put hB hb2 (by simpa[Lib.strCells_length]using hown') (by decide)),(hb1.grown hgrow (by omega) λk hk=>(hown.lt k hk).1).setCell (p:=⟨b,1,none⟩) hB _⟩
theorem itoa_calls (n:Int) (h0:-9223372036854775808<=n) (h1:n<=9223372036854775807) (w:World) (hg:GlobW w λ_=>False):
  Calls Tryz.prog 64 #[.int .i64 n] w λe w'=>e=.returned (.string ⟨(Lib.itoa n).toArray⟩)/\Below w.heap.size w w':=by
 refine(Tryz.strconv_Itoa n h0 h1 w (tab_of pow_named hg)).mono ?_
 rintro e w' ⟨rfl,k,os,rfl⟩
 exact⟨rfl,below_grow _ _ _⟩
def o_strconv_Itoa (k:Nat):O Tryz.prog 64:=okH [.one (.int .i64)] [] cdZ ⟨.h 0,[]⟩ cdT (strconv_Itoa k) λ(n:Int) b h=>by
 refine pure_str (enters_of Tryz.func64 (by kernel_rfl) (by kernel_rfl)) λw us ok hl hr hg=>?_
 obtain⟨u,rfl⟩:∃u,us=#[u]:=by
  have:us.size=1:=hl.symm;exact⟨us[0],by ext i h1 h2<;>grind⟩
 have h0:RepR w ok (.int .i64 n) u:=hr 0 _ u rfl rfl;cases h0;unfold strconv_Itoa at h
 cases hc:(decide (-9223372036854775808<=n)&&decide (n<=9223372036854775807))with
 |false=>rw[hc]at h;exact nomatch h
 |true=>
  rw[hc]at h;cases h;simp only[W3,decide_eq_true_eq]at hc;exact itoa_calls n hc.1 hc.2 w hg
theorem spacedL_append:∀a b:List Int,spacedL (a++b)=spacedL a++spacedL b
 |[],b=>rfl
 |x::a,b=>by simp[spacedL,spacedL_append a b]
theorem spacedL_le:∀l:List Int,(∀x∈l,-9223372036854775808<=x/\x<=9223372036854775807)->(spacedL l).length<=22*l.length
 |[],_=>Xt _
 |x::l,h=>by
  have:=Lib.itoa_length_le x (h x (by simp)).1 (h x (by simp)).2;have:=spacedL_le l λy hy=>h y (by simp[hy]);simp only[spacedL,W7,W5];omega
theorem sp_calls (b off cap:Nat) (l:List Int) (w:World) (hb:l≠[]->b<w.heap.size) (hm:l.length<=2000000) (hc:∀k x,l[k]? =some x->w.cell? ⟨b,off+k,none⟩=some (.int .i64 x))
  (hw:∀x∈l,-9223372036854775808<=x/\x<=9223372036854775807) (a:Option Addr) (ha:l=[]\/a=some ⟨b,off,none⟩) (hg:GlobW w λ_=>False):
  Calls Tryz.prog 65 #[.slice a l.length cap] w λe w'=>e=.returned (.string ⟨(spacedL l).toArray⟩)/\Below w.heap.size w w':=by
 go_enter Tryz.func65,Tryz.ntmps65
 go_wp2
 go_loopw [10] (λi wr=>∃k:Nat,k<=l.length/\i=.int .i64 k/\Lib.IsBuilder 142 5 w.heap.size w.heap.size (Lib.byteCells (spacedL (l.take k))) wr/\Below w.heap.size w wr)
  (λi _=>l.length-(intOf i).toNat)
 case atStart=>exact⟨0,XE _,rfl,by simpa[spacedL,Lib.byteCells]using Lib.fresh_isBuilder 142 5 w,(Below.refl _ _).alloc (Xt _) _⟩
 case round=>
  obtain⟨k,hk,rfl,hB,hnx⟩:=hrel;have hgr:=globW_below hg hnx;have hwr:=hnx.size;by_cases hlt:k<l.length
  ·obtain⟨x,hx⟩:∃x,l[k]? =some x:=⟨l[k],On hlt⟩
   have hne:l≠[]:=by rintro rfl;simp at hlt
   obtain rfl:=ha.resolve_left hne;have hcx:wr.cell? ⟨b,off+k,none⟩=some (.int .i64 x):=(hnx.cell (by exact hb hne)).trans (hc k x hx);have hwx:=hw x (Xn hx);have hln:=spacedL_le (l.take k) λy hy=>hw y (X8 hy);have hlx:=Lib.itoa_length_le x hwx.1 hwx.2
   have htk:l.take (k+1)=l.take k++[x]:=by rw[List.take_add_one,hx];rfl
   clear hb hc hw hg;rw[Xw]at hln
   go_wp2_with (first
    |(go_at_call 64;refine(itoa_calls x hwx.1 hwx.2 _ hgr).mono ?_;rintro e w1 ⟨rfl,hb1⟩)
    |(go_at_call 107;refine(ws_calls w.heap.size w.heap.size _ _ _ (isBuilder_below hB hb1) ?_ ?_).mono ?_))
   ·have e:(({data:=#[32]}:ByteArray)++({data:=(Lib.itoa x).toArray}:ByteArray)).size=1+(Lib.itoa x).length:=by simp only[ByteArray.size,ByteArray.data_append,Array.size_append];simp
    rw[e,Lib.byteCells_length];omega
   ·have:=hb1.size;omega
   ·rintro e w2 ⟨rfl,hB2,hb2⟩
    go_wp2
    have e:Lib.byteCells (spacedL (l.take k))++Lib.strCells (({data:=#[32]}:ByteArray)++({data:=(Lib.itoa x).toArray}:ByteArray))=Lib.byteCells (spacedL (l.take (k+1))):=by
     rw[htk,spacedL_append,Lib.byteCells_append,Lib.strCells_eq];simp[ByteArray.data_append,spacedL]
    rw[e]at hB2;refine⟨⟨k+1,hlt,by simp,hB2,(hnx.trans (hb1.mono hwr)).trans hb2⟩,by simp[intOf];omega⟩
  ·go_wp2_with (go_at_call 108;refine(Tryz.Builder_String_any w.heap.size w.heap.size _ _ hB hwr).mono ?_;rintro e w1 ⟨rfl,hb1⟩)
   go_ret
   have e:k=l.length:=by omega
   subst e;rw[XO];exact⟨rfl,hnx.trans hb1⟩
def o_I_spaced (k:Nat):O Tryz.prog 65:=okH [.one (.sl (.int .i64))] [] (cdL (.int .i64)) ⟨.h 0,[]⟩ cdT (I_spaced k) λ(l:List Int) b h=>by
 refine pure_str (enters_of Tryz.func65 (by kernel_rfl) (by kernel_rfl)) λw us ok hl hr hg=>?_
 obtain⟨u,rfl⟩:∃u,us=#[u]:=by
  have:us.size=1:=hl.symm;exact⟨us[0],by ext i h1 h2<;>grind⟩
 have h0:RepR w ok (.sl (.int .i64) l) u:=hr 0 _ u rfl rfl;unfold I_spaced at h
 cases hc:(decide (l.length<=2000000)&&l.all λx=>decide (-9223372036854775808<=x)&&decide (x<=9223372036854775807))with
 |false=>rw[hc]at h;exact nomatch h
 |true=>
  rw[hc]at h;cases h;simp only[W3,decide_eq_true_eq,Xv]at hc
  cases h0 with
  |sl t xs a cap b o vs hcap ha hcc hrr=>
   have cell:∀k x,l[k]? =some x->w.cell? ⟨b,o+k,none⟩=some (.int .i64 x):=λk x hx=>by
    have q1:=(hcc k 0 (.int .i64 x) ⟨x,hx,rfl⟩).2;have q2:=hrr k 0 (.int .i64 x) ⟨x,hx,rfl⟩;generalize vs k 0=v at q1 q2;cases q2
    have e:o+(k*(Ty.int IntKind.i64).sz+0)=o+k:=by show o+(k*1+0)=o+k;omega
    rw[e]at q1;exact q1
   exact sp_calls b o cap l w (λhne=>by
    obtain⟨x,l',rfl⟩:∃x l',l=x::l':=by cases l with|nil=>exact absurd rfl hne|cons x l'=>exact⟨x,l',rfl⟩
    have:=cell 0 x rfl;unfold World.cell? at this
    cases hb:w.heap[b]? with
    |none=>simp[hb]at this
    |some o=>exact(Xp.1 hb).1) hc.1 cell hc.2 a ha hg
end
end Go.Proofs.Ev
namespace Go.Proofs.Ev
open IntKind(i64 u8 u64)
theorem Tc (a b:Nat):((a:Int) !=(b:Int))=decide (a≠b):=by
 rw[OY];congr 1;rw[eq_iff_iff];omega
theorem Td {R:Type} {xs:List Int} (a:Option R) (yes:Option R):(cond (decide ((xs.length:Int)<(xs.length:Int))) a yes)=yes:=by
 rw[ab,if_neg (by omega)]
theorem Te {xs ys:List Int} {r:Option Bool} (h:xs.length=ys.length->r=if xs=ys then some true else some false):(cond ((xs.length:Int) !=(ys.length:Int)) (some false) r)=some (decide (xs=ys)):=by
 rw[Tc,ab];by_cases c:xs.length=ys.length
 ·rw[if_neg (by simp[c]),h c];split<;>simp[*]
 ·rw[if_pos c,decide_eq_false (λe=>c (by rw[e]))]
theorem MD {R:Type} {xs ys:List Int} {i n:Nat} (hi:i<xs.length) (hi':i<ys.length) (hn:i<n) (hx:xs.length<=zP) (next:Int->Option R) (no yes:Option R):
  (cond (decide ((i:Int)<(n:Int))) ((idx xs i).bind λe1=>(idx ys i).bind λe2=>cond (e1 !=e2) no (next (i64.wrap ((i:Int)+(1:Int))))) yes)=if xs[i]=ys[i]then next ((i+1:Nat):Int)else no:=by
 unfold zP at hx;rw[ab,if_pos (by omega),aL,aL,ai hi,ai hi',W6,W6,ar hi (by omega)];rw[s7]
theorem pJ {k:Nat} {xs ys:List Int} (hk:xs.length<k) (hx:xs.length<=zP):gq k xs ys=some (decide (xs=ys)):=
 Te λc=>OZ xs ys c (λi hi hi' next=>MD hi hi' hi hx next _ _) (λnext=>Td _ _) hk
theorem JM {xs ys:List Int} (hx:∀x∈xs,okB x) (hy:∀x∈ys,okB x):bytesOf xs=bytesOf ys↔xs=ys:=by
 refine⟨λh=>?_,λh=>by rw[h]⟩;unfold bytesOf at h
 induction xs generalizing ys with
 |nil=>cases ys<;>simp_all
 |cons x xs ih=>
  cases ys with
  |nil=>simp at h
  |cons y ys=>
   simp only[XQ,X6]at h;have h1:=hx x (by simp);have h2:=hy y (by simp);unfold okB at h1 h2
   have e:x=y:=by
    have:=congrArg UInt8.toNat h.1;simp at this;omega
   rw[e,ih (λz hz=>hx z (by simp[hz])) (λz hz=>hy z (by simp[hz])) h.2]
theorem oS {k:Nat} {xs ys:List Int} (hx:∀x∈xs,okB x) (hy:∀x∈ys,okB x):mN k xs ys=some (decide (xs=ys)):=by
 unfold mN
 congr 1
 rw[Zg];simp[JM hx hy]
theorem zA {k:Nat} {a b:aD} (hk:a.data.length<k) (ha:a.data.length<=zP):lR k a b=some (decide (a=b)):=by
 obtain⟨⟨s1,s2,s3⟩,d⟩:=a;obtain⟨⟨t1,t2,t3⟩,d'⟩:=b;simp only at hk ha;unfold lR;simp only[W6,pJ hk ha];by_cases h1:s1=t1<;>by_cases h2:s2=t2<;>by_cases h3:s3=t3<;>by_cases h4:d=d'<;>simp[h1,h2,h3,h4,s7,dF]
theorem we {k:Nat} {a b:Step} (hk:a.input.data.length<k) (ha:a.Ok) (hb:b.Ok):ka k a b=some (decide (a=b)):=by
 have h2:=ha.2.2.2.2.2.1;have h3:=ha.2.2.2.1.2;have h4:=hb.2.2.2.1.2;obtain⟨a1,a2,a3,a4,a5⟩:=a;obtain⟨b1,b2,b3,b4,b5⟩:=b;simp only at hk h2 h3 h4;unfold ka;simp only[oS h3 h4,W6,zA hk h2];by_cases h1:a1=b1<;>by_cases h2:a2=b2<;>by_cases h3:a3=b3<;>by_cases h4:a4=b4<;>by_cases h5:a5=b5<;>simp[h1,h2,h3,h4,h5,s7,dF]
end Go.Proofs.Ev
namespace Go.Proofs.Ev
open IntKind(i64 u8 u64)
def marked (m:Int) (n:Nat):List Int:=(List.range n).map λ(i:Nat)=>m+(i:Int)
@[simp] theorem Ra (m:Int) (n:Nat):(marked m n).length=n:=by simp[marked]
def inB (x a b:Int):Bool:=decide (a<=x/\x<=b)
theorem bR (k:Nat) (x a b:Int):bm k x a b=some (inB x a b):=by
 unfold bm inB;rw[ab];by_cases h:a<=x<;>simp[h]
theorem fH (k:Nat) (x a b:Int):tY k x a b=some (inB x a b):=by
 unfold tY inB;rw[ab];by_cases h:a<=x<;>simp[h]
def Shape.okB (s:Shape):Bool:=inB s.h 1 8&&(inB s.w 1 8&&inB s.c 1 8)
theorem lj (k:Nat) (s:Shape):kW k s=some s.okB:=by
 unfold kW Shape.okB;simp only[bR,aa];cases inB s.h 1 8<;>cases inB s.w 1 8<;>rfl
theorem sn (k:Nat) (s:Shape):pq k s=some s.okB:=by
 unfold pq Shape.okB;simp only[fH,aa];cases inB s.h 1 8<;>cases inB s.w 1 8<;>rfl
theorem Shape.tC {s:Shape} (h:s.okB=true):1<=s.h/\s.h<=8/\1<=s.w/\s.w<=8/\1<=s.c/\s.c<=8:=by
 simp only[Shape.okB,inB,W3,decide_eq_true_eq]at h;omega
def Shape.size (s:Shape):Int:=cond s.okB (s.h*s.w*s.c) 0
theorem Shape.Fp (s:Shape):0<=s.size/\s.size<=512:=by
 unfold Shape.size;cases h:s.okB
 ·simp
 ·obtain⟨h1,h2,h3,h4,h5,h6⟩:=Shape.tC h;have:=rY (show 0<=s.h by omega) h2 (show 0<=s.w by omega) h4;have:=rY this.1 this.2 (show 0<=s.c by omega) h6;simpa using this
theorem Ht {s:Shape} (h:s.okB=true):i64.wrap (i64.wrap (s.h*s.w)*s.c)=s.h*s.w*s.c:=by
 obtain⟨h1,h2,h3,h4,h5,h6⟩:=Shape.tC h;have a:=rY (show 0<=s.h by omega) h2 (show 0<=s.w by omega) h4;have b:=rY a.1 a.2 (show 0<=s.c by omega) h6;rw[aF (n:=s.h*s.w) (by omega) (by omega),aF (by omega) (by omega)]
theorem iQ (k:Nat) (s:Shape):bY k s=some s.size:=by
 unfold bY Shape.size;simp only[lj,aa,cond_not];cases h:s.okB
 ·rfl
 ·simp only[cond_true,Ht h]
theorem uS (k:Nat) (s:Shape):kA k s=some s.size:=by
 unfold kA Shape.size;simp only[sn,aa,cond_not];cases h:s.okB
 ·rfl
 ·simp only[cond_true,Ht h]
def rh (xs:List Int):Bool:=xs.all λx=>inB x (-128) 127
def aD.okB (t:aD):Bool:=t.sh.okB&&(decide ((t.data.length:Int)=t.sh.size)&&rh t.data)
theorem jJ {k:Nat} {t:aD} (hk:t.data.length<k) (hx:t.data.length<=zP):gP k t=some t.okB:=by
 unfold zP at hx;unfold gP aD.okB;simp only[lj,iQ,aa,cond_not,s7];cases t.sh.okB
 ·rfl
 simp only[cond_true,Xf];by_cases h:(t.data.length:Int)=t.sh.size
 ·rw[if_pos h,decide_eq_true h,Xf]
  rw[nO t.data (λx=>inB x (-128) 127) (λi hi next=>by
   simp only[lQ,ab,il,bR,aa,cond_not]
   rw[if_pos (by omega),aL,ai hi,aa,ar hi (by omega)]) (λnext=>by
   simp only[lQ,ab];rw[if_neg (by omega)]) hk]
  show _=some (t.data.all _);cases t.data.all λx=>inB x (-128) 127<;>rfl
 ·rw[if_neg h,decide_eq_false h];rfl
theorem cI {α:Type} {p:α->Bool} (xs:List α):((xs.findIdx? p).elim (some (-1:Int)) λi=>some (i:Int))=some ((xs.findIdx? p).elim (-1) λi=>(i:Int)):=by
 cases xs.findIdx? p<;>rfl
theorem mv {α:Type} {p:α->Bool} (xs:List α):decide (((xs.findIdx? p).elim (-1:Int) λi=>(i:Int))>=0)=xs.any p:=by
 cases h:xs.findIdx? p with
 |none=>
  rw[X9]at h
  have:xs.any p=false:=by simpa using h
  rw[this];rfl
 |some i=>
  have:xs.any p=true:=by
   have:=Yf.1 h;obtain⟨hi,hp,_⟩:=this;exact List.any_eq_true.2 ⟨_,W9 hi,hp⟩
  rw[this];simp
theorem wg {k:Nat} {xs:List Int} (hk:xs.length<k) (hx:xs.length<=zP):pt k xs=some (rh xs):=by
 unfold zP at hx;unfold pt bI b7
 rw[er xs (λx=>!inB x (-128) 127) (λi hi next=>by
  simp only[bd,ab,qt,fH,aa]
  rw[if_pos (by omega),aL,ai hi,aa,ar hi (by omega)]) (λnext=>by
  simp only[bd,ab];rw[if_neg (by omega)]) hk]
 rw[cI];simp only[aa,mv];unfold rh;rw[Yv];simp
theorem l5 {k:Nat} {t:aD} (hk:t.data.length<k) (hx:t.data.length<=zP):iV k t=some t.okB:=by
 unfold iV aD.okB;simp only[sn,uS,aa,dF,wg hk hx];cases t.sh.okB
 ·rfl
 simp only[cond_true,Xf];by_cases h:(t.data.length:Int)=t.sh.size
 ·rw[if_pos h,decide_eq_true h,Xf]
 ·rw[if_neg h,decide_eq_false h];rfl
theorem bO {a b:Nat} {α:Type} {x y:α} (h:a<=b):cond (Nat.ble a b) x y=x:=by rw[Yr h];rfl
theorem lk {k:Nat} {xs:List Int} (hk:xs.length<k) (hx:xs.length<=aO):kV k xs=some xs:=by
 rw[ak]at hx;unfold kV
 have:=s8 xs (λx=>x) (g:=λu next=>kU k xs u next (λy=>some y)) (fin:=some) (λi ys hi next hl=>by
  simp only[kU,ab]
  rw[if_pos (by omega),aL,ai hi,aa,bO (by rw[ak,hl];simp;omega),ar hi (by omega)]) (λys next=>by
  simp only[kU,ab];rw[if_neg (by omega)]) hk
 simpa using this
theorem wi {ρ:Type} (x:Option ρ):both x x=x:=by unfold both;simp
theorem cY {k:Nat} {xs:List Int} (hx:xs.length<=aO):cg k xs=some xs:=by
 unfold cg;rw[bO (by simpa using hx)]
 cases xs with
 |nil=>simp only[isNil,cond_true,Xo];exact wi _
 |cons x l=>rfl
theorem wj {k:Nat} {t:aD} (hx:t.data.length<=aO):mM k t=some t:=by
 unfold mM;rw[cY hx];rfl
theorem yU {k:Nat} {t:aD} (hk:t.data.length<k) (hx:t.data.length<=aO):rZ k t=some t:=by
 unfold rZ;rw[lk hk hx];rfl
end Go.Proofs.Ev
namespace Go.Proofs.Ev
open IntKind(i64 u8 u64)
def aD.tot (x:aD):Nat:=x.data.length+(0)
def aq.tot (x:aq):Nat:=x.weights.length+(x.my.length+(0))
def Model.tot (x:Model):Nat:=gp aq.tot x.aE+(0)
def Job.tot (x:Job):Nat:=x.model.tot+(x.act.tot+(0))
def Task.tot (x:Task):Nat:=x.ax.length+(0)
def al.tot (x:al):Nat:=gp Task.tot x.tasks+(0)
def Request.tot (x:Request):Nat:=x.job.tot+(0)
def Runtime.tot (x:Runtime):Nat:=x.sched.tot+(gp Model.tot x.aB+(x.aC.length+(gp Request.tot x.ag+(0))))
def Step.tot (x:Step):Nat:=x.data.length+(x.input.tot+(0))
def Event.tot (x:Event):Nat:=x.out.tot+(0)
def Entry.tot (x:Entry):Nat:=x.model.tot+(x.input.tot+(0))
end Go.Proofs.Ev
namespace Go.Proofs.Ev
open IntKind(i64 u8 u64)
end Go.Proofs.Ev
namespace Go.Proofs.Ev
open IntKind(i64 u8 u64)
theorem O5 {β R:Type} (n:Nat) (f:Nat->β) {g:Int× List β->(Int× List β->Option R)->Option R} {fin:List β->Option R}
  (h:∀(i:Nat) (ys:List β) (hi:i<n) (next:Int× List β->Option R),ys.length=i->g ((i:Int),ys) next=next (((i+1:Nat):Int),ys++[f i]))
  (hn:∀ys next,g ((n:Int),ys) next=fin ys) {k:Nat} (hk:n<k):iter g k (0,[])=fin ((List.range n).map f):=by
 have:=ff (g:=g) (st:=λi=>((i:Int),(List.range i).map f)) (n:=n) (r:=fin ((List.range n).map f)) (λi hi next=>by
  rw[h i _ hi next (by simp),YC,Yl];rfl) (λnext=>hn _ _) hk
 simpa using this
def takes (x:Step):Int:=cond (inB x.kind 4 5&&inB x.a 0 200) x.a 0
theorem Fq {k:Nat} {xs:List Int} (hk:xs.length<k) (hx:xs.length<=aO):s9 k xs=some xs:=by
 rw[ak]at hx;unfold s9
 have:=s8 xs (λx=>x) (g:=λu next=>jz k xs u next (λy=>some y)) (fin:=some) (λi ys hi next hl=>by
  simp only[jz,ab]
  rw[if_pos (by omega),aL,ai hi,aa,bO (by rw[ak,hl];simp;omega),ar hi (by omega)]) (λys next=>by
  simp only[jz,ab];rw[if_neg (by omega)]) hk
 simpa using this
theorem ny {k:Nat} {xs:List Int} (hx:xs.length<=aO):dZ k xs=some xs:=by
 unfold dZ;rw[bO (by simpa using hx)]
 cases xs with
 |nil=>simp only[isNil,cond_true,Xo];exact wi _
 |cons x l=>rfl
end Go.Proofs.Ev
namespace Go.Proofs.Ev
open IntKind(i64 u8 u64)
theorem Br {b c:Bool}:cond b (some c) (some false)=some (b&&c):=by cases b<;>rfl
theorem dO {α:Type} {b:Bool} {x y:α}:cond (!b) x y=cond b y x:=by cases b<;>rfl
theorem pK {α:Type} (a b:Int) (x y:α):cond (a !=b) x y=cond (decide (a=b)) y x:=by rw[OY];by_cases h:a=b<;>simp[h]
theorem JN (a b:Int):(a==b)=decide (a=b):=S9 a b
def Iu (l:aq):Bool:=inB l.out 1 8&&(inB l.mult 0 2147483647&&(inB l.shift 0 31&&(inB l.zero (-128) 127&&(decide ((l.my.length:Int)=l.out)&&(l.my.all (λx=>inB x (-1000000) 1000000)&&rh l.weights)))))
def rn (l:aq):Bool:=decide (l.out=0)&&(decide (l.mult=0)&&(decide (l.shift=0)&&(decide ((l.weights.length:Int)=0)&&decide ((l.my.length:Int)=0))))
def oT (l:aq):Bool:=decide (l.size=0)&&decide (l.step=0)
def ME (s:Shape) (l:aq):Bool:=inB l.size 1 3&&(inB l.step 1 2&&(decide (l.size<=s.h)&&decide (l.size<=s.w)))
def fC (s:Shape) (l:aq):Bool:=s.okB&&
 (cond (decide (l.kind=0)) (oT l&&(Iu l&&(decide (s.size<=64)&&decide ((l.weights.length:Int)=l.out*s.size))))
 (cond (decide (l.kind=1)) (ME s l&&(Iu l&&(decide ((l.weights.length:Int)=l.out*l.size*l.size*s.c)&&decide ((l.weights.length:Int)<=600))))
 (cond (decide (l.kind=2)||decide (l.kind=3)) (ME s l&&(rn l&&decide (l.zero=0)))
 (cond (decide (l.kind=4)) (oT l&&(rn l&&inB l.zero (-128) 127))
 (cond (decide (l.kind=5)) (oT l&&(rn l&&(decide (l.zero=0)&&decide (s.size<=8)))) false)))))
def tD (s:Shape) (l:aq) (c:Int):Shape:=
 ⟨i64.wrap ((i64.wrap ((i64.wrap (s.h-l.size)).tdiv l.step))+1),i64.wrap ((i64.wrap ((i64.wrap (s.w-l.size)).tdiv l.step))+1),c⟩
def shapeOf (s:Shape) (l:aq):Shape:=
 cond (decide (l.kind=0)) ⟨1,1,l.out⟩ (cond (decide (l.kind=1)) (tD s l l.out) (cond (decide (l.kind=4)) s (cond (decide (l.kind=5)) ⟨1,1,s.size⟩ (tD s l s.c))))
def kn:Shape:=⟨0,0,0⟩
def jK (s:Shape) (l:aq):Shape× Bool:=cond (fC s l) (shapeOf s l,true) (kn,false)
theorem yV (k:Nat) (x:Int):il k x=some (inB x (-128) 127):=by unfold il;rw[bR,aa]
theorem JO {k:Nat} {l:aq} (hk:l.tot<k) (hN:l.tot<=aO) (fin:Option Bool):
    (iter (λu16 n16=>gQ k (l.kind,l.out,l.size,l.step,l.mult,l.shift,l.zero,l.weights,l.my) u16 n16 (λy9=>iter (λu14 n14=>gR k (l.kind,l.out,l.size,l.step,l.mult,l.shift,l.zero,l.weights,l.my) u14 n14 (λy12=>fin) (λy13=>some y13)) k (0:Int)) (λy15=>some y15)) k (0:Int))
      =cond (l.my.all (λx=>inB x (-1000000) 1000000)) (cond (rh l.weights) fin (some false)) (some false):=by
  have hM:=ak;unfold aq.tot at hk hN
  rw [nO l.my (λ x => inB x (-1000000) 1000000) (yes := cond (rh l.weights) fin (some false)) (no := some false) (λ i hi next => by
    simp only[gQ]
    rw[ab,if_pos (by omega),aL,ai hi,aa,bR,aa,cond_not,ar hi (by omega)]) (λnext=>by
    simp only[gQ];rw[ab,if_neg (by omega)]
    exact nO l.weights (λx=>inB x (-128) 127) (λi hi next=>by
      simp only[gR]
      rw[ab,if_pos (by omega),aL,ai hi,aa,yV,aa,cond_not,ar hi (by omega)]) (λnext=>by
      simp only[gR];rw[ab,if_neg (by omega)]) (by omega)) (by omega)]
def Bs (l:aq) (window weighs:Bool):Bool:=
 cond window (inB l.size 1 3&&inB l.step 1 2) (oT l)&&cond weighs (Iu l) (rn l&&cond (decide (l.kind=4)) (inB l.zero (-128) 127) (decide (l.zero=0)))
theorem Tf (n:Nat):decide ((n:Int)>0)=!decide ((n:Int)=0):=by
 grind
theorem Fs {k:Nat} {l:aq} (hk:l.tot<k) (hN:l.tot<=aO) (a b:Bool):ta k l a b=some (Bs l a b):=by
 unfold ta Bs Iu rn oT;simp only[bR,yV,aa,dO,pK,JO hk hN,Tf,JN];grind
theorem aY {x a b:Int}:inB x a b=true↔a<=x/\x<=b:=by unfold inB;simp
theorem sq {s:Shape} {l:aq} (h:ME s l=true):1<=l.size/\l.size<=3/\1<=l.step/\l.step<=2/\l.size<=s.h/\l.size<=s.w:=by
 simp only[ME,W3,aY,decide_eq_true_eq]at h;omega
theorem zX {l:aq} (h:Iu l=true):1<=l.out/\l.out<=8:=by
 simp only[Iu,W3,aY]at h;omega
theorem Hu {o z c:Int} (h1:1<=o) (h2:o<=8) (h3:1<=z) (h4:z<=3) (h5:1<=c) (h6:c<=8):
  i64.wrap (i64.wrap (i64.wrap (o*z)*z)*c)=o*z*z*c/\i64.wrap (o*i64.wrap (i64.wrap (z*z)*c))=o*z*z*c:=by
 have a1:=rY (show 0<=o by omega) h2 (show 0<=z by omega) h4;have a2:=rY a1.1 a1.2 (show 0<=z by omega) h4;have a3:=rY a2.1 a2.2 (show 0<=c by omega) h6;have b1:=rY (show 0<=z by omega) h4 (show 0<=z by omega) h4;have b2:=rY b1.1 b1.2 (show 0<=c by omega) h6;have b3:=rY (show 0<=o by omega) h2 b2.1 b2.2;refine⟨?_,?_⟩
 ·rw[aF (n:=o*z) (by omega) (by omega),aF (n:=o*z*z) (by omega) (by omega),aF (by omega) (by omega)]
 ·rw[aF (n:=z*z) (by omega) (by omega),aF (n:=z*z*c) (by omega) (by omega),aF (by omega) (by omega),<-ZB,<-ZB]
theorem DL {o:Int} {s:Shape} (h1:1<=o) (h2:o<=8):i64.wrap (o*s.size)=o*s.size:=by
 have h:=Shape.Fp s;have a1:=rY (show 0<=o by omega) h2 h.1 h.2;exact aF (by omega) (by omega)
theorem l7 {k:Nat} {s:Shape} {l:aq} (hk:l.tot<k) (hN:l.tot<=aO):ke k s l=some (jK s l):=by
  unfold ke jK fC;simp only[lj,bR,iQ,Fs hk hN,aa,dO,pK,JN];cases hs:s.okB
  · rfl
  obtain⟨c1,c2,c3,c4,c5,c6⟩:=Shape.tC hs;simp only[cond_true,Xf];by_cases k0:l.kind=0
  · have e1:inB l.kind 0 5=true:=by rw[aY];omega
    have e2:inB l.kind 1 3=false:=by rw[<-Bool.not_eq_true,aY];omega
    simp only[k0,e1,e2,cond_true,cond_false,Bs,shapeOf,decide_true];simp only[k0]at e1 e2;simp only[e1,e2,cond_true,cond_false,show decide ((0:Int)<=1)=true from rfl];cases oT l
    · rfl
    cases Tg:Iu l
    · rfl
    obtain⟨o1,o2⟩:=zX Tg;simp only[DL o1 o2,Xf,cond_true];by_cases z:s.size<=64
    · rw[decide_eq_true z,decide_eq_false (by omega)];cases decide ((l.weights.length:Int)=l.out*s.size)<;>rfl
    · rw[decide_eq_false z,decide_eq_true (by omega)];rfl
  by_cases k1:l.kind=1
  · simp only[k1,Bs,shapeOf,show inB 1 0 5=true from rfl,show inB 1 1 3=true from rfl,decide_true,cond_true,cond_false,show decide ((1:Int)=0)=false from rfl,show decide ((1:Int)<=1)=true from rfl];unfold ME;cases hz:inB l.size 1 3
    · rfl
    cases ht:inB l.step 1 2
    · rfl
    rw[aY]at hz ht;simp only[Xf,cond_true];cases Tg:Iu l
    · simp only[cond_false,X4,YM];rfl
    obtain⟨o1,o2⟩:=zX Tg;simp only[cond_true,Xf,(Hu o1 o2 hz.1 hz.2 c5 c6).1];rw[decide_eq_false (show¬l.step=0 by omega)];simp only[cond_false];by_cases w1:l.size<=s.h
    · rw [decide_eq_true w1, decide_eq_false (show ¬ l.size > s.h by omega)];by_cases w2:l.size<=s.w
      · rw[decide_eq_true w2,decide_eq_false (show¬l.size>s.w by omega)];simp only[cond_false,Xf];cases decide ((l.weights.length:Int)=l.out*l.size*l.size*s.c)
        · rfl
        · by_cases w3:(l.weights.length:Int)<=600
          · rw[decide_eq_true w3,decide_eq_false (by omega)];rfl
          · rw[decide_eq_false w3,decide_eq_true (by omega)];rfl
      · rw[decide_eq_false w2,decide_eq_true (show l.size>s.w by omega)];rfl
    · rw[decide_eq_false w1,decide_eq_true (show l.size>s.h by omega)];rfl
  have win:l.kind=2\/l.kind=3->_:=λh23=>by
    have e1:inB l.kind 0 5=true:=by rw[aY];omega
    have e2:inB l.kind 1 3=true:=by rw[aY];omega
    have e3:decide (l.kind<=1)=false:=decide_eq_false (by omega)
    have e4:(decide (l.kind=2)||decide (l.kind=3))=true:=by simpa using h23
    have e5:decide (l.kind=4)=false:=decide_eq_false (by omega);have e6:decide (l.kind=5)=false:=decide_eq_false (by omega);exact And.intro e1 (And.intro e2 (And.intro e3 (And.intro e4 (And.intro e5 e6))))
  by_cases h23:l.kind=2\/l.kind=3
  · obtain⟨e1,e2,e3,e4,e5,e6⟩:=win h23;simp only[e1,e2,e3,e4,e5,e6,decide_eq_false k0,decide_eq_false k1,Bs,shapeOf,cond_true,cond_false];unfold ME;cases hz:inB l.size 1 3
    · rfl
    cases ht:inB l.step 1 2
    · rfl
    rw[aY]at hz ht;simp only[Xf,cond_true];rw[decide_eq_false (show¬l.step=0 by omega)];cases rn l
    · simp only[X4,YM,cond_false];rfl
    cases decide (l.zero=0)
    · simp only[X4,YM,cond_false];rfl
    simp only[cond_false,cond_true,Zf,Xf];by_cases w1:l.size<=s.h
    · rw[decide_eq_true w1,decide_eq_false (show¬l.size>s.h by omega)];by_cases w2:l.size<=s.w
      · rw[decide_eq_true w2,decide_eq_false (show¬l.size>s.w by omega)];rfl
      · rw[decide_eq_false w2,decide_eq_true (show l.size>s.w by omega)];rfl
    · rw[decide_eq_false w1,decide_eq_true (show l.size>s.h by omega)];rfl
  have e4:(decide (l.kind=2)||decide (l.kind=3))=false:=by simpa using h23
  by_cases k4:l.kind=4
  · simp only[k4,e4,Bs,shapeOf,show inB 4 0 5=true from rfl,show inB 4 1 3=false from rfl,decide_true,cond_true,cond_false,show decide ((4:Int)=0)=false from rfl,show decide ((4:Int)=1)=false from rfl,show decide ((4:Int)<=1)=false from rfl,
      show(decide ((4:Int)=2)||decide ((4:Int)=3))=false from rfl,show decide ((4:Int)=5)=false from rfl]
    cases oT l<;>cases rn l<;>cases inB l.zero (-128) 127<;>rfl
  by_cases k5:l.kind=5
  · simp only[k5,Bs,shapeOf,show inB 5 0 5=true from rfl,show inB 5 1 3=false from rfl,decide_true,cond_true,cond_false,show decide ((5:Int)=0)=false from rfl,show decide ((5:Int)=1)=false from rfl,show decide ((5:Int)<=1)=false from rfl,
      show(decide ((5:Int)=2)||decide ((5:Int)=3))=false from rfl,show decide ((5:Int)=4)=false from rfl]
    by_cases z:s.size<=8
    · rw[decide_eq_true z,decide_eq_false (show¬s.size>8 by omega)];cases oT l<;>cases rn l<;>cases decide (l.zero=0)<;>rfl
    · rw[decide_eq_false z,decide_eq_true (show s.size>8 by omega)];cases oT l<;>cases rn l<;>cases decide (l.zero=0)<;>rfl
  · have e1:inB l.kind 0 5=false:=by rw[<-Bool.not_eq_true,aY];omega
    simp only[e1,e4,decide_eq_false k0,decide_eq_false k1,decide_eq_false k4,decide_eq_false k5,cond_false];rfl
theorem wm (k:Nat) (l:aq):gv k l=some (oT l):=by
 unfold gv oT;grind
theorem xG (k:Nat) (l:aq):fT k l=some (rn l):=by
 unfold fT rn;grind
theorem uT (k:Nat) (s:Shape) (l:aq):fN k l s=some (ME s l):=by
 unfold fN ME;simp only[fH,aa,Br]
 congr 1
 rw[Zg];simp only[W3,aY,decide_eq_true_eq];grind
theorem JP {k:Nat} {xs:List Int} (hk:xs.length<k) (hx:xs.length<=zP):bo k xs=some (!xs.all (λx=>inB x (-1000000) 1000000)):=by
 unfold zP at hx;unfold bo cO
 rw[er xs (λx=>!inB x (-1000000) 1000000) (λi hi next=>by
  simp only[bn,ab,mO,fH,aa]
  rw[if_pos (by omega),aL,ai hi,aa,ar hi (by omega)]) (λnext=>by
  simp only[bn,ab];rw[if_neg (by omega)]) hk]
 rw[cI];simp only[aa,mv];rw[Yv];simp
theorem uU {k:Nat} {l:aq} {n:Int} (hk:l.tot<k) (hN:l.tot<=aO):iz k l n=some (Iu l&&decide ((l.weights.length:Int)=i64.wrap (l.out*n))):=by
 have hM:=ak;unfold aq.tot at hk hN;unfold iz Iu;simp only[fH,aa,wg (xs:=l.weights) (k:=k) (by omega) (by unfold zP;omega),JP (xs:=l.my) (k:=k) (by omega) (by unfold zP;omega),JN,Zt,Br];grind
theorem jL (k:Nat) {s:Shape} {l:aq} (c:Int) (h:1<=l.step):gw k l s c=some (tD s l c):=by
 unfold gw tD;grind
theorem qP {k:Nat} {s:Shape} {l:aq} (hk:l.tot<k) (hN:l.tot<=aO):px k s l=some (jK s l):=by
 unfold px jK fC;simp only[sn,fH,uS,wm,xG,uT,uU hk hN,aa,dO,JN];cases hs:s.okB
 ·rfl
 obtain⟨c1,c2,c3,c4,c5,c6⟩:=Shape.tC hs;simp only[cond_true,Xf];by_cases k0:l.kind=0
 ·simp only[k0,shapeOf,decide_true,cond_true];cases Tg:Iu l
  ·cases decide (s.size<=64)<;>cases oT l<;>rfl
  obtain⟨o1,o2⟩:=zX Tg;simp only[DL o1 o2];cases decide (s.size<=64)<;>cases oT l<;>cases decide ((l.weights.length:Int)=l.out*s.size)<;>rfl
 by_cases k1:l.kind=1
 ·simp only[k1,shapeOf,show decide ((1:Int)=0)=false from rfl,decide_true,cond_true,cond_false];cases hw:ME s l
  ·rfl
  have hw:=sq hw;cases Tg:Iu l
  ·cases decide ((l.weights.length:Int)<=600)<;>rfl
  obtain⟨o1,o2⟩:=zX Tg;simp only[(Hu o1 o2 hw.1 hw.2.1 c5 c6).2,jL k _ hw.2.2.1,aa];cases decide ((l.weights.length:Int)<=600)<;>cases decide ((l.weights.length:Int)=l.out*l.size*l.size*s.c)<;>rfl
 simp only[decide_eq_false k0,decide_eq_false k1,cond_false];by_cases k2:l.kind=2
 ·simp only[k2,shapeOf,decide_true,Bool.true_or,cond_true,cond_false,show decide ((2:Int)=0)=false from rfl,show decide ((2:Int)=1)=false from rfl,show decide ((2:Int)=4)=false from rfl,show decide ((2:Int)=5)=false from rfl];cases hw:ME s l
  ·rfl
  have hw:=sq hw;simp only[jL k _ hw.2.2.1,aa];cases rn l<;>cases decide (l.zero=0)<;>rfl
 by_cases k3:l.kind=3
 ·simp only[k3,shapeOf,decide_true,YJ,cond_true,cond_false,show decide ((3:Int)=0)=false from rfl,show decide ((3:Int)=1)=false from rfl,show decide ((3:Int)=2)=false from rfl,show decide ((3:Int)=4)=false from rfl,show decide ((3:Int)=5)=false from rfl];cases hw:ME s l
  ·rfl
  have hw:=sq hw;simp only[jL k _ hw.2.2.1,aa];cases rn l<;>cases decide (l.zero=0)<;>rfl
 simp only[decide_eq_false k2,decide_eq_false k3,Bool.or_self,cond_false];by_cases k4:l.kind=4
 ·simp only[k4,shapeOf,decide_true,cond_true,cond_false,show decide ((4:Int)=0)=false from rfl,show decide ((4:Int)=1)=false from rfl];cases oT l<;>cases rn l<;>cases inB l.zero (-128) 127<;>rfl
 by_cases k5:l.kind=5
 ·simp only[k5,shapeOf,decide_true,cond_true,cond_false,show decide ((5:Int)=0)=false from rfl,show decide ((5:Int)=1)=false from rfl,show decide ((5:Int)=4)=false from rfl];cases oT l<;>cases rn l<;>cases decide (l.zero=0)<;>cases decide (s.size<=8)<;>rfl
 simp only[decide_eq_false k4,decide_eq_false k5,cond_false];rfl
def bS:Shape->List aq->Option (List Shape)
 |_,[]=>some []
 |s,l::ls=>cond (fC s l) ((bS (shapeOf s l) ls).map (shapeOf s l::·)) none
theorem ui:∀(ls:List aq) (s:Shape) (t:List Shape),bS s ls=some t->t.length=ls.length
 |[],s,t,h=>by cases h;rfl
 |l::ls,s,t,h=>by
  simp only[bS]at h;cases hb:fC s l<;>simp only[hb,cond_true,cond_false]at h
  ·grind
  ·obtain⟨t',h1,rfl⟩:=Xb.1 h;simp[ui ls _ _ h1]
theorem uV {R:Type} {aE:List aq} {V:Type} {st:Nat->List Shape->Shape->V} {g:V->(V->Option R)->Option R} {fin:List Shape->Option R} {bad:Option R}
    (h:∀(i:Nat) (ys:List Shape) (s:Shape) (hi:i<aE.length) (next:V->Option R),ys.length=i+1->ys[i]? =some s->g (st i ys s) next=cond (fC s aE[i]) (next (st (i+1) (ys++[shapeOf s aE[i]]) (shapeOf s aE[i]))) bad)
    (hn:∀ys s next,g (st aE.length ys s) next=fin ys):∀(rest:List aq) (i:Nat) (ys:List Shape) (s:Shape) (k:Nat),i<=aE.length->aE.drop i=rest->ys.length=i+1->ys[i]? =some s->rest.length<k->
      iter g k (st i ys s)=(bS s rest).elim bad λt=>fin (ys++t)
  |[],i,ys,s,0,hle,hd,hl,hs,hk=>by omega
  |_::_,i,ys,s,0,hle,hd,hl,hs,hk=>by omega
  | [], i, ys, s, k + 1, hle, hd, hl, hs, hk => by
    have h1:=congrArg List.length hd;simp only[XZ,Xg]at h1;rw[aS]
    have c:i=aE.length:=by omega
    subst c;rw[hn];simp[bS]
  | l :: ls, i, ys, s, k + 1, hle, hd, hl, hs, hk => by
    have hi:i<aE.length:=by
      grind
    rw[jx hi]at hd
    injection hd with h1 h2
    rw[aS,h i ys s hi _ hl hs,h1];simp only[bS];cases hb:fC s l
    · rfl
    · simp only[cond_true];rw[uV h hn ls (i+1) (ys++[shapeOf s l]) (shapeOf s l) k (by omega) h2 (by simp[hl]) (by rw[Xd (by omega),hl];simp) (by simpa using hk)]
      cases bS (shapeOf s l) ls with
      |none=>rfl
      |some t=>simp
def dT (m:Model):List Shape× Bool:=cond (m.inp.okB&&inB (m.aE.length:Int) 1 6) ((bS m.inp m.aE).elim ([],false) λt=>(m.inp::t,true)) ([],false)
theorem wo {m:Model} {k:Nat} (hk:m.tot<k) (hN:m.tot<=aO) {l:aq} (h:l∈m.aE):l.tot<k/\l.tot<=aO:=by
 have:=jy aq.tot h;unfold Model.tot at hk hN;omega
theorem gZ {m:Model} {k:Nat} (hk:m.tot<k) (hN:m.tot<=aO):m.aE.length<k/\m.aE.length<=aO:=by
 have:=bu aq.tot m.aE;unfold Model.tot at hk hN;omega
theorem oU {k:Nat} {m:Model} (hk:m.tot<k) (hN:m.tot<=aO):kg k m=some (dT m):=by
  have hM:=ak;obtain⟨hlk,hlN⟩:=gZ hk hN;unfold kg dT;simp only[lj,bR,aa,dO];cases m.inp.okB
  · rfl
  cases hlen:inB (m.aE.length:Int) 1 6
  · rfl
  rw[aY]at hlen;simp only[cond_true,Xf]
  have:=uV (aE:=m.aE) (V:=Int× List Shape) (st:=λi ys s=>((i:Int),ys)) (fin:=λy=>some (y,true)) (bad:=some (([]:List Shape),false))
    (g:=λu next=>im k (m.inp.h,m.inp.w,m.inp.c,m.aE) u next (λy6=>some (y6,true)) (λy7=>some (([]:List Shape),y7))) (λi ys s hi next hl hs=>by
      obtain⟨a1,a2⟩:=wo hk hN (W9 hi);simp only[im];rw[ab,if_pos (by omega),ab,if_pos (by omega),W4,hs,aa,aL,ai hi,aa,l7 a1 a2,aa,ar hi (by omega),bO (by simp;omega)];unfold jK
      cases fC s m.aE[i]<;>rfl) (λys s next=>by
      simp only[im];rw[ab,if_neg (by omega)]) m.aE 0 [m.inp] m.inp k (by omega) rfl rfl rfl hlk
  refine this.trans ?_;cases bS m.inp m.aE<;>rfl
def wq (m:Model):List Shape× Bool:=(bS m.inp m.aE).elim ([],false) λt=>(m.inp::t,true)
theorem pL {k:Nat} {m:Model} (hk:m.tot<k) (hN:m.tot<aO):kB k m=some (wq m):=by
  have hM:=ak;obtain⟨hlk,hlN⟩:=gZ hk (Zu hN)
  have hb:m.aE.length+1<=aO:=by have:=bu aq.tot m.aE;unfold Model.tot at hN;omega
  unfold kB wq
  have := uV (aE := m.aE) (V := Int × List Shape × Int × Int × Int) (st := λ i ys s => ((i : Int), ys, s.h, s.w, s.c)) (fin := λ y => some (y, true)) (bad := some (([] : List Shape), false))
      (g:=λu next=>gS k (m.aE,(m.aE.length:Int)) u next (λy3=>some (y3,true)) (λy4=>some (([]:List Shape),y4))) (λi ys s hi next hl hs=>by
        obtain⟨a1,a2⟩:=wo hk (Zu hN) (W9 hi);simp only[gS];rw[ab,if_pos (by omega),aL,ai hi,aa,qP a1 a2,aa,ar hi (by omega),bO (by simp;omega)];unfold jK
        cases fC s m.aE[i]<;>rfl) (λys s next=>by
        simp only[gS];rw[ab,if_neg (by omega)]) m.aE 0 [m.inp] m.inp k (by omega) rfl rfl rfl hlk
  refine this.trans ?_;cases bS m.inp m.aE<;>rfl
theorem MF {s:Shape} {ls:List aq} (hs:s.okB=false) (hl:ls≠[]):bS s ls=none:=by
 cases ls with
 |nil=>grind
 |cons l ls=>simp[bS,fC,hs]
def eu (m:Model):Bool:=(dT m).2
theorem yW {m:Model} (h:inB (m.aE.length:Int) 1 6=true):wq m=dT m:=by
 unfold wq dT;rw[h,Zf];cases hs:m.inp.okB
 ·rw[MF hs (λe=>by rw[e]at h;exact nomatch h)];rfl
 ·rfl
theorem DM {m:Model} (h:inB (m.aE.length:Int) 1 6=false):eu m=false:=by
 unfold eu dT;rw[h,YM];rfl
theorem sr {k:Nat} {m:Model} (hk:m.tot<k) (hN:m.tot<=aO):pw k m=some (eu m):=by
 unfold pw;rw[oU hk hN];rfl
theorem su {k:Nat} {m:Model} (hk:m.tot<k) (hN:m.tot<aO):py k m=some (eu m):=by
 unfold py;rw[fH,aa,dO,pL hk hN];cases h:inB (m.aE.length:Int) 1 6
 ·rw[DM h];rfl
 ·rw[yW h];rfl
def bZ (m:Model):List Shape:=cond (eu m) (dT m).1 []
theorem wu {k:Nat} {m:Model} (hk:m.tot<k) (hN:m.tot<aO):tb k m=some (bZ m):=by
 unfold tb bZ;rw[su hk hN,aa,dO,pL hk hN];cases h:eu m
 ·rfl
 ·have:inB (m.aE.length:Int) 1 6=true:=by
   cases h2:inB (m.aE.length:Int) 1 6
   ·rw[DM h2]at h;exact nomatch h
   ·rfl
  rw[yW this];rfl
theorem ot {m:Model} (h:eu m=true):(bZ m).length=m.aE.length+1:=by
 unfold bZ;rw[h,cond_true];unfold eu at h;unfold dT at h⊢;cases h1:(m.inp.okB&&inB (m.aE.length:Int) 1 6)<;>rw[h1]at h
 ·grind
 ·simp only[cond_true]at h⊢
  cases h2:bS m.inp m.aE with
  |none=>grind
  |some t=>simp[ui _ _ _ h2]
def O6 (s t:Shape) (l:aq):Int:=
  cond (decide (l.kind=0)) (i64.wrap (1+(i64.wrap ((i64.wrap (t.size*s.size)).tdiv 16))))
  (cond (decide (l.kind=1)) (i64.wrap (1+(i64.wrap ((i64.wrap ((i64.wrap ((i64.wrap (t.size*l.size))*l.size))*s.c)).tdiv 16))))
  (cond (decide (l.kind=2)) (i64.wrap (1+(i64.wrap ((i64.wrap ((i64.wrap (t.size*l.size))*l.size)).tdiv 16))))
  (cond (decide (l.kind=3)) (i64.wrap (1+(i64.wrap ((i64.wrap ((i64.wrap (t.size*l.size))*l.size)).tdiv 16))))
   (i64.wrap (1+(i64.wrap (s.size.tdiv 16)))))))
def Bt (s:Shape) (l:aq):Int:=cond (jK s l).2 (O6 s (jK s l).1 l) 0
theorem JQ {k:Nat} {s:Shape} {l:aq} (hk:l.tot<k) (hN:l.tot<=aO):zQ k s l=some (Bt s l):=by
 unfold zQ Bt O6;simp only[l7 hk hN,iQ,aa,dO,JN];grind
theorem JR {k:Nat} {s:Shape} {l:aq} (hk:l.tot<k) (hN:l.tot<=aO):Ff k s l=some (Bt s l):=by
 unfold Ff Bt O6;simp only[qP hk hN,uS,aa,dO,JN];grind
def bj (m:Model):List Int:=cond (eu m) ((List.range m.aE.length).map λi=>Bt ((bZ m).getD i kn) (m.aE.getD i ⟨0,0,0,0,0,0,0,[],[]⟩)) []
theorem db {α:Type} {xs:List α} {i:Nat} (h:i<xs.length) (d:α):xs.getD i d=xs[i]:=by rw[XR,ai h];rfl
theorem ln {k:Nat} {m:Model} (hk:m.tot<k) (hN:m.tot<=aO):kZ k m=some (bj m):=by
 have hM:=ak;obtain⟨hlk,hlN⟩:=gZ hk hN;unfold kZ bj;rw[oU hk hN,aa,dO];show cond (eu m) _ _=_;cases h:eu m
 ·rfl
 have hsl:=ot h
 have e:(dT m).1=bZ m:=by unfold bZ;rw[h];rfl
 simp only[cond_true,e]
 exact O5 m.aE.length _ (g:=λu next=>kY k (m.inp.h,m.inp.w,m.inp.c,m.aE,bZ m) u next (λy5=>some y5)) (fin:=some) (λi ys hi next hl=>by
  obtain⟨a1,a2⟩:=wo hk hN (W9 hi);simp only[kY]
  rw[ab,if_pos (by omega),ab,if_pos (by omega),W4,ai (show i<(bZ m).length by omega),aa,aL,ai hi,aa,JQ a1 a2,aa,bO (by simp;omega),ar hi (by omega),db (show i<(bZ m).length by omega),db hi]) (λys next=>by
  simp only[kY];rw[ab,if_neg (by omega)]) hlk
theorem lq {k:Nat} {m:Model} (hk:m.tot+1<k) (hN:m.tot<aO):mP k m=some (bj m):=by
  have hM:=ak;obtain⟨hlk,hlN⟩:=gZ (show m.tot<k-1 by omega) (Zu hN);unfold mP bj;rw[wu (by omega) hN,aa];cases h:eu m
  · have:bZ m=[]:=by unfold bZ;rw[h];rfl
    rw[this]
    cases k with
    |zero=>omega
    |succ k=>rfl
  have hsl:=ot h;simp only[cond_true];rw[hsl]
  have := ff (R := List Int) (g := λ u next => nP k (((m.aE.length + 1 : Nat) : Int), m.inp.h, m.inp.w, m.inp.c, m.aE, bZ m) u next (λ y5 => some y5)) (n := m.aE.length + 1)
    (st:=λi=>((i:Int),(List.range (min i m.aE.length)).map λi=>Bt ((bZ m).getD i kn) (m.aE.getD i ⟨0,0,0,0,0,0,0,[],[]⟩)))
    (r := some ((List.range m.aE.length).map λ i => Bt ((bZ m).getD i kn) (m.aE.getD i ⟨0, 0, 0, 0, 0, 0, 0, [], []⟩))) (λ i hi next => by
      simp only[nP];rw[ab,if_pos (by omega),ab,if_pos (by omega),W4,ai (show i<(bZ m).length by omega),aa,ar hi (by omega),ab];by_cases c:i<m.aE.length
      · obtain⟨a1,a2⟩:=wo (show m.tot<k by omega) (Zu hN) (W9 c);rw[if_pos (by omega),aL,ai c,aa,JR a1 a2,aa,bO (by simp;omega),YR (by omega),YR (by omega),YC,Yl,List.map_singleton,db (show i<(bZ m).length by omega),db c]
      · rw[if_neg (by omega),Nat.min_eq_right (by omega),Nat.min_eq_right (by omega)]) (λnext=>by
      simp only[nP]
      rw[ab,if_neg (by omega),Nat.min_eq_right (by omega)]) (k:=k) (by omega)
  simpa using this
def Bu (m:Model):Int:=(bj m).foldl (λs x=>i64.wrap (s+x)) 0
theorem ko (m:Model):(bj m).length<=m.aE.length:=by
 unfold bj;grind
theorem CM {k:Nat} {m:Model} (hk:m.tot<k) (hN:m.tot<=aO):qu k m=some (Bu m):=by
 have hM:=ak;obtain⟨hlk,hlN⟩:=gZ hk hN;have hc:=ko m;unfold qu;rw[ln hk hN,aa]
 exact rX (bj m) (λs x=>i64.wrap (s+x)) (g:=λu next=>iq k (bj m) u next (λy3=>some y3)) (fin:=some) 0 (λi s hi next _=>by
  simp only[iq]
  rw[ab,if_pos (by omega),ab,if_pos (by omega),W4,ai hi,aa,ar hi (by omega)]) (λnext=>by
  simp only[iq];rw[ab,if_neg (by omega)]) (by omega)
theorem Ft {k:Nat} {xs:List Int} (hk:xs.length<k) (hN:xs.length<=aO):Q8 k xs=some (xs.foldl (λs x=>i64.wrap (s+x)) 0):=by
 have hM:=ak
 exact rX xs (λs x=>i64.wrap (s+x)) (g:=λu next=>zR k (xs,(xs.length:Int)) u next (λy2=>some y2)) (fin:=some) 0 (λi s hi next _=>by
  simp only[zR]
  rw[ab,if_pos (by omega),aL,ai hi,aa,ar hi (by omega)]) (λnext=>by
  simp only[zR];rw[ab,if_neg (by omega)]) hk
theorem CN {k:Nat} {m:Model} (hk:m.tot+1<k) (hN:m.tot<aO):uN k m=some (Bu m):=by
 obtain⟨hlk,hlN⟩:=gZ (show m.tot<k by omega) (Zu hN);have hc:=ko m;unfold uN;rw[lq hk hN,aa,Ft (by omega) (by omega)];rfl
end Go.Proofs.Ev
namespace Go.Proofs.Ev
open IntKind(i64 u8 u64)
end Go.Proofs.Ev
namespace Go.Proofs.Ev
open IntKind(i64 u8 u64)
end Go.Proofs.Ev
namespace Go.Proofs.Ev
open IntKind(i64 u8 u64)
theorem Hv {k:Nat} {l:aq} (hk:l.tot<k) (hN:l.tot<=aO):vT k l=some l:=by
 unfold aq.tot at hk hN;unfold vT;rw[lk (by omega) (by omega),aa,lk (by omega) (by omega)];rfl
theorem xH {k:Nat} {l:aq} (hN:l.tot<=aO):oL k l=some l:=by
 unfold aq.tot at hN;unfold oL;rw[cY (by omega),aa,cY (by omega)];rfl
theorem xI {k:Nat} {xs:List aq} (hk:gp aq.tot xs<k) (hN:gp aq.tot xs<=aO):uh k xs=some xs:=by
 have hM:=ak;have hl:=bu aq.tot xs
 have:=s8 xs (λx=>x) (g:=λu next=>gX k (xs,(xs.length:Int)) u next (λy3=>some y3)) (fin:=some) (λi ys hi next hys=>by
  have hm:=jy aq.tot (W9 hi);simp only[gX]
  rw[ab,if_pos (by omega),aL,ai hi,aa,xH (by omega),aa,bO (by omega),ar hi (by omega)]) (λys next=>by
  simp only[gX];rw[ab,if_neg (by omega)]) (k:=k) (by omega)
 rw[Zv]at this;exact this
theorem xJ {k:Nat} {m:Model} (hk:m.tot<k) (hN:m.tot<=aO):oN k m=some m:=by
 unfold Model.tot at hk hN;unfold oN;rw[xI (by omega) (by omega)];rfl
theorem yX {k:Nat} {m:Model} (hk:m.tot<k) (hN:m.tot<=aO):vU k m=some m:=by
 have hM:=ak;obtain⟨hlk,hlN⟩:=gZ hk hN
 have:=s8 m.aE (λx=>x) (g:=λu next=>k9 k (m.inp.h,m.inp.w,m.inp.c,m.aE,(0:Int),(0:Int),(0:Int),m.inp.h,m.inp.w,m.inp.c) u next (λy3=>some (⟨m.inp,y3⟩:Model))) (fin:=λy3=>some (⟨m.inp,y3⟩:Model)) (λi ys hi next hys=>by
  obtain⟨a1,a2⟩:=wo hk hN (W9 hi);simp only[k9]
  rw[ab,if_pos (by omega),aL,ai hi,aa,Hv a1 a2,aa,bO (by omega),ar hi (by omega)]) (λys next=>by
  simp only[k9];rw[ab,if_neg (by omega)]) (k:=k) hlk
 rw[Zv]at this;exact this
theorem Bv {k:Nat} {j:Job} (hk:j.tot<k) (hN:j.tot<=aO):sf k j=some j:=by
 unfold Job.tot aD.tot at hk hN;unfold sf;rw[xJ (by omega) (by omega),aa,wj (by omega)];rfl
def eI:Model:=⟨⟨0,0,0⟩,[]⟩
end Go.Proofs.Ev
namespace Go.Proofs.Ev
open IntKind(i64 u8 u64)
def VP (xs:List Int):Int:=xs.foldl (λs x=>i64.wrap (s+x)) 0
theorem O7 (a b:Shape):(cond (a.h==b.h) (cond (a.w==b.w) (cond (a.c==b.c) (true) false) false) false)=decide (a=b):=by
 obtain⟨a1,a2,a3⟩:=a;obtain⟨b1,b2,b3⟩:=b;by_cases h1:a1=b1<;>by_cases h2:a2=b2<;>by_cases h3:a3=b3<;>simp[h1,h2,h3]
def wJ (j:Job):Bool:=eu j.model&&(inB j.at_ 0 j.model.aE.length&&(j.act.okB&&(decide (j.act.sh=(bZ j.model).getD j.at_.toNat kn)&&decide (j.jQ=VP ((bj j.model).take j.at_.toNat)))))
theorem iY {m:Model} (h:eu m=true):(bj m).length=m.aE.length:=by
 unfold bj;rw[h];simp
theorem DN {k:Nat} {j:Job} (hk:j.tot+1<k) (hN:j.tot<aO):Fk k j=some (wJ j):=by
 have hM:=ak;unfold Job.tot aD.tot at hk hN
 have hmk:j.model.tot+1<k:=by omega
 have hmN:j.model.tot<aO:=by omega
 obtain⟨hlk,hlN⟩:=gZ (show j.model.tot<k by omega) (Zu hmN);unfold Fk wJ;rw[su (by omega) hmN,aa];cases hm:eu j.model
 ·rfl
 have hsl:=ot hm;have hcl:=iY hm;simp only[cond_true,Xf,fH,aa];cases hin:inB j.at_ 0 j.model.aE.length
 ·rfl
 rw[aY]at hin;simp only[cond_true,Xf];rw[l5 (by omega) (by unfold zP;omega),aa];cases j.act.okB
 ·rfl
 have hi:j.at_.toNat<(bZ j.model).length:=by omega
 simp only[cond_true,Xf];rw[wu (by omega) hmN,aa,ab,if_pos (by omega),ai hi,aa,O7,db hi];cases decide (j.act.sh=(bZ j.model)[j.at_.toNat])
 ·rfl
 simp only[cond_true,Xf]
 have htl:(((bj j.model).drop 0).take (j.at_.toNat-0)).length<=(bj j.model).length:=by simp;omega
 rw[lq hmk hmN,aa,ab,if_pos (by omega),Ft (by omega) (by omega),aa,JN,Y2,XP];rfl
theorem tE {k:Nat} {j:Job} (hk:j.tot<k) (hN:j.tot<=aO):uP k j=some (wJ j):=by
  have hM:=ak;unfold Job.tot aD.tot at hk hN
  have hmk:j.model.tot<k:=by omega
  have hmN:j.model.tot<=aO:=by omega
  obtain⟨hlk,hlN⟩:=gZ hmk hmN;unfold uP wJ;rw[oU hmk hmN,aa,dO];show cond (eu j.model) _ _=_;cases hm:eu j.model
  · rfl
  have hsl:=ot hm;have hcl:=iY hm
  have e:(dT j.model).1=bZ j.model:=by unfold bZ;rw[hm];rfl
  simp only[cond_true,Xf,bR,aa,dO,e];cases hin:inB j.at_ 0 j.model.aE.length
  · rfl
  rw[aY]at hin;simp only[cond_true,Xf];rw[jJ (by omega) (by unfold zP;omega),aa];cases j.act.okB
  · rfl
  have hi:j.at_.toNat<(bZ j.model).length:=by omega
  simp only[cond_true,Xf];rw[ab,if_pos (by omega),ai hi,aa,O7,db hi];cases decide (j.act.sh=(bZ j.model)[j.at_.toNat])
  · rfl
  simp only[cond_true,Xf];rw[ln hmk hmN,aa]
  have htl:((bj j.model).take j.at_.toNat).length=j.at_.toNat:=by simp;omega
  have:=rX ((bj j.model).take j.at_.toNat) (λs x=>i64.wrap (s+x)) (R:=Bool)
    (g:=λu next=>pF k (j.model.inp.h,j.model.inp.w,j.model.inp.c,j.model.aE,j.at_,j.act.sh.h,j.act.sh.w,j.act.sh.c,j.act.data,j.jQ,bj j.model) u next (λy7=>some (j.jQ==y7))) (fin:=λy7=>some (j.jQ==y7)) 0 (λi s hi next _=>by
      rw[htl]at hi
      have hi2:i<(bj j.model).length:=by omega
      simp only[pF]
      rw[ab,if_pos (by omega),ab,if_pos (by omega),W4,ai hi2,aa,ar hi2 (by omega),List.getElem_take]) (λnext=>by
      simp only[pF];rw[ab,if_neg (by omega)]) (k:=k) (by omega)
  rw[this,JN];rfl
def VQ:Job:=⟨⟨⟨0,0,0⟩,[]⟩,0,⟨⟨0,0,0⟩,[]⟩,0⟩
def dH (m:Model) (t:aD):Job× Bool:=cond (wJ ⟨m,0,t,0⟩) (⟨m,0,t,0⟩,true) (VQ,false)
theorem Fu {k:Nat} {m:Model} {t:aD} (hk:m.tot+t.tot<k) (hN:m.tot+t.tot<=aO):tv k m t=some (dH m t):=by
 have ht:t.tot=t.data.length:=rfl;unfold tv dH;rw[yX (by omega) (by omega),aa,yU (by omega) (by omega),aa,tE (by simp only[Job.tot];omega) (by simp only[Job.tot];omega),aa,dO];cases wJ ⟨m,0,t,0⟩<;>rfl
theorem Fv {k:Nat} {m:Model} {t:aD} (hk:m.tot+t.tot+1<k) (hN:m.tot+t.tot<aO):xB k m t=some (dH m t):=by
 unfold xB dH;rw[DN (by simp only[Job.tot];omega) (by simp only[Job.tot];omega),aa,dO];cases wJ ⟨m,0,t,0⟩
 ·rfl
 ·simp only[cond_true];rw[Bv (by simp only[Job.tot];omega) (by simp only[Job.tot];omega)];rfl
theorem yY (m:Model) (t:aD):(dH m t).1.tot<=m.tot+t.tot:=by
 unfold dH;cases wJ ⟨m,0,t,0⟩
 ·exact XE _
 ·simp only[cond_true,Job.tot];omega
end Go.Proofs.Ev
namespace Go.Proofs.Ev
open IntKind(i64 u8 u64)
theorem pM (w a:Nat):(BitVec.ofInt w (a:Int)).toNat=a %2^w:=by
 simp
theorem UB {a b n:Nat} (ha:a<2^n) (hb:b*2^n+a<9223372036854775808):
  i64.wrap (((BitVec.ofInt i64.bits (a:Int)||| BitVec.ofInt i64.bits ((b*2^n:Nat):Int)).toNat:Nat):Int)=((a+b*2^n:Nat):Int):=by
 have h1:a %2^64=a:=XK (by omega);have h2:(b*2^n) %2^64=b*2^n:=XK (by omega)
 have h3:a||| b*2^n=a+b*2^n:=by
  have:=Nat.two_pow_add_eq_or_of_lt ha b;rw[Nat.or_comm,XD b,<-this,Nat.add_comm]
 have e:(BitVec.ofInt i64.bits (a:Int)||| BitVec.ofInt i64.bits ((b*2^n:Nat):Int)).toNat=a+b*2^n:=by
  rw[BitVec.toNat_or,pM,pM];show a %2^64||| (b*2^n) %2^64=_;rw[h1,h2,h3]
 rw[e,aF (by omega) (by omega)]
theorem Th {c:Nat} (h:c<256):i64.wrap (u8.wrap (((BitVec.ofInt u8.bits (c:Int)&&& BitVec.ofInt u8.bits (127:Int)).toNat:Nat):Int))=((c %128:Nat):Int):=by
 have e:(BitVec.ofInt u8.bits (c:Int)&&& BitVec.ofInt u8.bits (127:Int)).toNat=c %128:=by
  rw[BitVec.toNat_and,pM];show c %2^8&&& 127=_;rw[XK (by omega)];exact Nat.and_two_pow_sub_one_eq_mod c 7
 rw[e,Be (by omega) (by omega),aF (by omega) (by omega)]
def jT (b:List Int) (at_:Nat):Nat->Nat->Nat->Int× Int
  |0,_,_=>(0,-1)
  | f + 1, i, u =>
    match b[at_+i]? with
    |none=>(0,-1)
    | some c =>
      cond (decide (128<=c.toNat)) (jT b at_ f (i+1) (u+c.toNat %128*2^(7*i)))
        (cond ((decide (0<i)&&decide (c.toNat=0))||decide (2199023255551<u+c.toNat %128*2^(7*i))) (0,-1)
          (cond (decide ((u+c.toNat %128*2^(7*i)) %2=1)) (-(((u+c.toNat %128*2^(7*i)+1)/2:Nat):Int)) (((u+c.toNat %128*2^(7*i))/2:Nat):Int),((at_+i+1:Nat):Int)))
def ed (b:List Int) (at_:Int):Int× Int:=cond (decide (0<=at_)) (jT b at_.toNat 6 0 0) (0,-1)
theorem DP {i:Nat} (hi:i<6):(2:Int)^(min (u64.wrap (i64.wrap ((7:Int)*(i:Int)))).toNat i64.bits)=((2^(7*i):Nat):Int)/\
  (2:Int)^(min (i64.wrap ((7:Int)*(i:Int))).toNat i64.bits)=((2^(7*i):Nat):Int):=by
 have:i=0\/i=1\/i=2\/i=3\/i=4\/i=5:=by omega
 rcases this with rfl|rfl|rfl|rfl|rfl|rfl<;>exact⟨by kernel_rfl,by kernel_rfl⟩
theorem Fw {i u c:Nat} (hi:i<6) (hu:u<2^(7*i)):u+c %128*2^(7*i)<2^(7*(i+1))/\2^(7*(i+1))<=4398046511104:=by
 have h1:2^(7*(i+1))=128*2^(7*i):=by rw[show 7*(i+1)=7*i+7 from by omega,Nat.pow_add];omega
 have h2:c %128*2^(7*i)<=127*2^(7*i):=Xr _ (by omega);refine⟨by omega,?_⟩
 have:i=0\/i=1\/i=2\/i=3\/i=4\/i=5:=by omega
 rcases this with rfl|rfl|rfl|rfl|rfl|rfl<;>decide
theorem Rb {i u n:Nat} (hi:i<6) (hu:u<2^(7*i)) (hn:n<256):
  i64.wrap ((u:Int)+(i64.wrap (((i64.wrap (n:Int)).tmod (128:Int))*2^(min (u64.wrap (i64.wrap ((7:Int)*(i:Int)))).toNat i64.bits))))=((u+n %128*2^(7*i):Nat):Int):=by
 have h:=Fw (c:=n) hi hu;have e:((n:Int).tmod 128)=((n %128:Nat):Int):=rfl;rw[aF (n:=(n:Int)) (by omega) (by omega),(DP hi).1,e,<-Ye,aF (n:=((n %128*2^(7*i):Nat):Int)) (by omega) (by omega),<-Int.natCast_add,aF (by omega) (by omega)]
theorem Rc {U:Nat} (h:U<4398046511104):i64.wrap ((i64.wrap (0-(i64.wrap ((U:Int)+(1:Int))))).tdiv (2:Int))=-(((U+1)/2:Nat):Int):=by
 have e:(-(((U+1:Nat):Int))).tdiv 2=-(((U+1)/2:Nat):Int):=by rw[Int.neg_tdiv];rfl
 rw[aF (n:=(U:Int)+1) (by omega) (by omega),aF (n:=0-((U:Int)+1)) (by omega) (by omega),show(0:Int)-((U:Int)+1)=-((U+1:Nat):Int)from by omega,e,aF (by omega) (by omega)]
theorem Bw {U:Nat} (h:U<4398046511104):i64.wrap ((U:Int).tdiv (2:Int))=((U/2:Nat):Int):=by
 have e:(U:Int).tdiv 2=((U/2:Nat):Int):=rfl;rw[e,aF (by omega) (by omega)]
theorem K4 (U:Nat):((U:Int).tmod 2==(1:Int))=decide (U %2=1):=by
 have e:(U:Int).tmod 2=((U %2:Nat):Int):=rfl;rw[JN,e]
 congr 1
 rw[eq_iff_iff];omega
theorem Bx {b:List Int} {a kk:Nat} (hb:∀x∈b,okB x) (hl:b.length<=aO):∀(f i u k:Nat),i+f=6->u<2^(7*i)->f<k->
  iter (λu4 n4=>gW kk (b,(a:Int)) u4 n4 (λy2=>some ((0:Int),(-1:Int))) (λy3=>some (y3.1,y3.2))) k ((u:Int),(i:Int))=some (jT b a f i u)
 |f,i,u,0,_,_,hk=>by omega
 |0,i,u,k+1,hi,_,_=>by
  rw[aS];simp only[gW]
  rw[ab,if_neg (by omega)];rfl
 |f+1,i,u,k+1,hi,hu,hk=>by
  have hM:=ak
  have hi6:i<6:=by omega
  rw[aS];simp only[gW,jT];rw[ab,if_pos (by omega),ab,if_neg (by omega),aF (n:=(b.length:Int)-(i:Int)) (by omega) (by omega),ab];by_cases hin:a+i<b.length
  ·rw[if_neg (by omega),aF (n:=(a:Int)+(i:Int)) (by omega) (by omega),show(a:Int)+(i:Int)=((a+i:Nat):Int)from by omega,aL,ai hin,aa];have hc:=hb b[a+i] (W9 hin);unfold okB at hc;obtain⟨n,hn⟩:∃n:Nat,b[a+i]=(n:Int):=⟨b[a+i].toNat,by omega⟩;rw[hn]at hc⊢
   have hn256:n<256:=by omega
   obtain⟨w1,w2⟩:=Fw (c:=n) hi6 hu
   have hU:u+n %128*2^(7*i)<4398046511104:=by omega
   simp only[Rb hi6 hu hn256,Rc hU,Bw hU,K4,W4]
   have hsh:u64.wrap (i64.wrap ((7:Int)*(i:Int)))=((7*i:Nat):Int):=by
    have:i=0\/i=1\/i=2\/i=3\/i=4\/i=5:=by omega
    rcases this with rfl|rfl|rfl|rfl|rfl|rfl<;>decide
   rw[hsh,ab,if_neg (by omega),aF (n:=(n:Int)) (by omega) (by omega),aF (n:=((a+i:Nat):Int)+1) (by omega) (by omega),aF (n:=(i:Int)+1) (by omega) (by omega),ab];by_cases h128:128<=n
   ·rw[if_neg (by omega),decide_eq_true h128,cond_true];exact Bx (kk:=kk) hb hl f (i+1) _ k (by omega) w1 (by omega)
   ·rw[if_pos (by omega),decide_eq_false h128,cond_false,JN]
    have e1:decide ((n:Int)=0)=decide (n=0):=by congr 1;rw[eq_iff_iff];omega
    have e2:decide ((i:Int)>0)=decide (0<i):=by congr 1;rw[eq_iff_iff];omega
    have e3:((a+i:Nat):Int)+1=((a+i+1:Nat):Int):=by omega
    have e4:decide ((((u+n %128*2^(7*i)):Nat):Int)>2199023255551)=decide (2199023255551<(u+n %128*2^(7*i))):=by congr 1;rw[eq_iff_iff];omega
    rw[e1,e2,e3,e4];cases decide (2199023255551<(u+n %128*2^(7*i)))<;>cases decide (n=0)<;>cases decide (0<i)<;>cases decide ((u+n %128*2^(7*i)) %2=1)<;>rfl
  ·rw[if_pos (by omega),Xy (by omega)]
theorem Fx {k:Nat} {b:List Int} {a:Int} (hk:7<=k) (hb:∀x∈b,okB x) (hl:b.length<=aO):tq k b a=some (ed b a):=by
 unfold tq ed;by_cases h:0<=a
 ·rw[decide_eq_true h,cond_true];have:=Bx (kk:=k) (a:=a.toNat) hb hl 6 0 0 k rfl (by decide) (by omega);rw[Y0 h]at this;exact this
 ·rw[decide_eq_false h,cond_false];obtain⟨k,rfl⟩:∃k',k=k'+1:=⟨k-1,by omega⟩;rw[aS];simp only[gW];rw[ab,if_pos (by omega),ab,if_pos (by omega)]
theorem Ti {i u n:Nat} (hi:i<6) (hu:u<2^(7*i)) (hn:n<256):
  i64.wrap (((BitVec.ofInt i64.bits (u:Int)||| BitVec.ofInt i64.bits (i64.wrap ((i64.wrap (u8.wrap (((BitVec.ofInt u8.bits (n:Int)&&& BitVec.ofInt u8.bits (127:Int)).toNat:Int))))*2^(min (i64.wrap ((7:Int)*(i:Int))).toNat i64.bits)))).toNat:Int))=((u+n %128*2^(7*i):Nat):Int):=by
 have h:=Fw (c:=n) hi hu;rw[Th hn,(DP hi).2,<-Ye,aF (n:=((n %128*2^(7*i):Nat):Int)) (by omega) (by omega),UB hu (by omega)]
theorem O8 {U:Nat} (h:U<4398046511104) (ho:U %2=1):i64.wrap ((i64.wrap (0-(i64.wrap ((U:Int).tdiv (2:Int)))))-(1:Int))=-(((U+1)/2:Nat):Int):=by
 rw[Bw h,aF (n:=0-((U/2:Nat):Int)) (by omega) (by omega),aF (by omega) (by omega)];omega
theorem Bz (k:Nat) (x:Int):nX k x=some (inB x (-1099511627776) 1099511627775):=by unfold nX;rw[fH];rfl
theorem BA {b l:List Int} {a kk:Nat} (hb:∀x∈b,okB x) (hlN:b.length<=aO) (hl:l=(b.take (min (a+6) b.length)).drop a) (ha:a<=b.length):∀(f i u k:Nat),i+f=6->u<2^(7*i)->f<k->
    iter (λu9 n9=>jC kk ((a:Int),l,(l.length:Int)) u9 n9 (λy7=>some ((0:Int),(-1:Int))) (λy8=>some (y8.1,y8.2))) k ((u:Int),(i:Int))=some (jT b a f i u)
  |f,i,u,0,_,_,hk=>by omega
  | 0, i, u, k + 1, hi, _, _ => by
    have hll:l.length<=6:=by rw[hl];simp;omega
    rw[aS];simp only[jC]
    rw[ab,if_neg (by omega)];rfl
  | f + 1, i, u, k + 1, hi, hu, hk => by
    have hM:=ak
    have hi6:i<6:=by omega
    have hll:l.length=min 6 (b.length-a):=by rw[hl];simp;omega
    rw[aS];generalize hnx:iter _ k=nx;simp only[jC,jT];by_cases hin:a+i<b.length
    · have hli:i<l.length:=by omega
      have AB:l[i]=b[a+i]:=by subst hl;simp
      rw[ab,if_pos (by omega),aL,ai hli,aa,ai hin,AB];have hc:=hb b[a+i] (W9 hin);unfold okB at hc;obtain⟨n,hn⟩:∃n:Nat,b[a+i]=(n:Int):=⟨b[a+i].toNat,by omega⟩;rw[hn]at hc⊢
      have hn256:n<256:=by omega
      obtain⟨w1,w2⟩:=Fw (c:=n) hi6 hu
      have hU:u+n %128*2^(7*i)<4398046511104:=by omega
      have hsh:i64.wrap ((7:Int)*(i:Int))=((7*i:Nat):Int):=by
        rw[aF (by omega) (by omega)];omega
      have hnn:¬(i64.wrap ((7:Int)*(i:Int))<0):=by rw[hsh];omega
      rw[decide_eq_false hnn,cond_false];simp only[Ti hi6 hu hn256,K4,W4,Bz,aa,dO];rw[aF (n:=(a:Int)+(i:Int)) (by omega) (by omega),show(a:Int)+(i:Int)=((a+i:Nat):Int)from by omega,aF (n:=((a+i:Nat):Int)+1) (by omega) (by omega),aF (n:=(i:Int)+1) (by omega) (by omega),ab];by_cases h128:128<=n
      · rw[if_pos (by omega),decide_eq_true h128,cond_true];rw[<-hnx];exact BA (kk:=kk) hb hlN hl ha f (i+1) _ k (by omega) w1 (by omega)
      · rw [if_neg (by omega), decide_eq_false h128, cond_false, JN]
        have e1:decide ((n:Int)=0)=decide (n=0):=by congr 1;rw[eq_iff_iff];omega
        have e2:decide ((i:Int)>0)=decide (0<i):=by congr 1;rw[eq_iff_iff];omega
        have e3:((a+i:Nat):Int)+1=((a+i+1:Nat):Int):=by omega
        rw[e1,e2,e3];by_cases ho:(u+n %128*2^(7*i)) %2=1
        · rw[decide_eq_true ho,O8 hU ho]
          have e4:inB (-(((u+n %128*2^(7*i)+1)/2:Nat):Int)) (-1099511627776) 1099511627775=!decide (2199023255551<(u+n %128*2^(7*i))):=by
            rw[Zg,aY,Y7,decide_eq_false_iff_not];constructor<;>intro h<;>omega
          rw[e4];cases decide (2199023255551<(u+n %128*2^(7*i)))<;>cases decide (n=0)<;>cases decide (0<i)<;>rfl
        · rw[decide_eq_false ho,Bw hU]
          have e4:inB (((u+n %128*2^(7*i))/2:Nat):Int) (-1099511627776) 1099511627775=!decide (2199023255551<(u+n %128*2^(7*i))):=by
            rw[Zg,aY,Y7,decide_eq_false_iff_not];constructor<;>intro h<;>omega
          rw[e4];cases decide (2199023255551<(u+n %128*2^(7*i)))<;>cases decide (n=0)<;>cases decide (0<i)<;>rfl
    · rw[ab,if_neg (by omega),Xy (by omega)]
theorem Fy {k:Nat} {b:List Int} {a:Int} (hk:7<=k) (hb:∀x∈b,okB x) (hl:b.length<=aO):tu k b a=some (ed b a):=by
  have hM:=ak;unfold tu ed;rw[fH,aa,dO,aF (n:=(b.length:Int)-1) (by omega) (by omega)];by_cases h:0<=a
  · rw [decide_eq_true h, cond_true];by_cases h2:a<b.length
    · have e:inB a 0 ((b.length:Int)-1)=true:=aY.2 (by omega)
      have e6:(if i64.wrap (a+6)<(b.length:Int)then i64.wrap (a+6)else(b.length:Int))=((min (a.toNat+6) b.length:Nat):Int):=by
        rw[aF (by omega) (by omega)];split<;>omega
      rw[e,cond_true,e6,ab,if_pos (by omega),ab,if_pos (by omega),W4];have:=BA (kk:=k) (l:=(b.take (min (a.toNat+6) b.length)).drop a.toNat) (a:=a.toNat) hb hl rfl (by omega) 6 0 0 k rfl (by decide) (by omega);rw[Y0 h]at this;exact this
    · have e:inB a 0 ((b.length:Int)-1)=false:=by rw[<-Bool.not_eq_true,aY];omega
      rw[e,cond_false];simp only[jT];rw[Xy (by omega)]
  · have e:inB a 0 ((b.length:Int)-1)=false:=by rw[<-Bool.not_eq_true,aY];omega
    rw[decide_eq_false h,cond_false,e];rfl
end Go.Proofs.Ev
namespace Go.Proofs.Ev
open IntKind(i64 u8 u64)
def aV (b:List Int) (at_:Int) (bad:Bool):Int× Int× Bool:=
 cond bad (0,at_,true) (cond (decide ((ed b at_).2<0)) (0,at_,true) ((ed b at_).1,(ed b at_).2,false))
theorem ou {k:Nat} {b:List Int} {a:Int} {bad:Bool} (hk:7<=k) (hb:∀x∈b,okB x) (hl:b.length<=aO):cD k b a bad=some (aV b a bad):=by
 unfold cD aV;simp only[Fx hk hb hl,aa,decide_true,cond_true];cases bad<;>cases decide ((ed b a).2<0)<;>rfl
theorem bW {k:Nat} {b:List Int} {a:Int} {bad:Bool} (hk:7<=k) (hb:∀x∈b,okB x) (hl:b.length<=aO):av k ⟨b,a,bad⟩=some (aV b a bad):=by
 unfold av aV;simp only[Fy hk hb hl,aa,decide_true,cond_true];cases bad<;>cases decide ((ed b a).2<0)<;>rfl
end Go.Proofs.Ev
namespace Go.Proofs.Ev
open IntKind(i64 u8 u64)
theorem DQ {b:List Int} {a:Nat}:∀(f i u:Nat),(jT b a f i u).2=-1\/((a:Int)<(jT b a f i u).2/\(jT b a f i u).2<=b.length)
 |0,i,u=>.inl rfl
 |f+1,i,u=>by
  simp only[jT]
  cases hc:b[a+i]? with
  |none=>exact .inl rfl
  |some c=>
   have hlt:=(Of.1 hc).1;simp only;cases decide (128<=c.toNat)
   ·simp only[cond_false];cases((decide (0<i)&&decide (c.toNat=0))||decide (2199023255551<u+c.toNat %128*2^(7*i)))
    ·simp only[cond_false];right;omega
    ·exact .inl rfl
   ·exact DQ f (i+1) _
theorem Hw (b:List Int) (a:Int):(ed b a).2=-1\/(0<=a/\a<(ed b a).2/\(ed b a).2<=b.length):=by
 unfold ed;by_cases h:0<=a
 ·rw[decide_eq_true h,cond_true]
  rcases DQ (b:=b) (a:=a.toNat) 6 0 0 with h1|h1
  ·exact .inl h1
  ·right;omega
 ·rw[decide_eq_false h];exact .inl rfl
def rp (b:List Int) (a:Int):Option (Int× Int):=cond (decide ((ed b a).2<0)) none (some (ed b a))
theorem hJ {b:List Int} {a x p:Int} (h:rp b a=some (x,p)):0<=a/\a<p/\p<=b.length:=by
 unfold rp at h
 rcases Hw b a with h1|h1
 ·rw[h1]at h;exact nomatch h
 ·rw[decide_eq_false (by omega),cond_false,It]at h;rw[h]at h1;exact h1
theorem cM (b:List Int) (a:Int):aV b a false=(rp b a).elim (0,a,true) λq=>(q.1,q.2,false):=by
 unfold aV rp;cases decide ((ed b a).2<0)<;>rfl
theorem dn (b:List Int) (a:Int):aV b a true=(0,a,true):=rfl
def aX (b:List Int) (a:Int) (bad:Bool) (most:Int):Int× Int× Bool:=cond (inB (aV b a bad).1 0 most) (aV b a bad) (0,(aV b a bad).2.1,true)
theorem eL {k:Nat} {b:List Int} {a most:Int} {bad:Bool} (hk:7<=k) (hb:∀x∈b,okB x) (hl:b.length<=aO):cj k ⟨b,a,bad⟩ most=some (aX b a bad most):=by
 unfold cj aX;simp only[bW hk hb hl,fH,aa,decide_true,cond_true,dO];cases inB (aV b a bad).1 0 most<;>rfl
theorem iZ {k:Nat} {b:List Int} {a:Int} {bad:Bool} (hk:7<=k) (hb:∀x∈b,okB x) (hl:b.length<=aO):dM k ⟨b,a,bad⟩=
  some (let r1:=aV b a bad;let r2:=aV b r1.2.1 r1.2.2;let r3:=aV b r2.2.1 r2.2.2;(⟨r1.1,r2.1,r3.1⟩,r3.2.1,r3.2.2)):=by
 unfold dM;simp only[bW hk hb hl,aa,decide_true,cond_true]
theorem ja (k:Nat) (b:List Int) (a n:Int):cX k ⟨b,a,true⟩ n=some ([],a,true):=by
 unfold cX;simp only[decide_true,cond_true]
theorem Fz {k:Nat} {b:List Int} {a n:Int} (hl:b.length<=aO) (ha:0<=a/\a<=b.length) (hn:0<=n/\n<=6000):cX k ⟨b,a,false⟩ n=
  some (cond (decide (n>(b.length:Int)-a)) ([],a,true) ((b.take (a+n).toNat).drop a.toNat,a+n,false)):=by
 have hM:=ak;unfold cX;simp only[decide_true,cond_true,cond_false];rw[aF (n:=(b.length:Int)-a) (by omega) (by omega)];by_cases h:n>(b.length:Int)-a
 ·rw[decide_eq_true h];rfl
 ·rw[decide_eq_false h,cond_false,cond_false,aF (n:=a+n) (by omega) (by omega),aF (n:=a+n-n) (by omega) (by omega),show a+n-n=a from by omega,ab,if_pos (by omega),ab,if_pos (by omega),
   ny (by simp;omega),aa]
def pN (b:List Int):Nat->Int->Option (List Int× Int)
 |0,a=>some ([],a)
 |n+1,a=>(rp b a).bind λq=>(pN b n q.2).bind λr=>some (q.1::r.1,r.2)
theorem FA {k:Nat} {b:List Int} {n a:Int} {acc:List Int} {fin:List Int× Int× Bool->Option (List Int× Int× Bool)} (hk:1<=k):
  iter (λu4 n4=>aK k b u4 n4 fin) k (n,a,true,acc)=fin (acc,a,true):=by
 obtain⟨k',hk'⟩:∃k',k=k'+1:=⟨k-1,by omega⟩
 conv=>lhs;arg 2;rw[hk']
 rw[aS];simp only[aK];cases decide (n>0)<;>rfl
theorem Hx {k:Nat} {b:List Int} {fin:List Int× Int× Bool->Option (List Int× Int× Bool)} (hk:7<=k) (hb:∀x∈b,okB x) (hl:b.length<=aO):∀(n:Nat) (a:Int) (acc:List Int) (kf:Nat),n<kf->acc.length+n<=aO->
  (∃xs p,pN b n a=some (xs,p)/\iter (λu4 n4=>aK k b u4 n4 fin) kf ((n:Int),a,false,acc)=fin (acc++xs,p,false))\/
  (pN b n a=none/\∃ys p,iter (λu4 n4=>aK k b u4 n4 fin) kf ((n:Int),a,false,acc)=fin (ys,p,true))
 |n,a,acc,0,hk',_=>by omega
 |0,a,acc,kf+1,_,_=>by
  refine .inl ⟨[],a,rfl,?_⟩;rw[aS,Xo]
  rfl
 |n+1,a,acc,kf+1,hk',hN=>by
  have hM:=ak
  have e:iter (λu4 n4=>aK k b u4 n4 fin) (kf+1) (((n+1:Nat):Int),a,false,acc)=
    iter (λu4 n4=>aK k b u4 n4 fin) kf ((n:Int),(aV b a false).2.1,(aV b a false).2.2,acc++[(aV b a false).1]):=by
   rw[aS];generalize iter _ kf=nx;simp only[aK];rw[decide_eq_true (show((n+1:Nat):Int)>0 by omega),cond_true,bW hk hb hl,aa,bO (by simp;omega),aF (by omega) (by omega),show((n+1:Nat):Int)-1=(n:Int)from by omega];rfl
  rw[e,cM];simp only[pN]
  cases hq:rp b a with
  |none=>
   refine .inr ⟨rfl,?_⟩;simp only[XM];obtain⟨kf,rfl⟩:∃k',kf=k'+1:=⟨kf-1,by omega⟩;refine⟨acc++[0],a,?_⟩;rw[aS];simp only[aK]
   cases decide ((n:Int)>0)<;>rfl
  |some q=>
   simp only[W8,W6]
   rcases Hx hk hb hl n q.2 (acc++[q.1]) kf (by omega) (by simp;omega)with⟨xs,p,h1,h2⟩|⟨h1,ys,p,h2⟩
   ·exact .inl ⟨q.1::xs,p,by rw[h1];rfl,by rw[h2];simp⟩
   ·exact .inr ⟨by rw[h1];rfl,ys,p,h2⟩
end Go.Proofs.Ev
namespace Go.Proofs.Ev
open IntKind(i64 u8 u64)
section
variable {R:Type} {k:Nat} {b:List Int} {m:Int} {q1 q2 q3 q4 q5 q6 q7 q8 q9 q10 q11 q12:Int} {d:List Int} {fin:Int× Bool× List Int->Option R}
end
end Go.Proofs.Ev
namespace Go.Proofs.Ev
open IntKind(i64 u8 u64)
section
variable {R:Type} {k:Nat} {b:List Int} {m:Int} {q1 q2 q3 q4 q5 q6 q7 q8 q9 q10 q11 q12:Int} {d:List Int} {fin:Int× Bool× List Int->Option R}
end
def Rd:Step:=⟨0,0,0,[],⟨⟨0,0,0⟩,[]⟩⟩
def BB (b:List Int) (a:Int):Option (List Int× Int):=(rp b a).bind λq=>cond (inB q.1 0 512) (pN b q.1.toNat q.2) none
def ft (b:List Int) (a:Int):Option (Step× Int):=
  (rp b a).bind λp1=>(rp b p1.2).bind λp2=>(rp b p2.2).bind λp3=>(rp b p3.2).bind λp4=>
    cond (inB p4.1 0 6000) (cond (decide (p4.1>(b.length:Int)-p4.2)) none
      ((rp b (p4.2+p4.1)).bind λp5=>(rp b p5.2).bind λp6=>(rp b p6.2).bind λp7=>(BB b p7.2).bind λr=>
        some (⟨p1.1,p2.1,p3.1,(b.take (p4.2+p4.1).toNat).drop p4.2.toNat,⟨⟨p5.1,p6.1,p7.1⟩,r.1⟩⟩,r.2))) none
def zY (b:List Int) (a:Int):Step× Int:=(ft b a).getD (Rd,-1)
theorem Hy {b:List Int}:∀{n:Nat} {a:Int} {xs:List Int} {p:Int},pN b n a=some (xs,p)->xs.length=n
 |0,a,xs,p,h=>by simp only[pN,It,Xc]at h;rw[<-h.1];rfl
 |n+1,a,xs,p,h=>by
  simp only[pN]at h
  cases hq:rp b a with
  |none=>rw[hq]at h;exact nomatch h
  |some q=>
   rw[hq,W6]at h
   cases hr:pN b n q.2 with
   |none=>rw[hr]at h;exact nomatch h
   |some r=>
    rw[hr,W6,It,Xc]at h;rw[<-h.1,W7,Hy (xs:=r.1) (p:=r.2) hr]
theorem Hz {b:List Int}:∀{n:Nat} {a:Int} {xs:List Int} {p:Int},pN b n a=some (xs,p)->0<=a->a<=b.length->a<=p/\p<=b.length
 |0,a,xs,p,h,_,_=>by simp only[pN,It,Xc]at h;omega
 |n+1,a,xs,p,h,_,_=>by
  simp only[pN]at h
  cases hq:rp b a with
  |none=>rw[hq]at h;exact nomatch h
  |some q=>
   rw[hq,W6]at h;have:=hJ (x:=q.1) (p:=q.2) hq
   cases hr:pN b n q.2 with
   |none=>rw[hr]at h;exact nomatch h
   |some r=>
    rw[hr,W6,It,Xc]at h;have h2:=Hz (xs:=r.1) (p:=r.2) hr (by omega) (by omega);omega
theorem uj {b:List Int} {a:Int} {x:Step} {p:Int} (h:ft b a=some (x,p)):0<=a/\a<p/\p<=b.length/\x.tot<=6512:=by
 unfold ft BB at h;simp only[An]at h;obtain⟨p1,h1,p2,h2,p3,h3,p4,h4,h⟩:=h;cases c4:inB p4.1 0 6000
 ·rw[c4]at h;exact nomatch h
 rw[c4,cond_true]at h;cases c5:decide (p4.1>(b.length:Int)-p4.2)
 case true=>rw[c5]at h;exact nomatch h
 rw[c5,cond_false]at h;simp only[An]at h;obtain⟨p5,h5,p6,h6,p7,h7,r,⟨p8,h8,hr⟩,h⟩:=h;cases c8:inB p8.1 0 512
 ·rw[c8]at hr;exact nomatch hr
 rw[c8,cond_true]at hr;rw[It,Xc]at h;have g1:=hJ (x:=p1.1) (p:=p1.2) h1;have g2:=hJ (x:=p2.1) (p:=p2.2) h2;have g3:=hJ (x:=p3.1) (p:=p3.2) h3;have g4:=hJ (x:=p4.1) (p:=p4.2) h4;have g5:=hJ (x:=p5.1) (p:=p5.2) h5;have g6:=hJ (x:=p6.1) (p:=p6.2) h6;have g7:=hJ (x:=p7.1) (p:=p7.2) h7;have g8:=hJ (x:=p8.1) (p:=p8.2) h8;have g9:=Hz (xs:=r.1) (p:=r.2) hr (by omega) (by omega);have g10:=Hy (xs:=r.1) (p:=r.2) hr;have c4':=of_decide_eq_true c4;have c8':=of_decide_eq_true c8;refine⟨by omega,by omega,by omega,?_⟩;rw[<-h.1];simp only[Step.tot,aD.tot,XZ,Xw];omega
theorem fI {k:Nat} {b:List Int} {a:Int} (hk:7<=k) (hb:∀x∈b,okB x) (hl:b.length<=aO):bc k ⟨b,a,true⟩ 512=some ([],a,true):=by
 unfold bc;rw[eL hk hb hl,aa];unfold aX;rw[dn];simp only[show inB (0:Int) 0 512=true from rfl,cond_true];rw[FA (by omega)];simp
theorem O9 {k:Nat} {b:List Int} {a:Int} (hk:6001<=k) (hb:∀x∈b,okB x) (hl:b.length<=aO):
  (∃xs p,BB b a=some (xs,p)/\bc k ⟨b,a,false⟩ 512=some (xs,p,false))\/(BB b a=none/\∃ys p,bc k ⟨b,a,false⟩ 512=some (ys,p,true)):=by
 have hM:=ak;unfold bc BB;rw[eL (by omega) hb hl,aa];unfold aX;rw[cM]
 cases h1:rp b a with
 |none=>
  refine .inr ⟨rfl,?_⟩;simp only[XM,show inB (0:Int) 0 512=true from rfl,cond_true];rw[FA (by omega)]
  exact⟨[],a,by simp⟩
 |some q=>
  simp only[W8,W6];cases c:inB q.1 0 512
  ·refine .inr ⟨rfl,?_⟩;simp only[cond_false];rw[FA (by omega)];exact⟨[],q.2,by simp⟩
  have c':=of_decide_eq_true c;simp only[cond_true];rw[show q.1=((q.1.toNat:Nat):Int)from by omega,W4]
  rcases Hx (k:=k) (fin:=λy3=>cond (decide (b=b)) (some (y3.1,y3.2.1,y3.2.2)) none) (by omega) hb hl q.1.toNat q.2 [] k (by omega) (by simp;omega)with⟨xs,p,e1,e2⟩|⟨e1,ys,p,e2⟩
  ·exact .inl ⟨xs,p,e1,by simpa using e2⟩
  ·exact .inr ⟨e1,ys,p,by simpa using e2⟩
theorem HA {k:Nat} {b:List Int} {a:Int} (hk:6001<=k) (hb:∀x∈b,okB x) (hl:b.length<=aO):
  (∃x p,ft b a=some (x,p)/\cE k ⟨b,a,false⟩=some (x,p,false))\/(ft b a=none/\∃x p,cE k ⟨b,a,false⟩=some (x,p,true)):=by
 have hM:=ak
 have h7:7<=k:=by omega
 unfold ft cE;rw[bW h7 hb hl,cM]
 cases h1:rp b a with
 |none=>
  refine .inr ⟨rfl,?_⟩;simp only[XM,bW h7 hb hl,eL h7 hb hl,iZ h7 hb hl,aX,dn,aa,show inB (0:Int) 0 6000=true from rfl,cond_true,ja,fI h7 hb hl,decide_true]
  exact⟨_,_,rfl⟩
 |some p1=>
 simp only[W8,W6];rw[bW h7 hb hl,cM]
 cases h2:rp b p1.2 with
 |none=>
  refine .inr ⟨rfl,?_⟩;simp only[XM,bW h7 hb hl,eL h7 hb hl,iZ h7 hb hl,aX,dn,aa,show inB (0:Int) 0 6000=true from rfl,cond_true,ja,fI h7 hb hl,decide_true]
  exact⟨_,_,rfl⟩
 |some p2=>
 simp only[W8,W6];rw[bW h7 hb hl,cM]
 cases h3:rp b p2.2 with
 |none=>
  refine .inr ⟨rfl,?_⟩;simp only[XM,bW h7 hb hl,eL h7 hb hl,iZ h7 hb hl,aX,dn,aa,show inB (0:Int) 0 6000=true from rfl,cond_true,ja,fI h7 hb hl,decide_true]
  exact⟨_,_,rfl⟩
 |some p3=>
 simp only[W8,W6];rw[eL h7 hb hl];unfold aX;rw[cM]
 cases h4:rp b p3.2 with
 |none=>
  refine .inr ⟨rfl,?_⟩;simp only[XM,bW h7 hb hl,eL h7 hb hl,iZ h7 hb hl,aX,dn,aa,show inB (0:Int) 0 6000=true from rfl,cond_true,ja,fI h7 hb hl,decide_true]
  exact⟨_,_,rfl⟩
 |some p4=>
 simp only[W8,W6];have g4:=hJ (x:=p4.1) (p:=p4.2) h4;cases c4:inB p4.1 0 6000
 ·refine .inr ⟨rfl,?_⟩;simp only[cond_false,bW h7 hb hl,eL h7 hb hl,iZ h7 hb hl,aX,dn,aa,cond_true,ja,fI h7 hb hl,decide_true];exact⟨_,_,rfl⟩
 have c4':=of_decide_eq_true c4;simp only[cond_true];rw[Fz hl (by omega) (by omega)];by_cases c5:p4.1>(b.length:Int)-p4.2
 ·refine .inr ⟨by rw[decide_eq_true c5];rfl,?_⟩;rw[decide_eq_true c5];simp only[cond_false,bW h7 hb hl,eL h7 hb hl,iZ h7 hb hl,aX,dn,aa,cond_true,ja,fI h7 hb hl,decide_true];exact⟨_,_,rfl⟩
 rw[decide_eq_false c5];simp only[cond_false,aa,iZ h7 hb hl];rw[cM]
 cases h5:rp b (p4.2+p4.1)with
 |none=>
  refine .inr ⟨rfl,?_⟩;simp only[XM,dn,aa,cond_true,fI h7 hb hl,decide_true]
  exact⟨_,_,rfl⟩
 |some p5=>
 simp only[W8,W6];rw[cM]
 cases h6:rp b p5.2 with
 |none=>
  refine .inr ⟨rfl,?_⟩;simp only[XM,dn,aa,cond_true,fI h7 hb hl,decide_true]
  exact⟨_,_,rfl⟩
 |some p6=>
 simp only[W8,W6];rw[cM]
 cases h7':rp b p6.2 with
 |none=>
  refine .inr ⟨rfl,?_⟩;simp only[XM,dn,aa,cond_true,fI h7 hb hl,decide_true]
  exact⟨_,_,rfl⟩
 |some p7=>
 simp only[W8,W6]
 rcases O9 (a:=p7.2) hk hb hl with⟨xs,p,e1,e2⟩|⟨e1,ys,p,e2⟩
 ·refine .inl ⟨_,_,by rw[e1];rfl,?_⟩;rw[e2];simp only[aa,decide_true,cond_true]
 ·refine .inr ⟨by rw[e1];rfl,?_⟩;rw[e2];simp only[aa,decide_true,cond_true];exact⟨_,_,rfl⟩
theorem FB {k:Nat} {b:List Int} {a:Int} (hk:6001<=k) (hb:∀x∈b,okB x) (hl:b.length<=aO):mq k b a=some (zY b a):=by
 unfold mq zY;rw[fH,aa];cases c:inB a 0 (b.length:Int)
 ·have c':=of_decide_eq_false c
  cases h:ft b a with
  |none=>rfl
  |some q=>
   have:=uj (x:=q.1) (p:=q.2) h;exact absurd ⟨this.1,by omega⟩ c'
 ·simp only[Xa,cond_false]
  rcases HA (a:=a) hk hb hl with⟨x,p,e1,e2⟩|⟨e1,x,p,e2⟩
  ·rw[e1,e2];rfl
  ·rw[e1,e2];rfl
end Go.Proofs.Ev
namespace Go.Proofs.Ev
open IntKind(i64 u8 u64)
def nm (s x:Int):Int:=(i64.wrap ((i64.wrap ((i64.wrap ((257:Int)*s))+(i64.wrap x)))+(1:Int))).tmod (1000003:Int)
def kq (b:List Int):Int:=b.foldl nm 1
theorem xK {k:Nat} {b:List Int} (hk:b.length<k) (hl:b.length<=aO):qE k b=some (kq b):=by
 have hM:=ak;unfold qE
 exact rX b nm (g:=λu next=>pD k b u next (λy2=>some y2)) (fin:=some) 1 (λi s hi next _=>by
  simp only[pD]
  rw[ab,if_pos (by omega),aL,ai hi,aa,ar hi (by omega)];rfl) (λnext=>by
  simp only[pD];rw[ab,if_neg (by omega)]) hk
theorem xL {k:Nat} {b:List Int} (hk:b.length<k) (hl:b.length<=aO):lI k b=some (kq b):=by
 have hM:=ak;unfold lI
 exact rX b nm (g:=λu next=>pE k (b,(b.length:Int)) u next (λy2=>some y2)) (fin:=some) 1 (λi s hi next _=>by
  simp only[pE]
  rw[ab,if_pos (by omega),aL,ai hi,aa,ar hi (by omega),Int.mul_comm s 257];rfl) (λnext=>by
  simp only[pE];rw[ab,if_neg (by omega)]) hk
def lL (b:List Int):Nat->Int->Option (List Step× Int)
 |0,a=>some ([],a)
 |n+1,a=>(ft b a).bind λq=>(lL b n q.2).bind λr=>some (q.1::r.1,r.2)
def cq (b:List Int):List Step× Int:=
  cond (decide ((b.length:Int)>20000)) ([],4) (cond (decide (b.take 2=[84,49]))
    ((rp b 2).elim ([],2) λq=>cond (inB q.1 0 200) ((lL b q.1.toNat q.2).elim ([],2) λr=>(rp b r.2).elim ([],2) λe=>
      cond (decide (e.1=kq (b.take r.2.toNat)/\e.2=(b.length:Int))) (r.1,0) ([],3)) ([],2)) ([],1))
theorem BC {b:List Int}:∀{n:Nat} {a:Int} {xs:List Step} {p:Int},lL b n a=some (xs,p)->0<=a->a<=b.length->a<=p/\p<=b.length/\xs.length=n/\gp Step.tot xs<=6513*n
 |0,a,xs,p,h,_,_=>by
  simp only[lL,It,Xc]at h;rw[<-h.1]
  exact⟨by omega,by omega,rfl,XE _⟩
 |n+1,a,xs,p,h,_,_=>by
  simp only[lL]at h
  cases hq:ft b a with
  |none=>rw[hq]at h;exact nomatch h
  |some q=>
   rw[hq,W6]at h;have h0:=uj (x:=q.1) (p:=q.2) hq
   cases hr:lL b n q.2 with
   |none=>rw[hr]at h;exact nomatch h
   |some r=>
    rw[hr,W6,It,Xc]at h;have h2:=BC (xs:=r.1) (p:=r.2) hr (by omega) (by omega);rw[<-h.1,pn,W7];exact⟨by omega,by omega,by omega,by omega⟩
section
variable {R:Type} {k:Nat} {b:List Int} {m:Int}
theorem yZ {fin:Int× Bool× List Step->Option R} {l:List Int} (hk:6001<=k) (hb:∀x∈b,okB x) (hl:b.length<=aO):∀(n:Nat) (a:Int) (acc:List Step) (kf:Nat),n<kf->acc.length+n<=aO->
  (∃xs p,lL b n a=some (xs,p)/\iter (λu n=>dc k (l,b) u n fin) kf ((n:Int),a,false,acc)=fin (p,false,acc++xs))\/
  (lL b n a=none/\∃ys p,iter (λu n=>dc k (l,b) u n fin) kf ((n:Int),a,false,acc)=fin (p,true,ys))
 |n,a,acc,0,h,_=>by omega
 |0,a,acc,kf+1,_,_=>by
  refine .inl ⟨[],a,rfl,?_⟩;rw[aS,Xo]
  rfl
 |n+1,a,acc,kf+1,h,hN=>by
  have hM:=ak
  have e:iter (λu n=>dc k (l,b) u n fin) (kf+1) (((n+1:Nat):Int),a,false,acc)=(cE k (⟨b,a,false⟩:Reader)).bind λr3=>iter (λu n=>dc k (l,b) u n fin) kf ((n:Int),r3.2.1,r3.2.2,acc++[r3.1]):=by
   rw[aS];generalize iter _ kf=nx;simp only[dc];rw[decide_eq_true (show((n+1:Nat):Int)>0 by omega),cond_true,aF (by omega) (by omega),show((n+1:Nat):Int)-1=(n:Int)from by omega];simp only[bO (show acc.length+1<=aO by omega)];rfl
  rw[e];simp only[lL]
  rcases HA (a:=a) hk hb hl with⟨x,p,e1,e2⟩|⟨e1,x,p,e2⟩
  ·rw[e1,e2,aa,aa]
   rcases yZ (fin:=fin) (l:=l) hk hb hl n p (acc++[x]) kf (by omega) (by simp;omega)with⟨xs,q,h1,h2⟩|⟨h1,ys,q,h2⟩
   ·exact .inl ⟨x::xs,q,by rw[h1];rfl,by rw[h2];simp⟩
   ·exact .inr ⟨by rw[h1];rfl,ys,q,h2⟩
  ·rw[e1,e2,aa];refine .inr ⟨rfl,?_⟩;obtain⟨kf,rfl⟩:∃k',kf=k'+1:=⟨kf-1,by omega⟩;refine⟨acc++[x],p,?_⟩;rw[aS];simp only[dc];cases decide ((n:Int)>0)<;>rfl
end
theorem VR (b:List Int):decide (b.take 2=[84,49])=cond (decide ((b.length:Int)<2)) false ((b[0]?).elim false λx=>(b[1]?).elim false λy=>decide (x=84)&&decide (y=49)):=by
 match b with
 |[]=>simp
 |[x]=>simp
 |x::y::l=>
  rw[decide_eq_false (show¬(((x::y::l).length:Nat):Int)<2 by simp;omega)];simp
theorem Pa {R:Type} {b:List Int} {k:Nat} {p:Int} {G:Int->Option R} {S:Nat->List Int->Option Int} (hS:∀l:List Int,l.length<=b.length->S k l=some (kq l)) (h:0<=p/\p<=b.length):
  cond (decide (0<=p/\p<=(b.length:Int))) ((S k ((b.take p.toNat).drop 0)).bind G) none=G (kq (b.take p.toNat)):=by
 rw[decide_eq_true h,cond_true,Y2,hS _ (by simp;omega),aa]
theorem wv {k:Nat} {b:List Int} (hb:∀x∈b,okB x) (hl:b.length<=aO):et k b [84,49]=some (decide (b.take 2=[84,49])):=by
 have hM:=ak;unfold et;rw[ab];by_cases h:(b.length:Int)>=(([84,49]:List Int).length:Int)
 ·have h':2<=b.length:=by simp at h;omega
  rw[if_pos h,decide_eq_true (show 0<=((([84,49]:List Int).length:Nat):Int)/\((([84,49]:List Int).length:Nat):Int)<=(b.length:Int) by simp;omega),cond_true,Y2];rw[show((([84,49]:List Int).length:Nat):Int).toNat=2 from rfl];rw[oS (λx hx=>hb x (X8 hx)) (λx hx=>by simp at hx;rcases hx with rfl|rfl<;>exact⟨by omega,by omega⟩),aa]
 ·rw[if_neg h,VR,decide_eq_true (show(b.length:Int)<2 by simp at h;omega)];rfl
theorem oV {k:Nat} {b:List Int} (hk:20100<=k) (hb:∀x∈b,okB x) (hl:b.length<=aO):kh k b=some (cq b):=by
  have hM:=ak;unfold kh cq;by_cases c:(b.length:Int)>20000
  · rw[decide_eq_true c];rfl
  rw[decide_eq_false c];simp only[cond_false];rw[wv hb hl,aa];cases c2:decide (b.take 2=[84,49])
  · rfl
  simp only[Xa,cond_false,cond_true];rw[eL (by omega) hb hl,aa];unfold aX;rw[cM]
  have bad:∀(n a:Int) (acc:List Step),iter (λu7 n7=>dc k (b,b) u7 n7 (λy4=>(av k (⟨b,y4.1,y4.2.1⟩:Reader)).bind λr5=>cond (r5.2.2) (some (([]:List Step),(2:Int))) (cond (decide (0<=y4.1/\y4.1<=(b.length:Int))) ((lI k ((b.take y4.1.toNat).drop 0)).bind λr6=>cond (r5.1 !=r6) (some (([]:List Step),(3:Int))) (cond (r5.2.1 !=(b.length:Int)) (some (([]:List Step),(3:Int))) (some (y4.2.2,(0:Int))))) none))) k (n,a,true,acc)=some ([],2):=by
    intro n a acc;obtain⟨k',hk'⟩:∃k',k=k'+1:=⟨k-1,by omega⟩
    conv=>lhs;arg 2;rw[hk']
    rw[aS];simp only[dc,bW (show 7<=k by omega) hb hl,dn,aa];cases decide (n>0)<;>rfl
  cases hn:rp b 2 with
  | none =>
    simp only[XM,show inB (0:Int) 0 200=true from rfl,cond_true]
    rw[bad]
  | some q =>
    have hp:=hJ (x:=q.1) (p:=q.2) hn;simp only[W8];cases c4:inB q.1 0 200
    · simp only[cond_false];rw[bad]
    have c4':=of_decide_eq_true c4;simp only[cond_true]
    have hq1:q.1=((q.1.toNat:Nat):Int):=by omega
    rw[hq1,W4]
    rcases yZ (R:=List Step× Int) (k:=k) (b:=b) (l:=b) (fin:=λy4=>(av k (⟨b,y4.1,y4.2.1⟩:Reader)).bind λr5=>cond (r5.2.2) (some (([]:List Step),(2:Int))) (cond (decide (0<=y4.1/\y4.1<=(b.length:Int))) ((lI k ((b.take y4.1.toNat).drop 0)).bind λr6=>cond (r5.1 !=r6) (some (([]:List Step),(3:Int))) (cond (r5.2.1 !=(b.length:Int)) (some (([]:List Step),(3:Int))) (some (y4.2.2,(0:Int))))) none))
      (by omega) hb hl q.1.toNat q.2 [] k (by omega) (by simp;omega)with⟨xs,p,h1,h2⟩|⟨h1,ys,p,h2⟩
    · rw [h2, h1];have hrp:=BC (xs:=xs) (p:=p) h1 (by omega) (by omega);simp only[W8,X5];rw[bW (by omega) hb hl,aa,cM]
      cases hn:rp b p with
      |none=>rfl
      | some e =>
        simp only[W8,cond_false];rw[Pa (S:=lI) (λl h=>xL (by omega) (by omega)) ⟨by omega,hrp.2.1⟩];rw[s7,s7];by_cases g1:e.1=kq (b.take p.toNat)
        · rw[if_pos g1];by_cases g2:e.2=(b.length:Int)
          · rw[if_pos g2,decide_eq_true ⟨g1,g2⟩];rfl
          · rw[if_neg g2,decide_eq_false (λh=>g2 h.2)];rfl
        · rw[if_neg g1,decide_eq_false (λh=>g1 h.1)];rfl
    · rw[h2,h1];simp only[XM];rw[bW (by omega) hb hl,aa,dn];rfl
end Go.Proofs.Ev
