/- Text of this claim. -/
import Derived.Test.YtkjdnpefjebmlaaDoorEvK6
import Derived.Test.YtkjdnpefjebmlaaDoorEvD1
import Derived.Lib.ItoaNum
set_option linter.unusedVariables false
set_option linter.unusedSimpArgs false
set_option linter.unusedSectionVars false
set_option maxRecDepth 100000
set_option maxHeartbeats 4000000
namespace Go.Proofs.Ev
open IntKind(i64 u8 u64)
noncomputable section
def dt {ρ:Type} (k:Nat) (p:Bool) (v:Int× List UInt8) (next:(Int× List UInt8)->Option ρ) (x0:(List UInt8)->Option ρ):Option ρ:=
 cond (v.1 !=0) (cond (decide ((v.1.tmod (10:Int))<0)) (cond (decide ((bytesOf [(u8.wrap (i64.wrap ((48:Int)+(i64.wrap (0-(v.1.tmod (10:Int)))))))]).length+v.2.length<=bO)) (next (i64.wrap (v.1.tdiv (10:Int)),(bytesOf [(u8.wrap (i64.wrap ((48:Int)+(i64.wrap (0-(v.1.tmod (10:Int)))))))])++v.2)) none) (cond (decide ((bytesOf [(u8.wrap (i64.wrap ((48:Int)+(v.1.tmod (10:Int)))))]).length+v.2.length<=bO)) (next (i64.wrap (v.1.tdiv (10:Int)),(bytesOf [(u8.wrap (i64.wrap ((48:Int)+(v.1.tmod (10:Int)))))])++v.2)) none)) (x0 v.2)
def cj (k:Nat) (a0:Int):Option (List UInt8):=
 cond (a0==0) (some ([48]:List UInt8)) (iter (λu2 n2=>dt k (decide (a0<0)) u2 n2 (λy1=>cond (decide (a0<0)) (cond (decide (([45]:List UInt8).length+y1.length<=bO)) (some (([45]:List UInt8)++y1)) none) (some y1))) k (a0,([]:List UInt8)))
def bD {ρ:Type} (k:Nat) (p:Int× Int× Int× List Int) (v:List UInt8× Int) (next:(List UInt8× Int)->Option ρ) (x0:(List UInt8)->Option ρ):Option ρ:=
 cond (decide (v.2<(p.2.2.2.length:Int))) (cond (decide (v.1.length+([32]:List UInt8).length<=bO)) ((idx p.2.2.2 v.2).bind λe5=>(cj k e5).bind λr6=>cond (decide ((v.1++([32]:List UInt8)).length+r6.length<=bO)) (next ((v.1++([32]:List UInt8))++r6,i64.wrap (v.2+1))) none) none) (x0 v.1)
def cO (k:Nat) (a0:aG):Option (List UInt8):=
 (da k a0).bind λr1=>cond (!r1) (some ([]:List UInt8)) ((cj k a0.sh.h).bind λr2=>cond (decide (r2.length+([120]:List UInt8).length<=bO)) ((cj k a0.sh.w).bind λr3=>cond (decide ((r2++([120]:List UInt8)).length+r3.length<=bO)) (cond (decide (((r2++([120]:List UInt8))++r3).length+([120]:List UInt8).length<=bO)) ((cj k a0.sh.c).bind λr4=>cond (decide ((((r2++([120]:List UInt8))++r3)++([120]:List UInt8)).length+r4.length<=bO)) (cond (decide (((((r2++([120]:List UInt8))++r3)++([120]:List UInt8))++r4).length+([58]:List UInt8).length<=bO)) (iter (λu8 n8=>bD k (a0.sh.h,a0.sh.w,a0.sh.c,a0.data) u8 n8 (λy7=>some y7)) k (((((r2++([120]:List UInt8))++r3)++([120]:List UInt8))++r4)++([58]:List UInt8),(0:Int))) none) none) none) none) none)
def fI (k:Nat) (a0:Step):Option (List UInt8):=
 (cj k a0.kind).bind λr1=>cond (decide (r1.length+([32]:List UInt8).length<=bO)) ((cj k a0.a).bind λr2=>cond (decide ((r1++([32]:List UInt8)).length+r2.length<=bO)) (cond (decide (((r1++([32]:List UInt8))++r2).length+([32]:List UInt8).length<=bO)) ((cj k a0.b).bind λr3=>cond (decide ((((r1++([32]:List UInt8))++r2)++([32]:List UInt8)).length+r3.length<=bO)) (cond (decide ((a0.data.length:Int)>(0:Int))) (cond (decide (((((r1++([32]:List UInt8))++r2)++([32]:List UInt8))++r3).length+([32,100,97,116,97,32]:List UInt8).length<=bO)) ((cj k (a0.data.length:Int)).bind λr4=>cond (decide ((((((r1++([32]:List UInt8))++r2)++([32]:List UInt8))++r3)++([32,100,97,116,97,32]:List UInt8)).length+r4.length<=bO)) ((da k a0.input).bind λr5=>cond (r5) (cond (decide (((((((r1++([32]:List UInt8))++r2)++([32]:List UInt8))++r3)++([32,100,97,116,97,32]:List UInt8))++r4).length+([32,105,110,112,117,116,32]:List UInt8).length<=bO)) ((cO k a0.input).bind λr6=>cond (decide ((((((((r1++([32]:List UInt8))++r2)++([32]:List UInt8))++r3)++([32,100,97,116,97,32]:List UInt8))++r4)++([32,105,110,112,117,116,32]:List UInt8)).length+r6.length<=bO)) (some ((((((((r1++([32]:List UInt8))++r2)++([32]:List UInt8))++r3)++([32,100,97,116,97,32]:List UInt8))++r4)++([32,105,110,112,117,116,32]:List UInt8))++r6)) none) none) (some ((((((r1++([32]:List UInt8))++r2)++([32]:List UInt8))++r3)++([32,100,97,116,97,32]:List UInt8))++r4))) none) none) ((da k a0.input).bind λr7=>cond (r7) (cond (decide (((((r1++([32]:List UInt8))++r2)++([32]:List UInt8))++r3).length+([32,105,110,112,117,116,32]:List UInt8).length<=bO)) ((cO k a0.input).bind λr8=>cond (decide ((((((r1++([32]:List UInt8))++r2)++([32]:List UInt8))++r3)++([32,105,110,112,117,116,32]:List UInt8)).length+r8.length<=bO)) (some ((((((r1++([32]:List UInt8))++r2)++([32]:List UInt8))++r3)++([32,105,110,112,117,116,32]:List UInt8))++r8)) none) none) (some ((((r1++([32]:List UInt8))++r2)++([32]:List UInt8))++r3)))) none) none) none) none
def strconv_Itoa (k:Nat) (n:Int):Option (List UInt8):=cond (decide (-9223372036854775808<=n)&&decide (n<=9223372036854775807)) (some (Go.Lib.itoa n)) none
def spacedL:List Int->List UInt8
 |[]=>[]
 |x::l=>32::(Go.Lib.itoa x++spacedL l)
def I_spaced (k:Nat) (l:List Int):Option (List UInt8):=cond (decide (l.length<=2000000)&&l.all λx=>decide (-9223372036854775808<=x)&&decide (x<=9223372036854775807)) (some (spacedL l)) none
def cX (k:Nat) (a0:Shape):Option (List UInt8):=
 (strconv_Itoa k a0.h).bind λr1=>cond (decide (r1.length+([120]:List UInt8).length<=bO)) ((strconv_Itoa k a0.w).bind λr2=>cond (decide ((r1++([120]:List UInt8)).length+r2.length<=bO)) (cond (decide (((r1++([120]:List UInt8))++r2).length+([120]:List UInt8).length<=bO)) ((strconv_Itoa k a0.c).bind λr3=>cond (decide ((((r1++([120]:List UInt8))++r2)++([120]:List UInt8)).length+r3.length<=bO)) (some ((((r1++([120]:List UInt8))++r2)++([120]:List UInt8))++r3)) none) none) none) none
def cQ (k:Nat) (a0:aG):Option (List UInt8):=
 (db k a0).bind λr1=>cond (!r1) (some ([]:List UInt8)) ((cX k a0.sh).bind λr2=>cond (decide (r2.length+([58]:List UInt8).length<=bO)) ((I_spaced k a0.data).bind λr3=>cond (decide ((r2++([58]:List UInt8)).length+r3.length<=bO)) (some ((r2++([58]:List UInt8))++r3)) none) none)
def fJ (k:Nat) (a0:Step):Option (List UInt8):=
 (strconv_Itoa k a0.kind).bind λr1=>(I_spaced k [a0.a,a0.b]).bind λr2=>cond (decide (r1.length+r2.length<=bO)) (cond (decide ((a0.data.length:Int)>(0:Int))) ((I_spaced k [(a0.data.length:Int)]).bind λr3=>cond (decide (([32,100,97,116,97]:List UInt8).length+r3.length<=bO)) (cond (decide ((r1++r2).length+(([32,100,97,116,97]:List UInt8)++r3).length<=bO)) ((db k a0.input).bind λr4=>cond (r4) ((cQ k a0.input).bind λr5=>cond (decide (([32,105,110,112,117,116,32]:List UInt8).length+r5.length<=bO)) (cond (decide (((r1++r2)++(([32,100,97,116,97]:List UInt8)++r3)).length+(([32,105,110,112,117,116,32]:List UInt8)++r5).length<=bO)) (some (((r1++r2)++(([32,100,97,116,97]:List UInt8)++r3))++(([32,105,110,112,117,116,32]:List UInt8)++r5))) none) none) (some ((r1++r2)++(([32,100,97,116,97]:List UInt8)++r3)))) none) none) ((db k a0.input).bind λr6=>cond (r6) ((cQ k a0.input).bind λr7=>cond (decide (([32,105,110,112,117,116,32]:List UInt8).length+r7.length<=bO)) (cond (decide ((r1++r2).length+(([32,105,110,112,117,116,32]:List UInt8)++r7).length<=bO)) (some ((r1++r2)++(([32,105,110,112,117,116,32]:List UInt8)++r7))) none) none) (some (r1++r2)))) none
def bj (k:Nat) (a0:Step):Option (Bool):=
 (mN k a0 (1048576:Int)).bind λr1=>cond (decide (r1<0)) (some true) ((fH k a0).bind λr2=>(fI k r2).bind λr3=>(fH k a0).bind λr4=>(fJ k r4).bind λr5=>cond (!(r5==r3)) (some false) ((fH k a0).bind λr6=>(mO k r4 r6).bind λr7=>cond (!r7) (some false) (some true)))
end
end Go.Proofs.Ev
