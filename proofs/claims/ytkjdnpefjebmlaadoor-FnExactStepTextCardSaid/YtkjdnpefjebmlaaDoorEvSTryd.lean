/-
  DERIVED: THE SHELF's CONTRACTS AT THIS DUMP, IN PLAIN WORDS (tools/lay-plain.mjs out of 'EvSTryd.lean', which tools/lay-shelf.mjs wrote): THE SAME DECLARATIONS UNDER THE SAME NAMES: 'import', 'namespace', 'open', 'def', 'theorem' AND NOTHING ELSE: no command of the shelf's: FOR A HAND-IN. Each laying: the table of numbers ('.._ren') and one theorem, a field a fact of the dump's own or the kernel's comparison; each contract: ONE APPLICATION.
-/
import Derived.Shelf.Strings.Builder1
import Derived.Shelf.Strconv.Itoa0
import Derived.Shelf.Strconv.Itoa1
import Derived.Shelf.LaysM
import Derived.Shelf.Strconv.Itoa2
import Derived.Shelf.Strconv.Itoa3
import Derived.Test.YtkjdnpefjebmlaaDoorProg
set_option linter.unusedVariables false
set_option linter.unusedSimpArgs false
set_option linter.unusedSectionVars false
namespace Go.Proofs
open Go.Shelf
def Tryd.kC:Go.Shelf.Ren:=⟨λ|169=>30|n=>n,λ|70=>56|9=>9|0=>0|72=>58|37=>22|127=>69|3=>3|5=>5|n=>n,λ|n=>n⟩
theorem Tryd.xq:Go.Proofs.Lays.n169 Tryd.prog Tryd.kC:={
 mixed:=by kernel_rfl
 f169:=Tryd.func30.trans (congrArg some (by kernel_rfl))
 t0:=Tryd.underlying0
 a0:=Tryd.isAgg0
 z0:=Tryd.sizeOf0
 v0:=Tryd.zeroValue0
 t3:=Tryd.underlying3
 a3:=Tryd.isAgg3
 z3:=Tryd.sizeOf3
 v3:=Tryd.zeroValue3
 t9:=Tryd.underlying9
 a9:=Tryd.isAgg9
 z9:=Tryd.sizeOf9
 v9:=Tryd.zeroValue9
 t37:=Tryd.underlying22
 a37:=Tryd.isAgg22
 z37:=Tryd.sizeOf22
 v37:=Tryd.zeroValue22
 t70:=Tryd.underlying56
 a70:=Tryd.isAgg56
 z70:=Tryd.sizeOf56
 v70:=Tryd.zeroValue56
 t72:=Tryd.underlying58
 a72:=Tryd.isAgg58
 z72:=Tryd.sizeOf58
 v72:=Tryd.zeroValue58
 t127:=Tryd.underlying69
 a127:=Tryd.isAgg69
 z127:=Tryd.sizeOf69
 v127:=Tryd.zeroValue69}
theorem Tryd.iS:Builder.Extra Tryd.prog Tryd.kC:={
 sizeBuilder:=by kernel_rfl
 liesBuilder:=by kernel_rfl
 t5:=Tryd.underlying5
 a5:=Tryd.isAgg5
 z5:=Tryd.sizeOf5
 v5:=Tryd.zeroValue5
 infoByte:=by kernel_rfl
 cellsByte:=by kernel_rfl
 sizeByte:=by kernel_rfl
 neB5:=by decide}
open Go.RowKit in
theorem Tryd.Builder_String_any (B b:Nat) (l:List UInt8) (w:World) (h:Lib.IsBuilder 58 5 B b (Lib.byteCells l) w) (hBw:B<=w.heap.size):
  Calls Tryd.prog 30 #[.pointer (some ⟨b,0,none⟩)] w λe w'=>e=.returned (.string ⟨l.toArray⟩)/\Below B w w':=Any.Builder_String_any Tryd.xq Tryd.iS B b l w h hBw
def Tryd.nZ:Go.Shelf.Ren:=⟨λ|171=>16|243=>28|246=>38|283=>43|284=>44|285=>45|286=>46|129=>50|317=>49|318=>51|319=>52|320=>53|337=>54|338=>55|n=>n,λ|3=>3|9=>9|2=>2|4=>4|171=>71|0=>0|53=>72|37=>22|5=>5|173=>75|212=>82|51=>83|20=>20|213=>84|46=>85|232=>88|233=>89|n=>n,λ|17=>0|18=>1|19=>2|n=>n⟩
theorem Tryd.vE:Go.Proofs.LaysM.n171 Tryd.prog Tryd.nZ:={
 mixed:=by kernel_rfl
 f129:=Tryd.func50.trans (congrArg some (by kernel_rfl))
 f171:=Tryd.func16.trans (congrArg some (by kernel_rfl))
 f243:=Tryd.func28.trans (congrArg some (by kernel_rfl))
 f246:=Tryd.func38.trans (congrArg some (by kernel_rfl))
 f283:=Tryd.func43.trans (congrArg some (by kernel_rfl))
 f284:=Tryd.func44.trans (congrArg some (by kernel_rfl))
 f285:=Tryd.func45.trans (congrArg some (by kernel_rfl))
 f286:=Tryd.func46.trans (congrArg some (by kernel_rfl))
 f317:=Tryd.func49.trans (congrArg some (by kernel_rfl))
 f318:=Tryd.func51.trans (congrArg some (by kernel_rfl))
 f319:=Tryd.func52.trans (congrArg some (by kernel_rfl))
 f320:=Tryd.func53.trans (congrArg some (by kernel_rfl))
 f337:=Tryd.func54.trans (congrArg some (by kernel_rfl))
 f338:=Tryd.func55.trans (congrArg some (by kernel_rfl))
 t0:=Tryd.underlying0
 a0:=Tryd.isAgg0
 z0:=Tryd.sizeOf0
 v0:=Tryd.zeroValue0
 t2:=Tryd.underlying2
 a2:=Tryd.isAgg2
 z2:=Tryd.sizeOf2
 v2:=Tryd.zeroValue2
 t3:=Tryd.underlying3
 a3:=Tryd.isAgg3
 z3:=Tryd.sizeOf3
 v3:=Tryd.zeroValue3
 t4:=Tryd.underlying4
 a4:=Tryd.isAgg4
 z4:=Tryd.sizeOf4
 v4:=Tryd.zeroValue4
 t5:=Tryd.underlying5
 a5:=Tryd.isAgg5
 z5:=Tryd.sizeOf5
 v5:=Tryd.zeroValue5
 t9:=Tryd.underlying9
 a9:=Tryd.isAgg9
 z9:=Tryd.sizeOf9
 v9:=Tryd.zeroValue9
 t20:=Tryd.underlying20
 a20:=Tryd.isAgg20
 z20:=Tryd.sizeOf20
 v20:=Tryd.zeroValue20
 t37:=Tryd.underlying22
 a37:=Tryd.isAgg22
 z37:=Tryd.sizeOf22
 v37:=Tryd.zeroValue22
 t46:=Tryd.underlying85
 a46:=Tryd.isAgg85
 z46:=Tryd.sizeOf85
 v46:=Tryd.zeroValue85
 t51:=Tryd.underlying83
 a51:=Tryd.isAgg83
 z51:=Tryd.sizeOf83
 v51:=Tryd.zeroValue83
 t53:=Tryd.underlying72
 a53:=Tryd.isAgg72
 z53:=Tryd.sizeOf72
 v53:=Tryd.zeroValue72
 t171:=Tryd.underlying71
 a171:=Tryd.isAgg71
 z171:=Tryd.sizeOf71
 v171:=Tryd.zeroValue71
 t173:=Tryd.underlying75
 a173:=Tryd.isAgg75
 z173:=Tryd.sizeOf75
 v173:=Tryd.zeroValue75
 t212:=Tryd.underlying82
 a212:=Tryd.isAgg82
 z212:=Tryd.sizeOf82
 v212:=Tryd.zeroValue82
 t213:=Tryd.underlying84
 a213:=Tryd.isAgg84
 z213:=Tryd.sizeOf84
 t232:=Tryd.underlying88
 a232:=Tryd.isAgg88
 z232:=Tryd.sizeOf88
 v232:=Tryd.zeroValue88
 t233:=Tryd.underlying89
 a233:=Tryd.isAgg89
 z233:=Tryd.sizeOf89
 v233:=Tryd.zeroValue89
 g17:=by kernel_rfl
 g18:=by kernel_rfl
 g19:=by kernel_rfl
 i0:=by kernel_rfl
 i2:=by kernel_rfl
 i3:=by kernel_rfl
 i4:=by kernel_rfl
 i5:=by kernel_rfl
 i9:=by kernel_rfl
 i20:=by kernel_rfl
 i37:=by kernel_rfl
 i46:=by kernel_rfl
 i51:=by kernel_rfl
 i53:=by kernel_rfl
 i171:=by kernel_rfl
 i173:=by kernel_rfl
 i212:=by kernel_rfl
 i232:=by kernel_rfl
 i233:=by kernel_rfl
 m17:=by kernel_rfl
 m18:=by kernel_rfl
 m19:=by kernel_rfl}
open Go.RowKit Go.Sort Go.Lib in
theorem Tryd.strconv_Itoa (n:Int) (h0:-9223372036854775808<=n) (h1:n<=9223372036854775807) (w:World) (AM:Lib.TabIs Tryd.prog w "internal/strconv.uint64pow10" .u64 Lib.pow10Tab):
  Calls Tryd.prog 16 #[.int .i64 n] w λe w'=>e=.returned (.string ⟨(Lib.itoa n).toArray⟩)/\∃k os,w'=grow (w.drewN k) os:=Any.strconv_Itoa Tryd.vE n h0 h1 w AM
end Go.Proofs
