/- The evaluator over the model's code, and that it is sound: part 1. -/
import Derived.Calls
import Derived.Laws.IdiomCopy
import Derived.Laws.Cells
import Derived.Laws.Sem
set_option linter.unusedVariables false
set_option linter.unusedSimpArgs false
set_option linter.unusedSectionVars false
namespace Go.Proofs.Ev
theorem An:type_of% @Option.bind_eq_some_iff:=@Option.bind_eq_some_iff
theorem It:type_of% @Option.some.injEq:=@Option.some.injEq
theorem Of:type_of% @List.getElem?_eq_some_iff:=@List.getElem?_eq_some_iff
theorem On:type_of% @List.getElem?_eq_getElem:=@List.getElem?_eq_getElem
theorem QU:type_of% @Nat.eq_of_beq_eq_true:=@Nat.eq_of_beq_eq_true
theorem QV:type_of% @Bool.and_eq_true:=@Bool.and_eq_true
theorem QW:type_of% @Int.toNat_natCast:=@Int.toNat_natCast
theorem QX:type_of% @List.getElem?_append_right:=@List.getElem?_append_right
theorem QY:type_of% @List.getElem?_append_left:=@List.getElem?_append_left
theorem QZ:type_of% @Option.elim_some:=@Option.elim_some
theorem Q0:type_of% @Option.map_eq_some_iff:=@Option.map_eq_some_iff
theorem Q1:type_of% @Bool.not_true:=@Bool.not_true
theorem Q2:type_of% @Bool.true_and:=@Bool.true_and
theorem Q3:type_of% @List.getElem_mem:=@List.getElem_mem
theorem Q4:type_of% @Nat.zero_add:=@Nat.zero_add
theorem Q5:type_of% @List.length_cons:=@List.length_cons
theorem Q6:type_of% @Option.bind_some:=@Option.bind_some
theorem Q7:type_of% @Array.getElem?_eq_getElem:=@Array.getElem?_eq_getElem
theorem Q8:type_of% @Nat.le_of_ble_eq_true:=@Nat.le_of_ble_eq_true
theorem Q9:type_of% @List.length_append:=@List.length_append
theorem Ra:type_of% @List.getElem?_drop:=@List.getElem?_drop
theorem Rb:type_of% @Nat.le_refl:=@Nat.le_refl
theorem Rc:type_of% @List.mem_of_getElem?:=@List.mem_of_getElem?
theorem Rd:type_of% @Array.getD_eq_getD_getElem?:=@Array.getD_eq_getD_getElem?
theorem Re:type_of% @Nat.mul_le_mul_right:=@Nat.mul_le_mul_right
theorem Rf:type_of% @List.mem_cons_of_mem:=@List.mem_cons_of_mem
theorem Rg:type_of% @Prod.mk.injEq:=@Prod.mk.injEq
theorem Rh:type_of% @List.append_assoc:=@List.append_assoc
theorem Ri:type_of% @List.mem_cons:=@List.mem_cons
theorem Rj:type_of% @Array.getElem?_eq_some_iff:=@Array.getElem?_eq_some_iff
theorem Rk:type_of% @Option.bind_assoc:=@Option.bind_assoc
theorem Rm:type_of% @Bool.not_false:=@Bool.not_false
theorem Rn:type_of% @Nat.add_mul:=@Nat.add_mul
theorem Ro:type_of% @List.getElem?_eq_none:=@List.getElem?_eq_none
theorem Rp:type_of% @List.mem_cons_self:=@List.mem_cons_self
theorem Rq:type_of% @List.getD_eq_getElem?_getD:=@List.getD_eq_getElem?_getD
theorem Rr:type_of% @List.append_nil:=@List.append_nil
theorem Rs:type_of% @Nat.add_sub_cancel_left:=@Nat.add_sub_cancel_left
theorem Rt:type_of% @Nat.zero_le:=@Nat.zero_le
theorem Ru:type_of% @Nat.add_zero:=@Nat.add_zero
theorem Rv:type_of% @Nat.mul_comm:=@Nat.mul_comm
theorem Rw:type_of% @List.getElem?_take:=@List.getElem?_take
theorem Rx:type_of% @List.map_cons:=@List.map_cons
theorem Ry:type_of% @List.mem_iff_getElem:=@List.mem_iff_getElem
theorem Rz:type_of% @List.length_nil:=@List.length_nil
theorem RA:type_of% @List.length_take:=@List.length_take
theorem RB:type_of% @List.length_set:=@List.length_set
theorem RC:type_of% @List.getElem?_map:=@List.getElem?_map
theorem RD:type_of% @Nat.mod_eq_of_lt:=@Nat.mod_eq_of_lt
theorem RE:type_of% @Nat.sub_zero:=@Nat.sub_zero
theorem RF:type_of% @Nat.mul_le_mul:=@Nat.mul_le_mul
theorem RG:type_of% @List.getElem?_set_self:=@List.getElem?_set_self
theorem RH:type_of% @Option.bind_none:=@Option.bind_none
theorem RI:type_of% @Array.getElem?_toList:=@Array.getElem?_toList
theorem RJ:type_of% @List.length_eq_zero_iff:=@List.length_eq_zero_iff
theorem RK:type_of% @List.cons.injEq:=@List.cons.injEq
theorem RL:type_of% @List.mem_filter:=@List.mem_filter
theorem RM:type_of% @List.getElem?_of_mem:=@List.getElem?_of_mem
theorem RN:type_of% @Bool.false_and:=@Bool.false_and
theorem RO:type_of% @List.foldl_cons:=@List.foldl_cons
theorem RP:type_of% @List.take_length:=@List.take_length
theorem RQ:type_of% @Array.getElem?_append_left:=@Array.getElem?_append_left
theorem RR:type_of% @Int.tdiv_eq_ediv_of_nonneg:=@Int.tdiv_eq_ediv_of_nonneg
theorem RS:type_of% @Nat.add_assoc:=@Nat.add_assoc
theorem RU:type_of% @Option.isSome_none:=@Option.isSome_none
theorem RV:type_of% @Option.or_none:=@Option.or_none
theorem RW:type_of% @Nat.mul_add_mod:=@Nat.mul_add_mod
theorem RX:type_of% @List.nodup_cons:=@List.nodup_cons
theorem RY:type_of% @List.map_append:=@List.map_append
theorem RZ:type_of% @Int.natCast_mul:=@Int.natCast_mul
theorem R2:type_of% @List.findIdx?_eq_some_iff_getElem:=@List.findIdx?_eq_some_iff_getElem
theorem R3:type_of% @List.length_drop:=@List.length_drop
theorem R4:type_of% @List.foldl_append:=@List.foldl_append
theorem R5:type_of% @Nat.le_trans:=@Nat.le_trans
theorem R6:type_of% @Nat.div_eq_of_lt:=@Nat.div_eq_of_lt
theorem R7:type_of% @List.filter_eq_self:=@List.filter_eq_self
theorem R8:type_of% @List.take_append_of_le_length:=@List.take_append_of_le_length
theorem R9:type_of% @List.take_append_drop:=@List.take_append_drop
theorem Sa:type_of% @Nat.ble_eq_true_of_le:=@Nat.ble_eq_true_of_le
theorem Sb:type_of% @Option.map_some:=@Option.map_some
theorem Sc:type_of% @Nat.succ_mul:=@Nat.succ_mul
theorem Sd:type_of% @Option.some.inj:=@Option.some.inj
theorem Se:type_of% @List.mem_append:=@List.mem_append
theorem Sf:type_of% @List.nil_append:=@List.nil_append
theorem Sg:type_of% @Bool.false_eq_true:=@Bool.false_eq_true
theorem Si:type_of% @List.cons_append:=@List.cons_append
theorem Sj:type_of% @Option.getD_some:=@Option.getD_some
theorem Sl:type_of% @List.getElem?_set_ne:=@List.getElem?_set_ne
theorem Sm:type_of% @List.sum_cons:=@List.sum_cons
theorem Sn:type_of% @List.take_of_length_le:=@List.take_of_length_le
theorem So:type_of% @Nat.mul_add_div:=@Nat.mul_add_div
theorem Sp:type_of% @List.range_succ:=@List.range_succ
theorem Sq:type_of% @List.findIdx?_eq_none_iff:=@List.findIdx?_eq_none_iff
theorem Sr:type_of% @List.length_filter_le:=@List.length_filter_le
theorem Ss:type_of% @List.all_eq_true:=@List.all_eq_true
theorem Su:type_of% @List.filter_cons:=@List.filter_cons
theorem Sv:type_of% @Bool.or_true:=@Bool.or_true
theorem Sw:type_of% @List.map_nil:=@List.map_nil
theorem Sx:type_of% @Bool.and_eq_true_iff:=@Bool.and_eq_true_iff
theorem Sy:type_of% @List.getElem?_cons_succ:=@List.getElem?_cons_succ
theorem SA:type_of% @List.any_eq_not_all_not:=@List.any_eq_not_all_not
theorem SB:type_of% @Array.ext':=@Array.ext'
theorem SC:type_of% @Array.getElem?_append_right:=@Array.getElem?_append_right
theorem SD:type_of% @Option.elim_none:=@Option.elim_none
theorem SE:type_of% @Array.append_assoc:=@Array.append_assoc
theorem SF:type_of% @List.filter_append:=@List.filter_append
theorem SG:type_of% @Option.isSome_some:=@Option.isSome_some
theorem SI:type_of% @List.length_replicate:=@List.length_replicate
theorem SJ:type_of% @Bool.or_eq_true:=@Bool.or_eq_true
theorem SK:type_of% @List.sum_append:=@List.sum_append
theorem SL:type_of% @List.getElem?_cons_zero:=@List.getElem?_cons_zero
theorem SM:type_of% @List.drop_length:=@List.drop_length
theorem SN:type_of% @Int.mul_nonneg:=@Int.mul_nonneg
theorem SP:type_of% @Array.getElem?_eq_none:=@Array.getElem?_eq_none
theorem SQ:type_of% @Nat.div_add_mod:=@Nat.div_add_mod
theorem SR:type_of% @Nat.div_lt_iff_lt_mul:=@Nat.div_lt_iff_lt_mul
theorem SS:type_of% @Bool.not_eq_true':=@Bool.not_eq_true'
theorem SU:type_of% @Nat.lt_trichotomy:=@Nat.lt_trichotomy
theorem SX:type_of% @Bool.and_false:=@Bool.and_false
theorem SY:type_of% @List.mem_of_mem_take:=@List.mem_of_mem_take
theorem SZ:type_of% @List.mem_map:=@List.mem_map
theorem S0:type_of% @List.mem_flatMap:=@List.mem_flatMap
theorem S3:type_of% @List.flatMap_append:=@List.flatMap_append
theorem S5:type_of% @Bool.and_true:=@Bool.and_true
theorem S6:type_of% @Bool.eq_iff_iff:=@Bool.eq_iff_iff
theorem S7:type_of% @List.length_map:=@List.length_map
theorem S8:type_of% @Nat.min_eq_left:=@Nat.min_eq_left
theorem S9:type_of% @List.mem_replicate:=@List.mem_replicate
theorem Ta:type_of% @List.findIdx?_cons:=@List.findIdx?_cons
theorem Tb:type_of% @List.pairwise_cons:=@List.pairwise_cons
theorem Td:type_of% @List.drop_zero:=@List.drop_zero
theorem Te:type_of% @Nat.zero_mul:=@Nat.zero_mul
theorem Tg:type_of% @Bool.not_not:=@Bool.not_not
theorem Th:type_of% @Nat.le_of_lt:=@Nat.le_of_lt
theorem Ti:type_of% @List.map_id':=@List.map_id'
theorem Tn:type_of% @Nat.mod_lt:=@Nat.mod_lt
theorem Tp:type_of% @Bool.false_or:=@Bool.false_or
theorem Tq:type_of% @List.all_cons:=@List.all_cons
theorem Tr:type_of% @Int.mul_assoc:=@Int.mul_assoc
theorem TJ:type_of% @Iff.rfl:=@Iff.rfl
section
structure Shape where
 h:Int
 w:Int
 c:Int
 deriving DecidableEq
structure av where
 sh:Shape
 data:List Int
 deriving DecidableEq
structure ax where
 kind:Int
 out:Int
 size:Int
 step:Int
 mult:Int
 shift:Int
 zero:Int
 weights:List Int
 mR:List Int
 deriving DecidableEq
structure Model where
 inp:Shape
 aB:List ax
 deriving DecidableEq
structure Job where
 model:Model
 at_:Int
 act:av
 iL:Int
 deriving DecidableEq
structure Task where
 id:Int
 ar:List Int
 at_:Int
 due:Int
 born:Int
 deriving DecidableEq
structure aj where
 now:Int
 ai:Int
 age:Int
 tasks:List Task
 run:Int
 left:Int
 turns:Int
 next:Int
 deriving DecidableEq
structure Request where
 id:Int
 model:Int
 job:Job
 due:Int
 deriving DecidableEq
structure Runtime where
 sched:aj
 ak:List Model
 ao:List Bool
 ae:List Request
 deriving DecidableEq
structure Step where
 kind:Int
 a:Int
 b:Int
 data:List Int
 input:av
 deriving DecidableEq
structure Event where
 kind:Int
 a:Int
 b:Int
 out:av
 deriving DecidableEq
structure Entry where
 id:Int
 model:Model
 input:av
 at_:Int
 due:Int
 end_:Int
 done:Bool
 deriving DecidableEq
structure NW where
 id:Int
 model:Int
 due:Int
 deriving DecidableEq
structure bY where
 id:Int
 ar:Nat
 at_:Int
 due:Int
 born:Int
 deriving DecidableEq
structure sn where
 id:Int
 model:Int
 mh:Int
 mw:Int
 mc:Int
 aB:Nat
 jat:Int
 ah:Int
 aw:Int
 ac:Int
 data:Nat
 iL:Int
 due:Int
 deriving DecidableEq
structure Reader where
 b:List Int
 at_:Int
 bad:Bool
 deriving DecidableEq
inductive S where
 |shape|de|aR|model|task|request|step|event|entry|L4|cL|ig
 deriving DecidableEq
inductive Ty where
 |int (k:IntKind)|bool|str|sl (t:Ty)|st (s:S)|tok
 |ho (s:S)|hl (t:Ty)
 deriving DecidableEq
def S.E:S->Type
 |.shape=>Shape|.de=>av|.aR=>ax|.model=>Model|.task=>Task|.request=>Request
 |.step=>Step|.event=>Event|.entry=>Entry|.L4=>NW|.cL=>bY|.ig=>sn
def Ty.El:Ty->Type
 |.int _=>Int
 |.bool=>Bool
 |.str=>List UInt8
 |.sl t=>List t.El
 |.st s=>s.E
 |.tok=>Nat
 |.ho s=>Option s.E
 |.hl t=>Option (List t.El)
inductive R where
 |int (k:IntKind) (n:Int)
 |bool (b:Bool)
 |str (l:List UInt8)
 |sl (t:Ty) (xs:List t.El)
 |tok (n:Nat)
 |lJ
abbrev R.i (n:Int):R:=.int .i64 n
abbrev R.ints (xs:List Int):R:=.sl (.int .i64) xs
abbrev R.bytes (xs:List Int):R:=.sl (.int .u8) xs
def JI (x:Shape):List R:=[.i x.h,.i x.w,.i x.c]
def JJ (x:av):List R:=[.i x.sh.h,.i x.sh.w,.i x.sh.c,.ints x.data]
def Nz (x:ax):List R:=[.i x.kind,.i x.out,.i x.size,.i x.step,.i x.mult,.i x.shift,.i x.zero,.ints x.weights,.ints x.mR]
def NA (x:Model):List R:=[.i x.inp.h,.i x.inp.w,.i x.inp.c,.sl (.st .aR) x.aB]
def Ma (x:Task):List R:=[.i x.id,.ints x.ar,.i x.at_,.i x.due,.i x.born]
def GS (x:Request):List R:=[.i x.id,.i x.model,.i x.job.model.inp.h,.i x.job.model.inp.w,.i x.job.model.inp.c,.sl (.st .aR) x.job.model.aB,.i x.job.at_,.i x.job.act.sh.h,.i x.job.act.sh.w,.i x.job.act.sh.c,.ints x.job.act.data,.i x.job.iL,.i x.due]
def Mb (x:Step):List R:=[.i x.kind,.i x.a,.i x.b,.bytes x.data,.i x.input.sh.h,.i x.input.sh.w,.i x.input.sh.c,.ints x.input.data]
def NB (x:Event):List R:=[.i x.kind,.i x.a,.i x.b,.i x.out.sh.h,.i x.out.sh.w,.i x.out.sh.c,.ints x.out.data]
def NC (x:Entry):List R:=[.i x.id,.i x.model.inp.h,.i x.model.inp.w,.i x.model.inp.c,.sl (.st .aR) x.model.aB,.i x.input.sh.h,.i x.input.sh.w,.i x.input.sh.c,.ints x.input.data,.i x.at_,.i x.due,.i x.end_,.bool x.done]
def NX (x:NW):List R:=[.i x.id,.i x.model,.i x.due]
def zO (x:bY):List R:=[.i x.id,.tok x.ar,.i x.at_,.i x.due,.i x.born]
def wK (x:sn):List R:=[.i x.id,.i x.model,.i x.mh,.i x.mw,.i x.mc,.tok x.aB,.i x.jat,.i x.ah,.i x.aw,.i x.ac,.tok x.data,.i x.iL,.i x.due]
def S.sz:S->Nat
 |.shape=>3|.de=>4|.aR=>9|.model=>4|.task=>5|.request=>13|.step=>8|.event=>7|.entry=>13|.L4=>3|.cL=>5|.ig=>13
def S.cells:(s:S)->s.E->List R
 |.shape=>JI|.de=>JJ|.aR=>Nz|.model=>NA|.task=>Ma|.request=>GS
 |.step=>Mb|.event=>NB|.entry=>NC|.L4=>NX|.cL=>zO|.ig=>wK
def Ty.sz:Ty->Nat
 |.st s=>s.sz
 |.ho s=>s.sz
 |_=>1
def Ty.cells:(t:Ty)->t.El->List R
 |.int k,n=>[.int k n]
 |.bool,b=>[.bool b]
 |.str,l=>[.str l]
 |.sl t,xs=>[.sl t xs]
 |.st s,x=>s.cells x
 |.tok,n=>[.tok n]
 |.ho s,x=>match x with
  |some x=>s.cells x
  |none=>List.replicate s.sz .lJ
 |.hl t,x=>match x with
  |some xs=>[.sl t xs]
  |none=>[.lJ]
theorem S.cp (s:S) (x:s.E):(s.cells x).length=s.sz:=by cases s<;>rfl
theorem Ty.cp (t:Ty) (x:t.El):(t.cells x).length=t.sz:=by
 cases t with
 |st s=>exact s.cp x
 |ho s=>cases x with
  |none=>simp[Ty.cells,Ty.sz]
  |some x=>exact s.cp x
 |hl t=>cases x<;>rfl
 |_=>rfl
theorem Ty.gi (t:Ty):0<t.sz:=by
 cases t with
 |st s=>cases s<;>simp[Ty.sz,S.sz]
 |ho s=>cases s<;>simp[Ty.sz,S.sz]
 |_=>simp[Ty.sz]
def R.asI:R->Option Int
 |.int .i64 n=>some n
 |_=>none
def R.asB:R->Option Bool
 |.bool b=>some b
 |_=>none
def R.asL (t:Ty):R->Option (List t.El)
 |.sl t' xs=>if h:t'=t then some (h▸xs)else none
 |_=>none
def R.asT:R->Option Nat
 |.tok n=>some n
 |_=>none
theorem R.Bj {r:R} {n:Nat} (h:r.asT=some n):r=.tok n:=by
 unfold R.asT at h;split at h
 ·cases h;rfl
 ·cases h
theorem R.aA {r:R} {n:Int} (h:r.asI=some n):r=.int .i64 n:=by
 unfold R.asI at h;split at h
 ·cases h;rfl
 ·cases h
theorem R.Mc {r:R} {n:Bool} (h:r.asB=some n):r=.bool n:=by
 unfold R.asB at h;split at h
 ·cases h;rfl
 ·cases h
theorem R.fF {t:Ty} {r:R} {n:List t.El} (h:r.asL t=some n):r=.sl t n:=by
 unfold R.asL at h;split at h
 ·split at h
  ·rename_i e;subst e;cases h;rfl
  ·cases h
 ·cases h
def CW:List R->Option Shape
 |[a',b',c']=>(a'.asI).bind λa=>(b'.asI).bind λb=>(c'.asI).bind λc=>some ⟨a,b,c⟩
 |_=>none
theorem E4 (cs:List R) (x:Shape) (h:CW cs=some x):JI x=cs:=by
 unfold CW at h;split at h
 ·simp only[An]at h;obtain⟨a,ha,b,hb,c,hc,h⟩:=h;cases h;rw[R.aA ha,R.aA hb,R.aA hc];rfl
 ·cases h
def wL:List R->Option av
 |[a',b',c',d']=>(a'.asI).bind λa=>(b'.asI).bind λb=>(c'.asI).bind λc=>(d'.asL (.int .i64)).bind λd=>some ⟨⟨a,b,c⟩,d⟩
 |_=>none
theorem CX (cs:List R) (x:av) (h:wL cs=some x):JJ x=cs:=by
 unfold wL at h;split at h
 ·simp only[An]at h;obtain⟨a,ha,b,hb,c,hc,d,hd,h⟩:=h;cases h;rw[R.aA ha,R.aA hb,R.aA hc,R.fF hd];rfl
 ·cases h
def CY:List R->Option ax
 |[a',b',c',d',e',f',g',h',i']=>(a'.asI).bind λa=>(b'.asI).bind λb=>(c'.asI).bind λc=>(d'.asI).bind λd=>(e'.asI).bind λe=>(f'.asI).bind λf=>(g'.asI).bind λg=>(h'.asL (.int .i64)).bind λh=>(i'.asL (.int .i64)).bind λi=>some ⟨a,b,c,d,e,f,g,h,i⟩
 |_=>none
theorem E5 (cs:List R) (x:ax) (h:CY cs=some x):Nz x=cs:=by
 unfold CY at h;split at h
 ·simp only[An]at h;obtain⟨a,ha,b,hb,c,hc,d,hd,e,he,f,hf,g,hg,h,hh,i,hi,h⟩:=h;cases h;rw[R.aA ha,R.aA hb,R.aA hc,R.aA hd,R.aA he,R.aA hf,R.aA hg,R.fF hh,R.fF hi];rfl
 ·cases h
def CZ:List R->Option Model
 |[a',b',c',d']=>(a'.asI).bind λa=>(b'.asI).bind λb=>(c'.asI).bind λc=>(d'.asL (.st .aR)).bind λd=>some ⟨⟨a,b,c⟩,d⟩
 |_=>none
theorem E6 (cs:List R) (x:Model) (h:CZ cs=some x):NA x=cs:=by
 unfold CZ at h;split at h
 ·simp only[An]at h;obtain⟨a,ha,b,hb,c,hc,d,hd,h⟩:=h;cases h;rw[R.aA ha,R.aA hb,R.aA hc,R.fF hd];rfl
 ·cases h
def JK:List R->Option Task
 |[a',b',c',d',e']=>(a'.asI).bind λa=>(b'.asL (.int .i64)).bind λb=>(c'.asI).bind λc=>(d'.asI).bind λd=>(e'.asI).bind λe=>some ⟨a,b,c,d,e⟩
 |_=>none
theorem H7 (cs:List R) (x:Task) (h:JK cs=some x):Ma x=cs:=by
 unfold JK at h;split at h
 ·simp only[An]at h;obtain⟨a,ha,b,hb,c,hc,d,hd,e,he,h⟩:=h;cases h;rw[R.aA ha,R.fF hb,R.aA hc,R.aA hd,R.aA he];rfl
 ·cases h
def sq:List R->Option Request
 |[a',b',c',d',e',f',g',h',i',j',k',l',m']=>(a'.asI).bind λa=>(b'.asI).bind λb=>(c'.asI).bind λc=>(d'.asI).bind λd=>(e'.asI).bind λe=>(f'.asL (.st .aR)).bind λf=>(g'.asI).bind λg=>(h'.asI).bind λh=>(i'.asI).bind λi=>(j'.asI).bind λj=>(k'.asL (.int .i64)).bind λk=>(l'.asI).bind λl=>(m'.asI).bind λm=>some ⟨a,b,⟨⟨⟨c,d,e⟩,f⟩,g,⟨⟨h,i,j⟩,k⟩,l⟩,m⟩
 |_=>none
theorem Bl (cs:List R) (x:Request) (h:sq cs=some x):GS x=cs:=by
 unfold sq at h;split at h
 ·simp only[An]at h;obtain⟨a,ha,b,hb,c,hc,d,hd,e,he,f,hf,g,hg,h,hh,i,hi,j,hj,k,hk,l,hl,m,hm,h⟩:=h;cases h;rw[R.aA ha,R.aA hb,R.aA hc,R.aA hd,R.aA he,R.fF hf,R.aA hg,R.aA hh,R.aA hi,R.aA hj,R.fF hk,R.aA hl,R.aA hm];rfl
 ·cases h
def JL:List R->Option Step
 |[a',b',c',d',e',f',g',h']=>(a'.asI).bind λa=>(b'.asI).bind λb=>(c'.asI).bind λc=>(d'.asL (.int .u8)).bind λd=>(e'.asI).bind λe=>(f'.asI).bind λf=>(g'.asI).bind λg=>(h'.asL (.int .i64)).bind λh=>some ⟨a,b,c,d,⟨⟨e,f,g⟩,h⟩⟩
 |_=>none
theorem H8 (cs:List R) (x:Step) (h:JL cs=some x):Mb x=cs:=by
 unfold JL at h;split at h
 ·simp only[An]at h;obtain⟨a,ha,b,hb,c,hc,d,hd,e,he,f,hf,g,hg,h,hh,h⟩:=h;cases h;rw[R.aA ha,R.aA hb,R.aA hc,R.fF hd,R.aA he,R.aA hf,R.aA hg,R.fF hh];rfl
 ·cases h
def C0:List R->Option Event
 |[a',b',c',d',e',f',g']=>(a'.asI).bind λa=>(b'.asI).bind λb=>(c'.asI).bind λc=>(d'.asI).bind λd=>(e'.asI).bind λe=>(f'.asI).bind λf=>(g'.asL (.int .i64)).bind λg=>some ⟨a,b,c,⟨⟨d,e,f⟩,g⟩⟩
 |_=>none
theorem E7 (cs:List R) (x:Event) (h:C0 cs=some x):NB x=cs:=by
 unfold C0 at h;split at h
 ·simp only[An]at h;obtain⟨a,ha,b,hb,c,hc,d,hd,e,he,f,hf,g,hg,h⟩:=h;cases h;rw[R.aA ha,R.aA hb,R.aA hc,R.aA hd,R.aA he,R.aA hf,R.fF hg];rfl
 ·cases h
def C3:List R->Option Entry
 |[a',b',c',d',e',f',g',h',i',j',k',l',m']=>(a'.asI).bind λa=>(b'.asI).bind λb=>(c'.asI).bind λc=>(d'.asI).bind λd=>(e'.asL (.st .aR)).bind λe=>(f'.asI).bind λf=>(g'.asI).bind λg=>(h'.asI).bind λh=>(i'.asL (.int .i64)).bind λi=>(j'.asI).bind λj=>(k'.asI).bind λk=>(l'.asI).bind λl=>(m'.asB).bind λm=>some ⟨a,⟨⟨b,c,d⟩,e⟩,⟨⟨f,g,h⟩,i⟩,j,k,l,m⟩
 |_=>none
theorem E8 (cs:List R) (x:Entry) (h:C3 cs=some x):NC x=cs:=by
 unfold C3 at h;split at h
 ·simp only[An]at h;obtain⟨a,ha,b,hb,c,hc,d,hd,e,he,f,hf,g,hg,h,hh,i,hi,j,hj,k,hk,l,hl,m,hm,h⟩:=h;cases h;rw[R.aA ha,R.aA hb,R.aA hc,R.aA hd,R.fF he,R.aA hf,R.aA hg,R.aA hh,R.fF hi,R.aA hj,R.aA hk,R.aA hl,R.Mc hm];rfl
 ·cases h
def JM:List R->Option NW
 |[a',b',c']=>(a'.asI).bind λa=>(b'.asI).bind λb=>(c'.asI).bind λc=>some ⟨a,b,c⟩
 |_=>none
theorem H9 (cs:List R) (x:NW) (h:JM cs=some x):NX x=cs:=by
 unfold JM at h;split at h
 ·simp only[An]at h;obtain⟨a,ha,b,hb,c,hc,h⟩:=h;cases h;rw[R.aA ha,R.aA hb,R.aA hc];rfl
 ·cases h
def GU:List R->Option bY
 |[a',b',c',d',e']=>(a'.asI).bind λa=>(b'.asT).bind λb=>(c'.asI).bind λc=>(d'.asI).bind λd=>(e'.asI).bind λe=>some ⟨a,b,c,d,e⟩
 |_=>none
theorem E9 (cs:List R) (x:bY) (hq:GU cs=some x):zO x=cs:=by
 unfold GU at hq;split at hq
 ·simp only[An]at hq;obtain⟨a,ha,b,hb,c,hc,d,hd,e,he,hq⟩:=hq;cases hq;rw[R.aA ha,R.Bj hb,R.aA hc,R.aA hd,R.aA he];rfl
 ·cases hq
def sr:List R->Option sn
 |[a',b',c',d',e',f',g',h',i',j',k',l',m']=>(a'.asI).bind λa=>(b'.asI).bind λb=>(c'.asI).bind λc=>(d'.asI).bind λd=>(e'.asI).bind λe=>(f'.asT).bind λf=>(g'.asI).bind λg=>(h'.asI).bind λh=>(i'.asI).bind λi=>(j'.asI).bind λj=>(k'.asT).bind λk=>(l'.asI).bind λl=>(m'.asI).bind λm=>some ⟨a,b,c,d,e,f,g,h,i,j,k,l,m⟩
 |_=>none
theorem zv (cs:List R) (x:sn) (hq:sr cs=some x):wK x=cs:=by
 unfold sr at hq;split at hq
 ·simp only[An]at hq;obtain⟨a,ha,b,hb,c,hc,d,hd,e,he,f,hf,g,hg,h0,hh,i,hi,j,hj,k,hk,l,hl,m,hm,hq⟩:=hq;cases hq;rw[R.aA ha,R.aA hb,R.aA hc,R.aA hd,R.aA he,R.Bj hf,R.aA hg,R.aA hh,R.aA hi,R.aA hj,R.Bj hk,R.aA hl,R.aA hm];rfl
 ·cases hq
def S.et:(s:S)->List R->Option s.E
 |.shape=>CW
 |.de=>wL
 |.aR=>CY
 |.model=>CZ
 |.task=>JK
 |.request=>sq
 |.step=>JL
 |.event=>C0
 |.entry=>C3
 |.L4=>JM
 |.cL=>GU
 |.ig=>sr
def Ty.vj:(t:Ty)->R->Option t.El
 |.int k,.int k' n=>if k'=k then some n else none
 |.bool,.bool b=>some b
 |.str,.str l=>some l
 |.sl t,.sl t' xs=>if h:t'=t then some (h▸xs)else none
 |.tok,.tok n=>some n
 |.hl t,.sl t' xs=>if h:t'=t then some (some (h▸xs))else none
 |_,_=>none
def Ty.et:(t:Ty)->List R->Option t.El
 |.st s,cs=>s.et cs
 |.ho s,cs=>(s.et cs).bind λx=>some (some x)
 |t,[r]=>t.vj r
 |_,_=>none
theorem Ty.Fa (t:Ty) (r:R) (x:t.El) (h:t.vj r=some x):t.cells x=[r]:=by
 cases t with
 |st s=>cases r<;>exact nomatch h
 |int k=>
  cases r with
  |int k' n=>
   replace h:(if k'=k then some n else none)=some x:=h
   split at h
   ·rename_i e;subst e;cases h;rfl
   ·cases h
  |_=>exact nomatch h
 |bool=>
  cases r with
  |bool b=>cases h;rfl
  |_=>exact nomatch h
 |str=>
  cases r with
  |str b=>cases h;rfl
  |_=>exact nomatch h
 |sl t=>
  cases r with
  |sl t' xs=>
   replace h:(if h:t'=t then some (h▸xs)else none)=some x:=h
   split at h
   ·rename_i e;subst e;cases h;rfl
   ·cases h
  |_=>exact nomatch h
 |tok=>
  cases r with
  |tok n=>cases h;rfl
  |_=>exact nomatch h
 |ho s=>cases r<;>exact nomatch h
 |hl t=>
  cases r with
  |sl t' xs=>
   replace h:(if h:t'=t then some (some (h▸xs))else none)=some x:=h
   split at h
   ·rename_i e;subst e;cases h;rfl
   ·cases h
  |_=>exact nomatch h
theorem S.cC (s:S) (cs:List R) (x:s.E) (h:s.et cs=some x):s.cells x=cs:=by
 cases s
 ·exact E4 cs x h
 ·exact CX cs x h
 ·exact E5 cs x h
 ·exact E6 cs x h
 ·exact H7 cs x h
 ·exact Bl cs x h
 ·exact H8 cs x h
 ·exact E7 cs x h
 ·exact E8 cs x h
 ·exact H9 cs x h
 ·exact E9 cs x h
 ·exact zv cs x h
theorem Ty.cC (t:Ty) (cs:List R) (x:t.El) (h:t.et cs=some x):t.cells x=cs:=by
 cases t with
 |st s=>exact S.cC s cs x h
 |ho s=>
  replace h:(s.et cs).bind (λx=>some (some x))=some x:=h
  obtain⟨y,hy,e⟩:=An.1 h;cases e
  exact S.cC s cs y hy
 |_=>
  match cs,h with
  |[r],h=>exact Ty.Fa _ r x h
end
section
inductive SV where
 |r (d:List Nat) (x:R)
 |cr
 |oY
 |own (i:Nat)
 |sub (i off len:Nat)
 |bsl (i n:Nat)
 |ptr (i idx off:Nat)
 |inn (i x c:Nat)
 |ke (d:List Nat) (cs:List R)
 |agg (cs:List SV)
 |tup (vs:List SV)
 |fn (f:Fn) (first cap:List SV)
 |undef
abbrev SV.i (n:Int):SV:=.r [] (.int .i64 n)
abbrev SV.b (b:Bool):SV:=.r [] (.bool b)
inductive Blk where
 |box (cs:List SV)
 |arr (sh:Option (List Nat)) (t:Ty) (xs:List t.El)
abbrev aK:=List (Nat× Blk)
structure St where
 bI:List (Nat× SV)
 heap:aK
 nid:Nat
 n:Nat
 gh:List (Option Nat):=[]
def look {α:Type}:List (Nat× α)->Nat->Option α
 |[],_=>none
 |(k,v)::l,n=>cond (Nat.beq k n) (some v) (look l n)
def put {α:Type}:List (Nat× α)->Nat->α->List (Nat× α)
 |[],n,v=>[(n,v)]
 |(k,u)::l,n,v=>cond (Nat.beq k n) ((k,v)::l) ((k,u)::put l n v)
def idx {α:Type} (xs:List α) (i:Int):Option α:=cond (decide (0<=i)) xs[i.toNat]? none
def mem (i:Nat):List Nat->Bool
 |[]=>false
 |k::l=>cond (Nat.beq k i) true (mem i l)
def hit (T:List Nat):List Nat->Bool
 |[]=>false
 |k::l=>cond (mem k T) true (hit T l)
abbrev Kil:=List Nat× List Nat
mutual
def SV.aP (T:Kil):SV->SV
 |.r d x=>cond (hit T.2 d) .undef (.r d x)
 |.own j=>cond (mem j T.1) .undef (.own j)
 |.sub j o n=>cond (mem j T.1) .undef (.sub j o n)
 |.bsl j n=>cond (mem j T.1) .undef (.bsl j n)
 |.ptr j x o=>cond (mem j T.1) .undef (.ptr j x o)
 |.inn j x c=>cond (mem j T.1||mem j T.2) .undef (.inn j x c)
 |.ke d cs=>cond (hit T.2 d) .undef (.ke d cs)
 |.agg cs=>.agg (gX T cs)
 |.tup cs=>.tup (gX T cs)
 |.fn f a b=>.fn f (gX T a) (gX T b)
 |.cr=>.cr
 |.oY=>.oY
 |.undef=>.undef
def gX (T:Kil):List SV->List SV
 |[]=>[]
 |v::l=>v.aP T::gX T l
end
def Blk.aP (T:Kil):Blk->Option Blk
 |.box cs=>some (.box (gX T cs))
 |.arr none t xs=>some (.arr none t xs)
 |.arr (some d) t xs=>cond (hit T.2 d) none (some (.arr (some d) t xs))
def wM (T:Kil):aK->Option aK
 |[]=>some []
 |(k,b)::l=>cond (mem k T.1) (wM T l) ((b.aP T).bind λb=>(wM T l).bind λl=>some ((k,b)::l))
def GV (T:Kil):List (Nat× SV)->List (Nat× SV)
 |[]=>[]
 |(k,v)::l=>(k,v.aP T)::GV T l
def ij (T:Kil) (h:aK):Option aK:=
 match T.2 with
 |[]=>some h
 |_=>wM T h
def nF (T:Kil) (s:List (Nat× SV)):List (Nat× SV):=
 match T.2 with
 |[]=>s
 |_=>GV T s
def SV.list (h:aK) (t:Ty):SV->Option (List Nat× List t.El)
 |.r d x=>(x.asL t).bind λxs=>some (d,xs)
 |.cr=>some ([],[])
 |.own i=>match look h i with
  |some (.arr sh t' xs)=>if e:t'=t then some (i::sh.getD [],e▸xs)else none
  |_=>none
 |.sub i o n=>match look h i with
  |some (.arr sh t' xs)=>if e:t'=t then some (i::sh.getD [],((e▸xs).drop o).take n)else none
  |_=>none
 |_=>none
def SV.asInt (k:IntKind):SV->Option Int
 |.r _ (.int k' n)=>cond (decide (k'=k)) (some n) none
 |_=>none
def SV.asI:SV->Option Int
 |.r _ (.int _ n)=>some n
 |_=>none
def SV.asB:SV->Option Bool
 |.r _ (.bool b)=>some b
 |_=>none
def SV.asR (h:aK) (t:Ty) (v:SV):Option (List Nat× R):=
 match t with
 |.sl t'=>(v.list h t').bind λp=>some (p.1,.sl t' p.2)
 |.st _=>none
 |.tok=>match v with
  |.r d (.tok n)=>some (d,.tok n)
  |.cr=>some ([],.tok 0)
  |_=>none
 |_=>match v with
  |.r d x=>some (d,x)
  |_=>none
def S.tys:S->List Ty
 |.shape=>[.int .i64,.int .i64,.int .i64]
 |.de=>[.int .i64,.int .i64,.int .i64,.sl (.int .i64)]
 |.aR=>[.int .i64,.int .i64,.int .i64,.int .i64,.int .i64,.int .i64,.int .i64,.sl (.int .i64),.sl (.int .i64)]
 |.model=>[.int .i64,.int .i64,.int .i64,.sl (.st .aR)]
 |.task=>[.int .i64,.sl (.int .i64),.int .i64,.int .i64,.int .i64]
 |.request=>[.int .i64,.int .i64,.int .i64,.int .i64,.int .i64,.sl (.st .aR),.int .i64,.int .i64,.int .i64,.int .i64,.sl (.int .i64),.int .i64,.int .i64]
 |.step=>[.int .i64,.int .i64,.int .i64,.sl (.int .u8),.int .i64,.int .i64,.int .i64,.sl (.int .i64)]
 |.event=>[.int .i64,.int .i64,.int .i64,.int .i64,.int .i64,.int .i64,.sl (.int .i64)]
 |.entry=>[.int .i64,.int .i64,.int .i64,.int .i64,.sl (.st .aR),.int .i64,.int .i64,.int .i64,.sl (.int .i64),.int .i64,.int .i64,.int .i64,.bool]
 |.L4=>[.int .i64,.int .i64,.int .i64]
 |.cL=>[.int .i64,.tok,.int .i64,.int .i64,.int .i64]
 |.ig=>[.int .i64,.int .i64,.int .i64,.int .i64,.int .i64,.tok,.int .i64,.int .i64,.int .i64,.int .i64,.tok,.int .i64,.int .i64]
def Ty.tys:Ty->List Ty
 |.st s=>s.tys
 |.ho s=>s.tys
 |.hl t=>[.sl t]
 |t=>[t]
def JA (h:aK):List Ty->List SV->Option (List Nat× List R)
 |[],[]=>some ([],[])
 |t::ts,v::vs=>(v.asR h t).bind λp=>(JA h ts vs).bind λq=>some (p.1++q.1,p.2::q.2)
 |_,_=>none
def Qa (h:aK) (t:Ty) (vs:List SV):Option (List Nat× t.El):=
 (JA h t.tys vs).bind λp=>(t.et p.2).bind λx=>some (p.1,x)
def SV.cells:SV->Option (List SV)
 |.agg cs=>some cs
 |.tup _=>none
 |.undef=>none
 |v=>some [v]
mutual
def SV.ids:SV->List Nat
 |.own i=>[i]
 |.sub i _ _=>[i]
 |.bsl i _=>[i]
 |.ptr i _ _=>[i]
 |.agg cs=>Ia cs
 |.tup cs=>Ia cs
 |.fn _ a b=>Ia a++Ia b
 |_=>[]
def Ia:List SV->List Nat
 |[]=>[]
 |v::l=>v.ids++Ia l
end
def oL:List Nat->List Nat->List Nat
 |acc,[]=>acc
 |acc,i::l=>cond (mem i acc) (oL acc l) (oL (acc++[i]) l)
def ND (h:aK):List Nat->List Nat
 |[]=>[]
 |i::l=>(match look h i with
  |some (.box cs)=>Ia cs
  |_=>[])++ND h l
def reach (h:aK):Nat->List Nat->List Nat
 |0,L=>L
 |n+1,L=>reach h n (oL L (ND h L))
def tW:Value->Option SV
 |.bool b=>some (.b b)
 |.int k n=>some (.r [] (.int k n))
 |.string s=>some (.r [] (.str s.data.toList))
 |.slice none 0 0=>some .cr
 |.pointer none=>some .oY
 |_=>none
def zP:List Value->Option (List SV)
 |[]=>some []
 |v::l=>(tW v).bind λx=>(zP l).bind λxs=>some (x::xs)
def GW:Value->Option SV
 |.agg cs=>(zP cs.toList).bind λl=>some (.agg l)
 |v=>tW v
def opd (bI:List (Nat× SV)):Operand->Option SV
 |.tmp t=>look bI t
 |.const v=>GW v
 |.func f=>some (.fn (.func f) [] [])
 |.global _=>none
def rA (bI:List (Nat× SV)):List Operand->Option (List SV)
 |[]=>some []
 |x::l=>(opd bI x).bind λv=>(rA bI l).bind λvs=>some (v::vs)
end
section
abbrev TT:=TypeId->Option Ty
def aT:Nat:=2^38
def wN (P:Program) (T:TypeId):Bool:=
 match P.underlying T with
 |some (.struct _)=>true
 |some (.array _ _)=>true
 |_=>false
def lK (P:Program) (T:TypeId):Option TypeId:=
 match P.underlying T with
 |some (.slice e)=>some e
 |_=>none
def tX (P:Program) (T:TypeId) (f:Nat):Option Field:=
 match P.underlying T with
 |some (.struct fs)=>(fs[f]?).bind λf=>(P.info? f.type).bind λi=>cond (Nat.beq i.size 0) none (some f)
 |_=>none
def iM (P:Program) (T:TypeId):Option Nat:=(P.info? T).bind λi=>some i.size
def su (P:Program):List Field->Option (List (Nat× Nat))
 |[]=>some []
 |f::fs=>(iM P f.type).bind λs=>(su P fs).bind λl=>some ((f.offset,s)::l)
def takeN {α:Type} (n:Nat) (l:List α):Option (List α):=cond (Nat.ble n l.length) (some (l.take n)) none
def ik (P:Program) (T:TypeId) (cs:List SV):Option SV:=
  (P.underlying T).bind λ_=>(P.info? T).bind λi=>(takeN i.size cs).bind λl=>
    cond (wN P T) (some (.agg l)) (match l with|[v]=>some v|_=>none)
def mkR (d:List Nat):R->SV
 |.sl t xs=>.r d (.sl t xs)
 |x=>.r [] x
def JN (i:Nat):Option (List Nat)->List Nat
 |none=>[i]
 |some d=>d
def k8 (h:aK):SV->Option (List SV)
 |.ke d cs=>some (cs.map (mkR d))
 |.ptr i x o=>match look h i with
  |some (.box cs)=>some (cs.drop o)
  |some (.arr sh t xs)=>(xs[x]?).bind λe=>some (((t.cells e).map (mkR (JN i sh))).drop o)
  |_=>none
 |_=>none
def gj (P:Program) (T:TypeId):Option (List SV):=
 (P.info? T).bind λi=>i.zero.bind λz=>(GW z).bind λv=>v.cells
def oZ (place:Nat->Option (Nat× Nat)):List SV->List (Nat× SV)->Option (List SV)
 |cs,[]=>some cs
 |cs,(k,v)::l=>(place k).bind λp=>v.cells.bind λvs=>
   cond (Nat.beq vs.length p.2) (cond (Nat.ble (p.1+vs.length) cs.length) (oZ place (cs.take p.1++vs++cs.drop (p.1+vs.length)) l) none) none
def Pa (op:BinOp) (k:IntKind) (a b:Int):Option R:=
 match op with
 |.add=>some (.int k (k.wrap (a+b)))
 |.sub=>some (.int k (k.wrap (a-b)))
 |.mul=>some (.int k (k.wrap (a*b)))
 |.quo=>cond (decide (b=0)) none (some (.int k (k.wrap (a.tdiv b))))
 |.rem=>cond (decide (b=0)) none (some (.int k (a.tmod b)))
 |.and=>some (.int k (k.wrap (BitVec.ofInt k.bits a&&& BitVec.ofInt k.bits b).toNat))
 |.or=>some (.int k (k.wrap (BitVec.ofInt k.bits a||| BitVec.ofInt k.bits b).toNat))
 |.xor=>some (.int k (k.wrap (BitVec.ofInt k.bits a^^^ BitVec.ofInt k.bits b).toNat))
 |.eql=>some (.bool (a==b))
 |.neq=>some (.bool (a !=b))
 |.lss=>some (.bool (decide (a<b)))
 |.leq=>some (.bool (decide (a<=b)))
 |.gtr=>some (.bool (decide (a>b)))
 |.geq=>some (.bool (decide (a>=b)))
 |_=>none
def C4 (op:BinOp) (k:IntKind) (a b:Int):Option R:=
  cond (decide (b<0)) none
    (match op with
     |.shl=>some (.int k (k.wrap (a*2^(min b.toNat k.bits))))
     |.shr=>some (.int k (a.fdiv (2^(min b.toNat k.bits))))
     |_=>none)
def Pn (op:BinOp) (a b:List UInt8):Option R:=
 match op with
 |.add=>cond (decide (a.length+b.length<=aT)) (some (.str (a++b))) none
 |.eql=>some (.bool (a==b))
 |.neq=>some (.bool (!(a==b)))
 |.lss=>some (.bool (Op.bytesLess a b))
 |.leq=>some (.bool (Op.bytesLess a b||a==b))
 |.gtr=>some (.bool (!(Op.bytesLess a b||a==b)))
 |.geq=>some (.bool (!(Op.bytesLess a b)))
 |_=>none
def Md (P:Program) (xs ys:List SV):List Field->Option Bool
 |[]=>some true
 |f::fs=>cond (decide (f.name= "_")) none (match P.underlying f.type,xs[f.offset]?,ys[f.offset]? with
  |some (.int _),some (.r _ (.int k a)),some (.r _ (.int l b))=>cond (decide (k=l)) ((Md P xs ys fs).bind λt=>some (cond (a==b) t false)) none
  |_,_,_=>none)
def Po (P:Program) (T:TypeId) (xs ys:List SV):Option Bool:=
 cond (P.stoodInHeld T) none (cond (P.eqGuardType P.depth T) none (match P.underlying T with
  |some (.struct fs)=>Md P xs ys fs.toList
  |_=>none))
def JO:BinOp->Bool
 |.shl|.shr=>true
 |_=>false
def isEq:BinOp->Option Bool
 |.eql=>some true
 |.neq=>some false
 |_=>none
def bin (P:Program) (T:TypeId) (op:BinOp) (x y:SV):Option SV:=
 match x,y with
 |.r _ (.int k a),.r _ (.int l b)=>cond (JO op) ((C4 op k a b).bind λr=>some (.r [] r)) (cond (decide (k=l)) ((Pa op k a b).bind λr=>some (.r [] r)) none)
 |.r _ (.str a),.r _ (.str b)=>(Pn op a b).bind λr=>some (.r [] r)
 |.r _ (.bool a),.r _ (.bool b)=>match P.underlying T with
  |some .bool=>(isEq op).bind λe=>some (.b (cond e (a==b) (!(a==b))))
  |_=>none
 |.agg a,.agg b=>(isEq op).bind λe=>(Po P T a b).bind λt=>some (.b (cond e t (!t)))
 |_,_=>none
def un (op:UnOp) (x:SV):Option SV:=
 match op,x with
 |.neg,.r _ (.int k n)=>some (.r [] (.int k (k.wrap (0-n))))
 |.not,.r _ (.bool b)=>some (.b (!b))
 |_,_=>none
def lenOf (h:aK):SV->Option Nat
 |.r _ (.str l)=>some l.length
 |.r _ (.sl _ xs)=>some xs.length
 |.cr=>some 0
 |.own i=>match look h i with
  |some (.arr _ _ xs)=>some xs.length
  |_=>none
 |.sub _ _ n=>some n
 |.bsl _ n=>some n
 |_=>none
def Qb (P:Program) (T:TypeId):SV->Bool
 |.r _ (.str _)=>match P.underlying T with
  |some .string=>true
  |_=>false
 |_=>match P.underlying T with
  |some (.slice _)=>true
  |_=>false
def bounds (n:Nat) (lo hi:Option SV):Option (Nat× Nat):=
  (match hi with
   |none=>some n
   |some v=>v.asI.bind λx=>cond (decide (0<=x/\x<=(n:Int))) (some x.toNat) none).bind λh=>
  (match lo with
   |none=>some 0
   |some v=>v.asI.bind λx=>cond (decide (0<=x/\x<=(h:Int))) (some x.toNat) none).bind λl=>some (l,h)
def slT (P:Program) (T:TypeId) (t:Ty):Bool:=
 match P.underlying T with
 |some (.slice e)=>match iM P e with
  |some n=>Nat.beq n t.sz
  |none=>false
 |_=>false
def GX (P:Program) (T:TypeId):Bool:=
 match P.underlying T with
 |some (.slice e)=>(iM P e).isSome
 |_=>false
def isStr (P:Program) (T:TypeId):Bool:=
 match P.underlying T with
 |some .string=>true
 |_=>false
def Qm (n m:Nat):Option SV->Nat
 |none=>n
 |some _=>m
def iS (P:Program) (T:TypeId) (h:aK) (x:SV) (lo hi:Option SV):Option SV:=
 match x with
 |.r d (.str l)=>cond (isStr P T) ((bounds l.length lo hi).bind λb=>some (.r d (.str ((l.take b.2).drop b.1)))) none
 |.r d (.sl t xs)=>cond (slT P T t) ((bounds xs.length lo hi).bind λb=>some (.r d (.sl t ((xs.take b.2).drop b.1)))) none
 |.cr=>cond (GX P T) ((bounds 0 lo hi).bind λ_=>some .cr) none
 |.own i=>match look h i with
  |some (.arr _ t xs)=>cond (slT P T t) ((bounds xs.length lo hi).bind λb=>some (.sub i b.1 (b.2-b.1))) none
  |_=>none
 |.sub i o n=>match look h i with
  |some (.arr _ t xs)=>cond (slT P T t) ((bounds (Qm n (xs.length-o) hi) lo hi).bind λb=>some (.sub i (o+b.1) (b.2-b.1))) none
  |_=>none
 |_=>none
def slN (P:Program) (T:TypeId) (h:aK) (x:SV):Option Nat:=
 match x with
 |.r _ (.sl t xs)=>cond (slT P T t) (some xs.length) none
 |.own i=>match look h i with
  |some (.arr _ t xs)=>cond (slT P T t) (some xs.length) none
  |_=>none
 |_=>none
def vZ (P:Program) (T:TypeId) (h:aK) (x:SV) (lo:Option SV) (hi m:SV):Option SV:=
 (slN P T h x).bind λn=>m.asI.bind λz=>cond (decide (0<=z/\z<=(n:Int))) ((bounds z.toNat lo (some hi)).bind λ_=>some .undef) none
def bT (P:Program) (T:TypeId) (h:aK) (x:SV) (k:Int):Option SV:=
 match x with
 |.r d (.sl t xs)=>cond (slT P T t) ((idx xs k).bind λe=>some (.ke d (t.cells e))) none
 |.own i=>match look h i with
  |some (.arr _ t xs)=>cond (slT P T t) (cond (decide (0<=k/\k<(xs.length:Int))) (some (.ptr i k.toNat 0)) none) none
  |_=>none
 |.sub i o n=>match look h i with
  |some (.arr _ t _)=>cond (slT P T t) (cond (decide (0<=k/\k<(n:Int))) (some (.ptr i (o+k.toNat) 0)) none) none
  |_=>none
 |.bsl i n=>(lK P T).bind λe=>(iM P e).bind λsz=>cond (decide (0<=k/\k<(n:Int))) (some (.ptr i 0 (k.toNat*sz))) none
 |_=>none
def JP (P:Program) (src dst:TypeId) (x:SV):Option SV:=
 match P.underlying src,P.underlying dst,x with
 |some (.int _),some (.int k),.r _ (.int _ n)=>some (.r [] (.int k (k.wrap n)))
 |some .string,some .string,.r _ (.str l)=>some (.r [] (.str l))
 |_,_,_=>none
def vk (P:Program) (T:TypeId):Bool:=
 match lK P T with
 |some e=>match P.underlying e with
  |some (.int .u8)=>true
  |_=>false
 |none=>false
def bytesOf (l:List Int):List UInt8:=l.map λn=>UInt8.ofNat n.toNat
def L5 (bI:List (Nat× SV)):Option Operand->Option (Option SV)
 |none=>some none
 |some x=>(opd bI x).bind λv=>some (some v)
def rk (bI:List (Nat× SV)):List (Nat× Operand)->Option (List (Nat× SV))
 |[]=>some []
 |(k,x)::l=>(opd bI x).bind λv=>(rk bI l).bind λvs=>some ((k,v)::vs)
def gp (P:Program) (s:List (Nat× SV)) (h:aK) (op:Op):Option SV:=
 match op with
 |.move x|.assign x=>opd s x
 |.pick c a b=>(opd s c).bind λc=>c.asB.bind λc=>cond c (opd s a) (opd s b)
 |.build T parts=>
  match P.underlying T with
  |some (.struct fs)=>(su P fs.toList).bind λpl=>(gj P T).bind λz=>(rk s parts.toList).bind λps=>
   (oZ (λk=>pl[k]?) z ps).bind λcs=>some (.agg cs)
  |_=>none
 |.load T a=>(opd s a).bind λa=>(k8 h a).bind λcs=>ik P T cs
 |.nilCheck x=>(opd s x).bind λv=>match v with
  |.ptr i x o=>some (.ptr i x o)
  |.ke d cs=>some (.ke d cs)
  |_=>none
 |.binOp op T x y _=>(opd s x).bind λx=>(opd s y).bind λy=>bin P T op x y
 |.unOp op _ x=>(opd s x).bind λx=>un op x
 |.convert src dst x=>(opd s x).bind λx=>cond (vk P src&&isStr P dst) ((x.list h (.int .u8)).bind λp=>some (.r [] (.str (bytesOf p.2)))) (JP P src dst x)
 |.makeFunc fn first cap=>(rA s first.toList).bind λa=>(rA s cap.toList).bind λb=>some (.fn fn a b)
 |.slice T x lo hi none=>(opd s x).bind λx=>(L5 s lo).bind λlo=>(L5 s hi).bind λhi=>iS P T h x lo hi
 |.slice T x lo (some hi) (some m)=>(opd s x).bind λx=>(L5 s lo).bind λlo=>(opd s hi).bind λhi=>(opd s m).bind λm=>vZ P T h x lo hi m
 |.fieldAddr T x f=>(opd s x).bind λx=>(tX P T f).bind λf=>match x with
  |.ke d cs=>some (.ke d (cs.drop f.offset))
  |.ptr i k o=>some (.ptr i k (o+f.offset))
  |_=>none
 |.field T x f=>(opd s x).bind λx=>(tX P T f).bind λf=>match x with
  |.agg cs=>ik P f.type (cs.drop f.offset)
  |_=>none
 |.indexAddr T x k=>(opd s x).bind λx=>(opd s k).bind λk=>k.asI.bind λk=>bT P T h x k
 |.index T x k=>(opd s x).bind λx=>(opd s k).bind λk=>k.asI.bind λk=>match x with
  |.r _ (.str l)=>cond (isStr P T) ((idx l k).bind λc=>some (.r [] (.int .u8 c.toNat))) none
  |_=>none
 |.extract x k=>(opd s x).bind λx=>match x with
  |.tup vs=>vs[k]?
  |_=>none
 |.call {callee:=.builtin .len,args,argTypes}=>(rA s args.toList).bind λvs=>match vs,argTypes.toList with
  |[v],T::_=>cond (Qb P T v) ((lenOf h v).bind λn=>some (.i n)) none
  |_,_=>none
 |.call {callee:=.builtin .cap,args,argTypes}=>(rA s args.toList).bind λvs=>match vs,argTypes.toList with
  |[.cr],T::_=>cond (GX P T) (some (.i 0)) none
  |_,_=>none
 |.call {callee:=.builtin .min,args,.. }=>(rA s args.toList).bind λvs=>match vs with
  |[.r _ (.int k a),.r _ (.int _ b)]=>some (.r [] (.int k (if b<a then b else a)))
  |[.r _ (.int k a),.r _ (.int _ b),.r _ (.int _ c)]=>some (.r [] (.int k (if c<(if b<a then b else a)then c else(if b<a then b else a))))
  |_=>none
 |.call {callee:=.builtin .max,args,.. }=>(rA s args.toList).bind λvs=>match vs with
  |[.r _ (.int k a),.r _ (.int _ b)]=>some (.r [] (.int k (if b>a then b else a)))
  |_=>none
 |_=>none
def Bm {α:Type} (h:aK) (v:SV) (K:List SV->Option α):Option α:=
 match v with
 |.ke d cs=>K (cs.map (mkR d))
 |.ptr i x o=>match look h i with
  |some (.box cs)=>K (cs.drop o)
  |some (.arr sh t xs)=>(xs[x]?).bind λe=>K (((t.cells e).map (mkR (JN i sh))).drop o)
  |_=>none
 |_=>none
def NY {α:Type} (op:BinOp) (k:IntKind) (a b:Int) (K:R->Option α):Option α:=
 match op with
 |.quo=>cond (decide (b=0)) none (K (.int k (k.wrap (a.tdiv b))))
 |.rem=>cond (decide (b=0)) none (K (.int k (a.tmod b)))
 |op=>(Pa op k a b).bind K
def Fb {α:Type} (op:BinOp) (k:IntKind) (a b:Int) (K:R->Option α):Option α:=
  cond (decide (b<0)) none
    (match op with
     |.shl=>K (.int k (k.wrap (a*2^(min b.toNat k.bits))))
     |.shr=>K (.int k (a.fdiv (2^(min b.toNat k.bits))))
     |_=>none)
def NZ {α:Type} (op:BinOp) (a b:List UInt8) (K:R->Option α):Option α:=
 match op with
 |.add=>cond (decide (a.length+b.length<=aT)) (K (.str (a++b))) none
 |op=>(Pn op a b).bind K
def Qn {α:Type} (P:Program) (T:TypeId) (op:BinOp) (x y:SV) (K:SV->Option α):Option α:=
 match x,y with
 |.r _ (.int k a),.r _ (.int l b)=>cond (JO op) (Fb op k a b λr=>K (.r [] r)) (cond (decide (k=l)) (NY op k a b λr=>K (.r [] r)) none)
 |.r _ (.str a),.r _ (.str b)=>NZ op a b λr=>K (.r [] r)
 |x,y=>(bin P T op x y).bind K
def o4 {α:Type} (n:Nat) (lo hi:Option SV) (K:Nat->Nat->Option α):Option α:=
 let lower (h:Nat):Option α:=match lo with
  |none=>K 0 h
  |some v=>v.asI.bind λx=>cond (decide (0<=x/\x<=(h:Int))) (K x.toNat h) none
 match hi with
 |none=>lower n
 |some v=>v.asI.bind λx=>cond (decide (0<=x/\x<=(n:Int))) (lower x.toNat) none
def JQ {α:Type} (P:Program) (T:TypeId) (h:aK) (x:SV) (lo hi:Option SV) (K:SV->Option α):Option α:=
 match x with
 |.r d (.str l)=>cond (isStr P T) (o4 l.length lo hi λa b=>K (.r d (.str ((l.take b).drop a)))) none
 |.r d (.sl t xs)=>cond (slT P T t) (o4 xs.length lo hi λa b=>K (.r d (.sl t ((xs.take b).drop a)))) none
 |.cr=>cond (GX P T) (o4 0 lo hi λ_ _=>K .cr) none
 |.own i=>match look h i with
  |some (.arr _ t xs)=>cond (slT P T t) (o4 xs.length lo hi λa b=>K (.sub i a (b-a))) none
  |_=>none
 |.sub i o n=>match look h i with
  |some (.arr _ t xs)=>cond (slT P T t) (o4 (Qm n (xs.length-o) hi) lo hi λa b=>K (.sub i (o+a) (b-a))) none
  |_=>none
 |_=>none
def tY {α:Type} (P:Program) (T:TypeId) (h:aK) (x:SV) (k:Int) (K:SV->Option α):Option α:=
 match x with
 |.r d (.sl t xs)=>cond (slT P T t) ((idx xs k).bind λe=>K (.ke d (t.cells e))) none
 |.own i=>match look h i with
  |some (.arr _ t xs)=>cond (slT P T t) (cond (decide (0<=k/\k<(xs.length:Int))) (K (.ptr i k.toNat 0)) none) none
  |_=>none
 |.sub i o n=>match look h i with
  |some (.arr _ t _)=>cond (slT P T t) (cond (decide (0<=k/\k<(n:Int))) (K (.ptr i (o+k.toNat) 0)) none) none
  |_=>none
 |x=>(bT P T h x k).bind K
def C5 {α:Type} (P:Program) (T:TypeId) (h:aK) (x:SV) (lo:Option SV) (hi m:SV) (K:SV->Option α):Option α:=
 (slN P T h x).bind λn=>m.asI.bind λz=>cond (decide (0<=z/\z<=(n:Int))) (o4 z.toNat lo (some hi) λ_ _=>K .undef) none
def nG {α:Type} (P:Program) (s:List (Nat× SV)) (h:aK) (op:Op) (K:SV->Option α):Option α:=
 match op with
 |.load T a=>(opd s a).bind λa=>Bm h a λcs=>(ik P T cs).bind K
 |.binOp op T x y _=>(opd s x).bind λx=>(opd s y).bind λy=>Qn P T op x y K
 |.slice T x lo hi none=>(opd s x).bind λx=>(L5 s lo).bind λlo=>(L5 s hi).bind λhi=>JQ P T h x lo hi K
 |.slice T x lo (some hi) (some m)=>(opd s x).bind λx=>(L5 s lo).bind λlo=>(opd s hi).bind λhi=>(opd s m).bind λm=>C5 P T h x lo hi m K
 |.indexAddr T x k=>(opd s x).bind λx=>(opd s k).bind λk=>k.asI.bind λk=>tY P T h x k K
 |.index T x k=>(opd s x).bind λx=>(opd s k).bind λk=>k.asI.bind λk=>match x with
  |.r _ (.str l)=>cond (isStr P T) ((idx l k).bind λc=>K (.r [] (.int .u8 c.toNat))) none
  |_=>none
 |op=>(gp P s h op).bind K
theorem dr {α β:Type} (b:Bool) (x y:Option α) (K:α->Option β):(cond b x y).bind K=cond b (x.bind K) (y.bind K):=by cases b<;>rfl
theorem Fc {α:Type} (h:aK) (v:SV) (K:List SV->Option α):Bm h v K=(k8 h v).bind K:=by
 unfold Bm k8;split
 ·rfl
 ·split
  ·rfl
  ·rw[Rk];rfl
  ·rfl
 ·rfl
theorem Me {α:Type} (op:BinOp) (k:IntKind) (a b:Int) (K:R->Option α):NY op k a b K=(Pa op k a b).bind K:=by
 unfold NY;split
 ·show _=(cond _ none (some _)).bind K;rw[dr];rfl
 ·show _=(cond _ none (some _)).bind K;rw[dr];rfl
 ·rfl
theorem Ib {α:Type} (op:BinOp) (k:IntKind) (a b:Int) (K:R->Option α):Fb op k a b K=(C4 op k a b).bind K:=by
 unfold Fb C4;rw[dr];cases op<;>rfl
theorem Mf {α:Type} (op:BinOp) (a b:List UInt8) (K:R->Option α):NZ op a b K=(Pn op a b).bind K:=by
 unfold NZ;split
 ·show _=(cond _ (some _) none).bind K;rw[dr];rfl
 ·rfl
theorem N0 {α:Type} (P:Program) (T:TypeId) (op:BinOp) (x y:SV) (K:SV->Option α):Qn P T op x y K=(bin P T op x y).bind K:=by
 unfold Qn;split
 ·simp only[bin,dr,Ib,Me,Rk,Q6,RH]
 ·simp only[bin,Mf,Rk,Q6]
 ·rfl
theorem kR {α:Type} (n:Nat) (lo hi:Option SV) (K:Nat->Nat->Option α):o4 n lo hi K=(bounds n lo hi).bind λb=>K b.1 b.2:=by
 unfold o4 bounds;cases hi<;>cases lo<;>simp only[Rk,Q6,dr,RH]
theorem JR {α:Type} (P:Program) (T:TypeId) (h:aK) (x:SV) (lo hi:Option SV) (K:SV->Option α):JQ P T h x lo hi K=(iS P T h x lo hi).bind K:=by
 unfold JQ iS;split
 ·simp only[dr,kR,Rk,Q6,RH]
 ·simp only[dr,kR,Rk,Q6,RH]
 ·simp only[dr,kR,Rk,Q6,RH]
 ·split
  ·simp only[dr,kR,Rk,Q6,RH]
  ·rfl
 ·split
  ·simp only[dr,kR,Rk,Q6,RH]
  ·rfl
 ·rfl
theorem Bn {α:Type} (P:Program) (T:TypeId) (h:aK) (x:SV) (k:Int) (K:SV->Option α):tY P T h x k K=(bT P T h x k).bind K:=by
 unfold tY;split
 ·simp only[bT,dr,Rk,Q6,RH]
 ·simp only[bT];split
  ·simp only[dr,Q6,RH]
  ·rfl
 ·simp only[bT];split
  ·simp only[dr,Q6,RH]
  ·rfl
 ·rfl
theorem nH {α:Type} (P:Program) (s:List (Nat× SV)) (h:aK) (op:Op) (K:SV->Option α):nG P s h op K=(gp P s h op).bind K:=by
 unfold nG;split
 ·simp only[gp,Fc,Rk]
 ·simp only[gp,N0,Rk]
 ·simp only[gp,JR,Rk]
 ·simp only[gp,C5,vZ,kR,Rk,dr,Q6,RH]
 ·simp only[gp,Bn,Rk]
 ·simp only[gp,Rk]
  congr 1;funext x;congr 1;funext k;congr 1;funext k
  split
  ·simp only[dr,Rk,Q6,RH]
  ·rfl
 ·rfl
structure CR where
 v:SV
 news:List Blk:=[]
 upd:aK:=[]
 gone:List Nat:=[]
 k9:List Nat:=[]
def CR.kil (c:CR):Kil:=(c.gone,c.gone++c.k9)
abbrev Out:=SV× List Blk
abbrev Orc:=(ρ:Type)->Nat->List SV->aK->(CR->Option ρ)->Option ρ
def Pp:Orc:=λ_ _ _ _ _=>none
def aO:Nat->List Blk->aK
 |_,[]=>[]
 |n,b::l=>(n,b)::aO (n+1) l
inductive Co where
 |oN (sh:Bool) (t:Ty)
 |ro (t:Ty)
 |drop
 |dep (j:Nat)
 |Mg (t j:Nat)
inductive eu where
 |slot (t:Nat)
 |cell (t j:Nat)
 |box (i j:Nat)
 |JB (t j:Nat)
 |gh (k:Nat)
def coV (n:Nat) (h:aK):Co->SV->SV× List Blk
 |.oN sh t,.cr=>(.own n,[.arr (cond sh (some []) none) t []])
 |.ro t,v=>match v.list h t with
  |some p=>(.r p.1 (.sl t p.2),[])
  |none=>(v,[])
 |.drop,_=>(.undef,[])
 |.dep j,.r d x=>(.r (cond (mem j d) d (d++[j])) x,[])
 |_,v=>(v,[])
def Mh (st:St) (i j:Nat) (c:Co):St:=
 match look st.heap i with
 |some (.box cs)=>match cs[j]? with
  |some v=>{st with heap:=put (st.heap++aO st.nid (coV st.nid st.heap c v).2) i (.box (cs.set j (coV st.nid st.heap c v).1)),nid:=st.nid+(coV st.nid st.heap c v).2.length}
  |none=>st
 |_=>st
def C6 (st:St):eu× Co->St
  | (.slot t, c) => match look st.bI t with
    |some v=>{st with bI:=put st.bI t (coV st.nid st.heap c v).1,heap:=st.heap++aO st.nid (coV st.nid st.heap c v).2,nid:=st.nid+(coV st.nid st.heap c v).2.length}
    |none=>st
  | (.cell t j, c) => match look st.bI t with
    | some (.agg cs) => match cs[j]? with
      |some v=>{st with bI:=put st.bI t (.agg (cs.set j (coV st.nid st.heap c v).1)),heap:=st.heap++aO st.nid (coV st.nid st.heap c v).2,nid:=st.nid+(coV st.nid st.heap c v).2.length}
      |none=>st
    |_=>st
  |(.box i j,c)=>Mh st i j c
  | (.JB t j, c) => match look st.bI t with
    |some (.ptr i _ _)=>Mh st i j c
    |_=>st
  |(.gh k,_)=>{st with gh:=st.gh.set k none}
def Qo (st:St):Co->Co
 |.Mg t j=>match look st.bI t with
  |some (.ptr i _ _)=>match look st.heap i with
   |some (.box cs)=>match cs[j]? with
    |some (.own k)=>.dep k
    |_=>.dep 0
   |_=>.dep 0
  |_=>.dep 0
 |c=>c
def Pq (st:St) (x:eu× Co):St:=C6 st (x.1,Qo st x.2)
def JS:List (eu× Co)->St->St
 |[],st=>st
 |x::l,st=>JS l (Pq st x)
structure Env where
 P:Program
 tt:TT
 orc:FuncId->Orc
 wr:FuncId->Bool:=λ_=>false
 wt:Bool:=false
 inn:Bool:=false
 fz:Nat->List (Bool× Nat× List Nat):=λ_=>[]
 wk:Nat->List (eu× Co):=λ_=>[]
 lit:Bool:=false
 tak:Bool:=false
 tkt:List Nat:=[]
 swp:Bool:=false
def rl:aK->aK->aK
 |[],h=>h
 |(k,b)::l,h=>rl l (put h k b)
def Pt (s:List (Nat× SV)) (n:Nat) (dst:Option Tmp) (v:SV):Option (List (Nat× SV)):=
 match dst with
 |some t=>cond (Nat.ble (t+1) n) (some (put s t v)) none
 |none=>some s
def St.take (st:St) (dst:Option Tmp) (c:CR):Option St:=
  (ij c.kil (rl c.upd st.heap)).bind λh=>(Pt (nF c.kil st.bI) st.n dst c.v).bind λs=>
    some {st with bI:=s,heap:=h++aO st.nid c.news,nid:=st.nid+c.news.length}
def setCells (cs:List SV) (o:Nat) (vs:List SV):Option (List SV):=
 cond (Nat.ble (o+vs.length) cs.length) (some (cs.take o++vs++cs.drop (o+vs.length))) none
def o5:Ty->Bool
 |.sl _=>false
 |.ho _|.hl _=>false
 |.st .shape|.st .L4|.st .cL|.st .ig=>true
 |.st _=>false
 |_=>true
def isNil {α:Type}:List α->Bool
 |[]=>true
 |_=>false
def Ic (h:aK) (t:Ty):Nat->List SV->Option (List Nat× List t.El)
 |0,_=>some ([],[])
 |n+1,cs=>(Qa h t (cs.take t.sz)).bind λp=>(Ic h t n (cs.drop t.sz)).bind λq=>some (p.1++q.1,p.2::q.2)
def SV.JC (h:aK) (t:Ty) (v:SV):Option (List Nat× R):=
 match t with
 |.sl t'=>match v with
  |.cr=>some ([],.sl t' [])
  |.own i=>match look h i with
   |some (.arr none t1 xs)=>if e:t1=t' then some ([i],.sl t' (e▸xs))else none
   |_=>none
  |_=>none
 |.st _=>none
 |.tok=>match v with
  |.r _ (.tok n)=>some ([],.tok n)
  |.cr=>some ([],.tok 0)
  |_=>none
 |_=>match v with
  |.r _ (.int k n)=>some ([],.int k n)
  |.r _ (.bool b)=>some ([],.bool b)
  |.r _ (.str l)=>some ([],.str l)
  |_=>none
def Fe (h:aK):List Ty->List SV->Option (List Nat× List R)
 |[],[]=>some ([],[])
 |t::ts,v::vs=>(v.JC h t).bind λp=>(Fe h ts vs).bind λq=>some (p.1++q.1,p.2::q.2)
 |_,_=>none
def iO (h:aK) (t:Ty):Nat->List SV->Option (List Nat× List t.El)
 |0,_=>some ([],[])
 |n+1,cs=>(Fe h t.tys (cs.take t.sz)).bind λp=>(t.et p.2).bind λx=>(iO h t n (cs.drop t.sz)).bind λq=>some (p.1++q.1,x::q.2)
def gw:List Nat->Bool
 |[]=>true
 |i::l=>cond (mem i l) false (gw l)
def C7 (h:aK):List SV->Option Bool
 |[]=>some true
 |.own i::l=>(look h i).bind λb=>match b with
  |.arr none _ _=>C7 h l
  |.arr (some _) _ _=>some false
  |.box _=>none
 |.r _ (.sl _ _)::_=>some false
 |.sub _ _ _::_=>some false
 |.bsl _ _::_=>some false
 |_::l=>C7 h l
def GY (h:aK) (t:Ty) (n:Nat) (cs:List SV):Option (Option (List Nat)× List Nat× List t.El):=
 (C7 h cs).bind λb=>cond b ((iO h t n cs).bind λq=>cond (gw q.1) (some (none,q.1,q.2)) none) ((Ic h t n cs).bind λq=>some (some q.1,[],q.2))
def oO (h:aK):SV->List Nat->List Nat
 |.own i,d=>match look h i with
  |some (.arr (some d') _ _)=>d'
  |_=>d
 |_,d=>d
def rB (h:aK) (t:Ty) (v:SV):Option (Option (List Nat)× List Nat× List t.El):=
 match v with
 |.bsl i n=>match look h i with
  |some (.box cs)=>(GY h t n cs).bind λq=>some (q.1,i::q.2.1,q.2.2)
  |_=>none
 |_=>(v.list h t).bind λp=>cond (o5 t) (some (none,[],p.2)) (some (some (oO h v p.1),[],p.2))
def GZ (a b:Option (List Nat)):Option (Option (List Nat)):=
 match a,b with
 |none,none=>some none
 |some d,some d'=>some (some (d++d'))
 |some d,none=>some (some d)
 |none,some d=>some (some d)
def o6 (P:Program) (T:TypeId):Bool:=
 match P.info? T with
 |some i=>Nat.ble i.bytes 512
 |none=>false
def Pu (E:Env) (s:List (Nat× SV)) (h:aK) (T:TypeId) (a:Operand):Option SV:=
 cond E.inn (cond (GX E.P T) (match opd s a with
  |some (.ptr i x o)=>match look h i with
   |some (.arr none t _)=>cond (Nat.ble (o+1) t.sz) (some (.inn i x o)) none
   |_=>none
  |_=>none) none) none
def Pv {α:Type} (xs:List α) (x:Nat):List (Option α):=(xs.map some).set x none
def C8 {α:Type}:List (Option α)->Option (List α)
 |[]=>some []
 |none::_=>none
 |some x::l=>(C8 l).bind λl=>some (x::l)
def sw (n:Nat):List R->List SV
 |[]=>[]
 |.sl _ _::l=>.own n::sw (n+1) l
 |r::l=>.r [] r::sw n l
def lL:List R->List Blk
 |[]=>[]
 |.sl t ys::l=>.arr none t ys::lL l
 |_::l=>lL l
def Pw (P:Program) (s:List (Nat× SV)) (h:aK) (src dst:TypeId) (x:Operand):Option Nat:=
 cond (Nat.beq src dst&&vk P src) (match opd s x with
  |some (.own i)=>match look h i with
   |some (.arr _ _ (_::_))=>some i
   |_=>none
  |_=>none) none
def Ff (h:aK):SV->Option (Nat× Nat× Nat)
 |.sub i o n=>some (i,o,n)
 |.own i=>match look h i with
  |some (.arr _ _ xs)=>some (i,0,xs.length)
  |_=>none
 |_=>none
variable {ρ:Type}
def v3 (P:Program) (T:TypeId) (h:aK) (i:Nat) (sh:Option (List Nat)) (t:Ty) (ys:List t.El) (k o:Nat) (x:SV) (K:CR->Option ρ):Option ρ:=
 x.cells.bind λxs=>(iM P T).bind λsz=>cond (Nat.beq sz xs.length&&Nat.ble (o+sz) t.sz) (
  match sh with
  |none=>(Fe h ((t.tys.drop o).take sz) xs).bind λp=>cond (gw (i::p.1)) (
    cond (Nat.beq sz t.sz)
     ((t.et p.2).bind λy=>K {v:=.undef,upd:=[(i,.arr none t (ys.set k y))],gone:=p.1,k9:=[i]})
     ((ys[k]?).bind λe=>(t.et ((t.cells e).take o++p.2++(t.cells e).drop (o+sz))).bind λy=>K {v:=.undef,upd:=[(i,.arr none t (ys.set k y))],gone:=p.1,k9:=[i]})) none
  |some d=>(JA h ((t.tys.drop o).take sz) xs).bind λp=>cond (mem i p.1) none (
    cond (Nat.beq sz t.sz)
     ((t.et p.2).bind λy=>K {v:=.undef,upd:=[(i,.arr (some (d++p.1)) t (ys.set k y))],k9:=[i]})
     ((ys[k]?).bind λe=>(t.et ((t.cells e).take o++p.2++(t.cells e).drop (o+sz))).bind λy=>K {v:=.undef,upd:=[(i,.arr (some (d++p.1)) t (ys.set k y))],k9:=[i]}))) none
def Px (P:Program) (T:TypeId):Bool:=
 match P.underlying T with
 |some (.int _)=>true
 |_=>false
def QJ (E:Env) (h:aK) (nid n sz:Nat) (t:Ty) (cs:List SV) (K:CR->Option ρ):Option ρ:=
 cond (E.lit&&Nat.beq t.sz sz) (match iO h t n cs with
  |some ([],xs)=>K {v:=.own nid,news:=[.arr none t xs]}
  |_=>K {v:=.bsl nid n,news:=[.box cs]}) (K {v:=.bsl nid n,news:=[.box cs]})
def Fg (E:Env) (h:aK) (nid:Nat) (e:TypeId) (sz:Nat) (t:Ty) (T':TypeId) (b x:SV) (K:CR->Option ρ):Option ρ:=
 match b with
 |.cr=>cond (Px E.P T'&&(o6 E.P e&&Nat.beq t.sz sz)) (x.asI.bind λl=>(gj E.P e).bind λz=>(iO h t 1 z).bind λq=>cond (isNil q.1&&Nat.beq z.length sz) (match q.2 with
   |[y]=>cond (decide (1<=l/\l<=(aT:Int))) (K {v:=.own nid,news:=[.arr none t (List.replicate l.toNat y)]}) none
   |_=>none) none) none
 |_=>none
def Fh (h:aK) (t:Ty) (b x:SV) (K:CR->Option ρ):Option ρ:=
 match b,x with
 |.sub i 0 a,.sub i' o n=>cond (Nat.beq i i') (match look h i with
  |some (.arr (some d) t' xs)=>if he:t'=t then cond (mem i d) none (cond (Nat.ble (a+n) xs.length&&(Nat.ble (o+n) xs.length&&Nat.ble 1 xs.length))
    (K {v:=.sub i 0 (a+n),upd:=[(i,.arr (some d) t ((he▸xs).take a++((he▸xs).drop o).take n++(he▸xs).drop (a+n)))],k9:=[i]}) none)else none
  |_=>none) none
 |_,_=>none
def Py (E:Env) (s:List (Nat× SV)) (h:aK) (nid:Nat) (T:TypeId) (a:Operand) (K:CR->Option ρ) (D:Option ρ):Option ρ:=
 cond E.tak (match opd s a with
  |some (.ptr i x 0)=>match look h i with
   |some (.arr none (.st st) xs)=>cond (o5 (.st st)) D ((xs[x]?).bind λe=>(ik E.P T (sw nid (st.cells e))).bind λv=>
     K {v:=v,news:=lL (st.cells e),upd:=[(i,.arr none (.ho st) (Pv xs x))],k9:=[i]})
   |_=>D
  |_=>D) D
def taken (E:Env):Operand->Bool
 |.tmp t=>mem t E.tkt
 |_=>false
def Pz (E:Env) (s:List (Nat× SV)) (h:aK) (nid:Nat) (T:TypeId) (a:Operand) (K:CR->Option ρ) (D:Option ρ):Option ρ:=
  cond (taken E a) (match opd s a with
    | some (.ptr i x 0) => match look h i with
      |some (.arr none (.sl t) xs)=>(xs[x]?).bind λe=>(ik E.P T (sw nid ((Ty.sl t).cells e))).bind λv=>
          K {v:=v,news:=lL ((Ty.sl t).cells e),upd:=[(i,.arr none (.hl t) (Pv xs x))],k9:=[i]}
      |_=>none
    |_=>none) D
def Bo (E:Env) (s:List (Nat× SV)) (h:aK) (nid:Nat) (op:Op) (K:CR->Option ρ):Option ρ:=
  match op with
  |.alloc T=>(gj E.P T).bind λz=>K {v:=.ptr nid 0 0,news:=[.box z]}
  |.box _ x=>(opd s x).bind λv=>v.cells.bind λcs=>K {v:=.ptr nid 0 0,news:=[.box cs]}
  | .buildSlice T n parts =>
    (lK E.P T).bind λe=>(iM E.P e).bind λsz=>(rk s parts.toList).bind λps=>(gj E.P e).bind λz=>
      cond (Nat.ble (n*sz) 16777216&&Nat.beq z.length sz) ((oZ (λi=>some (i*sz,sz)) (List.replicate (n*sz) .undef) ps).bind λcs=>
        match E.tt e with
        |none=>K {v:=.bsl nid n,news:=[.box cs]}
        |some t=>cond ((o5 t||Nat.beq n 0)&&Nat.beq t.sz sz) ((iO h t n cs).bind λx=>cond (isNil x.1) (K {v:=.own nid,news:=[.arr none t x.2]}) none) (QJ E h nid n sz t cs K)) none
  | .makeSlice T l c =>
    (lK E.P T).bind λe=>(iM E.P e).bind λsz=>(E.tt e).bind λt=>(gj E.P e).bind λz=>(opd s l).bind λl=>(opd s c).bind λc=>l.asI.bind λl=>c.asI.bind λc=>
      cond (o6 E.P e&&Nat.beq t.sz sz) ((iO h t 1 z).bind λx=>cond (isNil x.1&&Nat.beq z.length sz) (match x.2 with
        |[y]=>cond (decide (0<=l/\l<=c/\c<=(aT:Int))) (K {v:=.own nid,news:=[.arr none t (List.replicate l.toNat y)]}) none
        |_=>none) none) none
  | .call { callee := .builtin .append, args, argTypes } => (rA s args.toList).bind λ vs => match vs, argTypes.toList with
    | [b, x], [T, T'] => (lK E.P T).bind λ e => (iM E.P e).bind λ sz => (E.tt e).bind λ t => cond (o6 E.P e && (Nat.beq t.sz sz && Nat.beq T T')) ((gj E.P e).bind λ z => cond (Nat.beq z.length sz)
      ((rB h t x).bind λy=>match b with
        |.cr=>cond (hit y.2.1 (y.1.getD [])) none (cond (Nat.ble y.2.2.length aT) (K {v:=.own nid,news:=[.arr y.1 t y.2.2],gone:=y.2.1}) none)
        | .own i => match look h i with
          | some (.arr sh t' xs) => if he : t' = t then
              (GZ sh y.1).bind λsh'=>cond (mem i y.2.1) none (cond (hit (i::y.2.1) (sh'.getD [])) none (cond (Nat.ble (xs.length+y.2.2.length) aT) (K {v:=.own nid,news:=[.arr sh' t ((he▸xs)++y.2.2)],gone:=i::y.2.1}) none))
            else none
          |_=>none
        |b=>Fh h t b x K) none) (Fg E h nid e sz t T' b x K)
    |_,_=>none
  | .call { callee := .builtin .clear, args, argTypes } => (rA s args.toList).bind λ vs => match vs, argTypes.toList with
    | [v], [T] => (lK E.P T).bind λ e => (gj E.P e).bind λ z => (Ff h v).bind λ p => match look h p.1 with
      | some (.arr sh t xs) => cond (Nat.beq z.length t.sz) ((iO h t 1 z).bind λ x => cond (isNil x.1) (match x.2 with
        |[y]=>K {v:=.undef,upd:=[(p.1,.arr sh t (xs.take p.2.1++List.replicate p.2.2 y++xs.drop (p.2.1+p.2.2)))],k9:=[p.1]}
        |_=>none) none) none
      |_=>none
    |_,_=>none
  | .store T a x => (opd s a).bind λ a => (opd s x).bind λ x => match a with
    | .ptr i k o => match look h i with
      |some (.box cs)=>cond (Nat.beq k 0) (x.cells.bind λxs=>(iM E.P T).bind λsz=>cond (Nat.beq sz xs.length) ((setCells cs o xs).bind λcs=>K {v:=.undef,upd:=[(i,.box cs)]}) none) none
      |some (.arr sh t ys)=>v3 E.P T h i sh t ys k o x K
      |_=>none
    |_=>none
  | .call { callee := .value f, args, .. } => (opd s f).bind λ f => (rA s args.toList).bind λ vs => match f with
    |.fn (.func g) first cap=>E.orc g ρ nid (first++vs++cap) h K
    |_=>none
  | .load T a => Pz E s h nid T a K (match Pu E s h T a with
    |some v=>K {v:=v}
    |none=>Py E s h nid T a K (nG E.P s h (.load T a) λv=>K {v:=v}))
  | .convert src dst x => match Pw E.P s h src dst x with
    |some i=>K {v:=.own i}
    |none=>nG E.P s h (.convert src dst x) λv=>K {v:=v}
  |op=>nG E.P s h op λv=>K {v:=v}
noncomputable def both (x y:Option ρ):Option ρ:=open Classical in if x=y then x else none
def G1:Op->Option (TypeId× Operand× Bool)
 |.binOp .eql T x (.const (.slice none 0 0)) _=>some (T,x,true)
 |.binOp .neq T x (.const (.slice none 0 0)) _=>some (T,x,false)
 |_=>none
noncomputable def Qp (h:aK) (v:SV) (K:Bool->Option ρ):Option ρ:=
 match v with
 |.cr=>K true
 |.r _ (.sl _ xs)=>cond (isNil xs) (both (K true) (K false)) (K false)
 |.own i=>match look h i with
  |some (.arr _ _ xs)=>cond (isNil xs) (both (K true) (K false)) (K false)
  |_=>none
 |_=>none
noncomputable def Pb (E:Env) (o:Oper) (st:St) (K:St->Option ρ):Option ρ:=
 match G1 o.op with
 |some (T,x,e)=>cond (GX E.P T) ((opd st.bI x).bind λv=>Qp st.heap v λb=>(st.take o.dst {v:=.b (cond b e (!e))}).bind K) none
 |none=>Bo E st.bI st.heap st.nid o.op λc=>(st.take o.dst c).bind K
def N1 (ops:List Oper) (j:Nat):Option Tmp:=(ops[j]?).bind (·.dst)
def C9 (o:Oper) (st:St) (K:St->Option ρ):Option ρ:=
 (Pt st.bI st.n o.dst (.tup [])).bind λs=>K {st with bI:=s}
noncomputable def Bp (E:Env) (all:List Oper):List Oper->St->(St->Option ρ)->Option ρ
  |[],st,K=>K st
  | o :: rest, st, K =>
    match o.guard with
    |none=>Pb E o st λst=>Bp E all rest st K
    | some (j, want) => (N1 all j).bind λ t => (look st.bI t).bind λ v => match v with
      |.tup []=>C9 o st λst=>Bp E all rest st K
      | v => v.asB.bind λ b =>
        cond b
          (cond want (Pb E o {st with bI:=put st.bI t (.b true)} λst=>Bp E all rest st K)
            (C9 o {st with bI:=put st.bI t (.b true)} λst=>Bp E all rest st K))
          (cond want (C9 o {st with bI:=put st.bI t (.b false)} λst=>Bp E all rest st K)
            (Pb E o {st with bI:=put st.bI t (.b false)} λst=>Bp E all rest st K))
def after (H:aK) (nid:Nat) (c:CR):Option aK:=
 (ij c.kil (rl c.upd H)).bind λh=>some (h++aO nid c.news)
structure DR where
 dst:Option Tmp
 n0:Nat
 c:CR
 see:List Nat
 Mi:List SV:=[]
 len:Bool:=false
abbrev SH:=List (Nat× SV)× aK
def G2 (s:List (Nat× SV)) (dst:Option Tmp) (v:SV):List (Nat× SV):=
 match dst with
 |some t=>put s t v
 |none=>s
def Ie:aK->Nat->Blk->aK
 |[],_,_=>[]
 |(k,u)::l,n,b=>cond (Nat.beq k n) ((k,b)::l) ((k,u)::Ie l n b)
def iT:aK->aK->aK
 |[],h=>h
 |(k,b)::l,h=>iT l (Ie h k b)
def DR.app (r:DR) (x:SH):Option SH:=
 (ij r.c.kil (iT r.c.upd x.2)).bind λh=>some (G2 (nF r.c.kil x.1) r.dst r.c.v,h++aO r.n0 r.c.news)
def replay (p:Nat->Bool):Nat->List DR->SH->Option SH
 |_,[],x=>some x
 |j,r::l,x=>cond (p j) ((r.app x).bind λx=>replay p (j+1) l x) (replay p (j+1) l x)
def tZ (n:Nat):List Edge->Bool
 |[]=>true
 |e::l=>cond (Region.binds .any e) (cond (Nat.ble (e.on+1) n) (tZ n l) false) (tZ n l)
def Da (masks:List Nat):List Edge->Nat
 |[]=>0
 |e::l=>cond (Region.binds .any e) ((masks.getD e.on 0||| 2^e.on)||| Da masks l) (Da masks l)
def wO:List Nat->List Oper->Option (List Nat)
 |acc,[]=>some acc
 |acc,o::l=>cond (tZ acc.length o.after.toList) (wO (acc++[Da acc o.after.toList]) l) none
def iP:List Oper->List Nat
 |[]=>[]
 |o::l=>match o.dst with
  |some t=>t::iP l
  |none=>iP l
def Mj (masks:List Nat) (i:Nat):Nat->List Oper->List Nat
 |_,[]=>[]
 |j,o::l=>cond ((masks.getD j 0).testBit i) (Mj masks i (j+1) l) (match o.dst with
  |some t=>t::Mj masks i (j+1) l
  |none=>Mj masks i (j+1) l)
def Ig (n:Nat):List Nat->Bool
 |[]=>true
 |i::l=>cond (Nat.ble (i+1) n) (Ig n l) false
def eJ:List Operand->List Nat
 |[]=>[]
 |.tmp t::l=>t::eJ l
 |_::l=>eJ l
def mS (T:List Nat) (s:List (Nat× SV)):List Nat->List (Nat× SV)
 |[]=>[]
 |t::l=>cond (mem t T) (mS T s l) (match look s t with
  |some v=>(t,v)::mS T s l
  |none=>mS T s l)
def lO (E:Env):Op->Bool
 |.store _ _ _=>true
 |.load _ _=>E.tak
 |.call {callee:=.builtin .len,.. }|.call {callee:=.builtin .cap,.. }|.call {callee:=.builtin .min,.. }|.call {callee:=.builtin .max,.. }=>false
 |.call {callee:=.builtin _,.. }=>true
 |.call {callee:=.value (.func g),.. }=>E.wr g
 |.call {callee:=.value _,.. }=>E.wt
 |.call _=>false
 |_=>false
def PA (masks:List Nat) (i j:Nat):Bool:=Nat.beq i j||((masks.getD i 0).testBit j||(masks.getD j 0).testBit i)
def vl (E:Env) (masks:List Nat) (i:Nat):Nat->List Oper->Bool
 |_,[]=>false
 |j,o::l=>cond (lO E o.op) (cond (PA masks i j) (vl E masks i (j+1) l) true) (vl E masks i (j+1) l)
def Bq (s:List (Nat× SV)):List Nat->List SV
 |[]=>[]
 |t::l=>match look s t with
  |some v=>v::Bq s l
  |none=>Bq s l
def vm (h:aK):List Nat->aK
 |[]=>[]
 |i::l=>match look h i with
  |some b=>(i,b)::vm h l
  |none=>vm h l
def N2:Op->Bool
 |.move _=>true
 |.assign _=>true
 |.extract _ _=>true
 |.nilCheck _=>true
 |.fieldAddr _ _ _=>true
 |_=>false
def PB:Op->Bool
 |.load _ _=>true
 |_=>false
def Qq (E:Env) (masks:List Nat) (i:Nat) (ops:List Oper) (x:SH) (o:Oper):List Nat:=
 cond (vl E masks i 0 ops&&!N2 o.op) (reach x.2 (cond (PB o.op) 0 3) (oL [] (Ia (Bq x.1 (eJ o.op.operands.toList))))) []
def Ih (E:Env) (masks:List Nat) (i:Nat) (ops:List Oper) (x:SH) (o:Oper):aK:=
 cond (vl E masks i 0 ops) (vm x.2 (Qq E masks i ops x o)) x.2
def Mk (L:List Nat):aK->Bool
 |[]=>false
 |(k,_)::l=>cond (mem k L) true (Mk L l)
def okW (E:Env) (op:Op) (c:CR):Bool:=cond (lO E op) true (isNil c.kil.2&&isNil c.upd)
mutual
def SV.JD (T:Kil):SV->Bool
 |.r d _=>!hit T.2 d
 |.own i=>!mem i T.1
 |.sub i _ _=>!mem i T.1
 |.bsl i _=>!mem i T.1
 |.ptr i _ _=>!mem i T.1
 |.inn i _ _=>!(mem i T.1||mem i T.2)
 |.ke d _=>!hit T.2 d
 |.agg cs=>wP T cs
 |.tup cs=>wP T cs
 |.fn _ a b=>wP T a&&wP T b
 |.cr=>true
 |.oY=>true
 |.undef=>true
def wP (T:Kil):List SV->Bool
 |[]=>true
 |v::l=>v.JD T&&wP T l
end
def Blk.JD (T:Kil):Blk->Bool
 |.box cs=>wP T cs
 |.arr (some d) _ _=>!hit T.2 d
 |.arr none _ _=>true
def JT (k:Nat) (B:Blk):List DR->Bool
 |[]=>true
 |r::l=>cond ((look r.c.upd k).isNone&&(!mem k r.c.kil.1&&B.JD r.c.kil)) (JT k B l) false
def Qc (h:aK) (rs:List DR):List Nat->Bool
 |[]=>true
 |k::l=>match look h k with
  |some B=>cond (JT k B rs) (Qc h rs l) false
  |none=>false
def fI (cm:DR->Bool) (r:DR):Bool:=isNil r.c.kil.2&&(isNil r.c.upd&&(isNil r.c.news&&cm r))
def Ii (b a:DR):Bool:=a.c.v.JD b.c.kil&&wP b.c.kil a.Mi
def PC (b:DR):aK->Bool
 |[]=>true
 |(k,_)::l=>cond (Nat.ble (k+1) b.n0||Nat.ble (b.n0+b.c.news.length) k) (PC b l) false
def Fi (a b:DR):Bool:=(isNil a.c.kil.2&&isNil b.c.kil.2)&&((isNil b.c.upd&&PC b a.c.upd)||(isNil a.c.upd&&PC a b.c.upd))&&(!(Mk b.see a.c.upd)&&!(Mk a.see b.c.upd))
def rb (cm:DR->Bool) (a b:DR):Bool:=Fi a b||((Ii b a&&fI cm a)||(Ii a b&&fI cm b))
def wQ (cm:DR->Bool) (masks:List Nat) (i:Nat) (r:DR):Nat->List DR->Bool
 |_,[]=>true
 |j,b::l=>cond ((masks.getD j 0).testBit i) (wQ cm masks i r (j+1) l) (cond (rb cm r b) (wQ cm masks i r (j+1) l) false)
def zQ (cm:DR->Bool) (masks:List Nat):Nat->List DR->Bool
 |_,[]=>true
 |i,r::l=>cond (wQ cm masks i r (i+1) l) (zQ cm masks (i+1) l) false
def N3:List DR->Nat->SV->List DR
 |[],_,_=>[]
 |r::l,0,v=>{r with c:={r.c with v:=v}}::l
 |r::l,n+1,v=>r::N3 l n v
def PD:Op->Bool
 |.indexAddr _ _ _=>true
 |_=>false
def PE (h:aK):List Nat->Bool
 |[]=>true
 |i::l=>cond (look h i).isSome (PE h l) false
def Db (x:SH) (o:Oper):List Nat:=oL [] (Ia (Bq x.1 (eJ o.op.operands.toList)))
def JU (E:Env) (h0:aK) (x:SH) (o:Oper):Bool:=E.swp&&(PD o.op&&PE h0 (Db x o))
def JV (E:Env) (masks:List Nat) (i:Nat) (ops:List Oper) (h0:aK) (x:SH) (o:Oper):aK:=cond (JU E h0 x o) (vm h0 (Db x o)) (Ih E masks i ops x o)
def Qd (E:Env) (masks:List Nat) (i:Nat) (ops:List Oper) (h0:aK) (x:SH) (o:Oper):List Nat:=cond (JU E h0 x o) (Db x o) (Qq E masks i ops x o)
def N4 (E:Env) (masks:List Nat) (i:Nat) (ops:List Oper) (h0:aK) (x:SH) (o:Oper) (nid:Nat) (c:CR):DR:=⟨o.dst,nid,c,Qd E masks i ops h0 x o,Bq x.1 (eJ o.op.operands.toList),JU E h0 x o⟩
def oQ (E:Env) (ops:List Oper) (masks dsts:List Nat) (s0:List (Nat× SV)) (h0:aK):Nat->List Oper->Nat->List DR->(List DR->Nat->Option ρ)->Option ρ
  |_,[],nid,rs,K=>K rs nid
  | i, o :: rest, nid, rs, K =>
    (replay (Nat.testBit (masks.getD i 0)) 0 rs (mS (Mj masks i 0 ops) s0 (eJ o.op.operands.toList),h0)).bind λx=>
    match o.guard with
    |none=>Bo E (mS [] x.1 (eJ o.op.operands.toList)) (JV E masks i ops h0 x o) nid o.op λc=>cond (okW E o.op c) (oQ E ops masks dsts s0 h0 (i+1) rest (nid+c.news.length) (rs++[N4 E masks i ops h0 x o nid c]) K) none
    | some (g, want) => cond (Nat.testBit (masks.getD i 0) g) ((rs[g]?).bind λ r => r.dst.bind λ _ => match r.c.v with
      |.tup []=>oQ E ops masks dsts s0 h0 (i+1) rest nid (rs++[⟨o.dst,nid,{v:=.tup []},[],[],false⟩]) K
      | .r [] (.bool b) => cond b
        (cond want
          (Bo E (mS [] x.1 (eJ o.op.operands.toList)) (JV E masks i ops h0 x o) nid o.op λc=>cond (okW E o.op c) (oQ E ops masks dsts s0 h0 (i+1) rest (nid+c.news.length) (N3 rs g (.b true)++[N4 E masks i ops h0 x o nid c]) K) none)
          (oQ E ops masks dsts s0 h0 (i+1) rest nid (N3 rs g (.b true)++[⟨o.dst,nid,{v:=.tup []},[],[],false⟩]) K))
        (cond want
          (oQ E ops masks dsts s0 h0 (i+1) rest nid (N3 rs g (.b false)++[⟨o.dst,nid,{v:=.tup []},[],[],false⟩]) K)
          (Bo E (mS [] x.1 (eJ o.op.operands.toList)) (JV E masks i ops h0 x o) nid o.op λc=>cond (okW E o.op c) (oQ E ops masks dsts s0 h0 (i+1) rest (nid+c.news.length) (N3 rs g (.b false)++[N4 E masks i ops h0 x o nid c]) K) none))
      |_=>none) none
def wR:List Nat->List Nat->Bool
 |[],_=>true
 |i::l,T=>cond (mem i T) false (wR l T)
def Br (L:List Nat):List DR->Bool
 |[]=>true
 |r::l=>cond (wR L r.c.kil.1) (Br L l) false
def zr (h:aK) (rs:List DR) (r:DR):Bool:=cond r.len (Br r.see rs) (Qc h rs r.see)
def zR (cm:DR->Bool):List DR->Bool
 |[]=>true
 |r::l=>cond (!r.len||fI cm r) (zR cm l) false
def Fj (E:Env) (ops:List Oper) (st:St) (K:St->Option ρ):Option ρ:=
  cond (E.P.follows .mixedOrders) ((wO [] ops).bind λmasks=>
    cond (gw (iP ops)) (cond (Ig st.n (iP ops))
      (oQ E ops masks (iP ops) st.bI st.heap 0 ops st.nid [] λrs nid=>cond (zQ (zr st.heap rs) masks 0 rs&&zR (zr st.heap rs) rs)
        ((replay (λ_=>true) 0 rs (st.bI,st.heap)).bind λx=>K {st with bI:=x.1,heap:=x.2,nid:=nid}) none) none) none) none
inductive Ex where
 |normal
 |exit (id:Nat)
 |ret
def refine(c:Operand) (b:Bool) (st:St):St:=
 match c with
 |.tmp t=>{st with bI:=put st.bI t (.b b)}
 |_=>st
abbrev Ev (ρ:Type):=St->(Ex->St->Option ρ)->Option ρ
def inBlock (id:Nat) (K:Ex->St->Option ρ):Ex->St->Option ρ
 |.exit j,st=>cond (Nat.beq j id) (K .normal st) (K (.exit j) st)
 |e,st=>K e st
def L6 (i:Nat):List Nat->List Nat
 |[]=>[]
 |k::l=>cond (Nat.beq k i) (L6 i l) (k::L6 i l)
def G3 (i:Nat) (t:Ty) (h:aK) (v:SV):SV:=
 match v.list h t with
 |some p=>.r (L6 i p.1) (.sl t p.2)
 |none=>.undef
mutual
def SV.frz (i:Nat) (t:Ty) (h:aK):SV->SV
 |.r d x=>.r (L6 i d) x
 |.own j=>cond (Nat.beq j i) (G3 i t h (.own j)) (.own j)
 |.sub j o n=>cond (Nat.beq j i) (G3 i t h (.sub j o n)) (.sub j o n)
 |.bsl j n=>cond (Nat.beq j i) .undef (.bsl j n)
 |.ptr j x o=>cond (Nat.beq j i) .undef (.ptr j x o)
 |.inn j x c=>cond (Nat.beq j i) .undef (.inn j x c)
 |.ke d cs=>.ke (L6 i d) cs
 |.agg cs=>.agg (CT i t h cs)
 |.tup cs=>.tup (CT i t h cs)
 |.fn f a b=>.fn f (CT i t h a) (CT i t h b)
 |.cr=>.cr
 |.oY=>.oY
 |.undef=>.undef
def CT (i:Nat) (t:Ty) (h:aK):List SV->List SV
 |[]=>[]
 |v::l=>v.frz i t h::CT i t h l
end
def Blk.frz (i:Nat) (t:Ty) (h:aK):Blk->Blk
 |.box cs=>.box (CT i t h cs)
 |.arr none t' xs=>.arr none t' xs
 |.arr (some d) t' xs=>.arr (some (L6 i d)) t' xs
def Fk (i:Nat) (t:Ty) (h:aK):aK->aK
 |[]=>[]
 |(k,b)::l=>cond (Nat.beq k i) (Fk i t h l) ((k,b.frz i t h)::Fk i t h l)
def Ij (i:Nat) (t:Ty) (h:aK):List (Nat× SV)->List (Nat× SV)
 |[]=>[]
 |(k,v)::l=>(k,v.frz i t h)::Ij i t h l
def Qr (i:Nat) (st:St):St:=
 match look st.heap i with
 |some (.arr _ t _)=>{st with bI:=Ij i t st.heap st.bI,heap:=Fk i t st.heap st.heap}
 |_=>st
def PF (h:aK):SV->List Nat->Option Nat
 |.own i,[]=>some i
 |.sub i _ _,[]=>some i
 |.agg cs,j::p=>match cs[j]? with
  |some v=>PF h v p
  |none=>none
 |.tup cs,j::p=>match cs[j]? with
  |some v=>PF h v p
  |none=>none
 |.ptr i 0 o,j::p=>match look h i with
  |some (.box cs)=>match cs[o+j]? with
   |some v=>PF h v p
   |none=>none
  |_=>none
 |.bsl i _,j::p=>match look h i with
  |some (.box cs)=>match cs[j]? with
   |some v=>PF h v p
   |none=>none
  |_=>none
 |_,_=>none
termination_by structural _ p=>p
def Qs (i:Nat) (st:St):St:=
 match look st.heap i with
 |some (.arr none t xs)=>{st with heap:=put st.heap i (.arr (some []) t xs)}
 |_=>st
def NG (st:St) (x:Bool× Nat× List Nat):St:=
 match look st.bI x.2.1 with
 |some v=>match PF st.heap v x.2.2 with
  |some i=>cond x.1 (Qs i st) (Qr i st)
  |none=>st
 |none=>st
def G4:List (Bool× Nat× List Nat)->St->St
 |[],st=>st
 |x::l,st=>G4 l (NG st x)
def Blk.JW (b:Blk) (K:Blk->Option ρ):Option ρ:=
 match b with
 |.arr none (.ho s) zs=>(C8 zs).bind λxs=>K (.arr none (.st s) xs)
 |.arr none (.hl t) zs=>(C8 zs).bind λxs=>K (.arr none (.sl t) xs)
 |b=>K b
def JX:aK->(aK->Option ρ)->Option ρ
 |[],K=>K []
 |(k,b)::l,K=>b.JW λb=>JX l λl=>K ((k,b)::l)
def G5 (E:Env) (K:St->Option ρ) (st:St):Option ρ:=cond E.tak (JX st.heap λh=>K {st with heap:=h}) (K st)
noncomputable def ev (E:Env) (LP:Nat->Ev ρ->Ev ρ) (cb:Nat):Code->Ev ρ
 |.skip,st,K=>K .normal st
 |.label _,st,K=>K .normal st
 |.region id ops false,st,K=>Bp E ops.toList ops.toList (JS (E.wk id) (G4 (E.fz id) st)) (G5 E (K .normal))
 |.region id ops true,st,K=>Fj E ops.toList (JS (E.wk id) (G4 (E.fz id) st)) (G5 E (K .normal))
 |.seq a b,st,K=>ev E LP cb a st λe st=>match e with
  |.normal=>ev E LP cb b st K
  |e=>K e st
 |.cond c t f,st,K=>(opd st.bI c).bind λv=>v.asB.bind λb=>cond b (ev E LP cb t (refine c true st) K) (ev E LP cb f (refine c false st) K)
 |.block id c,st,K=>ev E LP id c st (inBlock id K)
 |.loop c,st,K=>LP cb (λst K=>ev E LP cb c st K) st K
 |.exit id,st,K=>K (.exit id) st
 |.scope c,st,K=>ev E LP cb c st K
 |.ret,st,K=>K .ret st
 |_,_,_=>none
def N5 (body:Ev ρ):Nat->Ev ρ
 |0,_,_=>none
 |n+1,st,K=>body st λe st=>match e with
  |.normal=>N5 body n st K
  |e=>K e st
end
section
def Ext {α:Type} (s s':List (Nat× α)):Prop:=∀t v,look s t=some v->look s' t=some v
theorem Ext.rfl' {α:Type} {s:List (Nat× α)}:Ext s s:=λ_ _ h=>h
def Le {α:Type} (x y:Option α):Prop:=∀a,x=some a->y=some a
theorem Le.refl {α:Type} (x:Option α):Le x x:=λ_ h=>h
theorem Le.bind {α β:Type} {x y:Option α} {f g:α->Option β} (h:Le x y) (hf:∀a,Le (f a) (g a)):Le (x.bind f) (y.bind g):=by
 intro b hb;rw[An]at hb⊢;obtain⟨a,h1,h2⟩:=hb;exact⟨a,h a h1,hf a b h2⟩
theorem Le.cond {α:Type} {b:Bool} {x y x' y':Option α} (h:Le x x') (h':Le y y'):Le (cond b x y) (cond b x' y'):=by cases b<;>assumption
theorem Le.none {α:Type} {y:Option α}:Le Option.none y:=λ_ h=>nomatch h
section
variable {s s':List (Nat× SV)} {h h':aK} {P:Program}
theorem N6 (hh:Ext h h') (i:Nat):Le (look h i) (look h' i):=λ_=>hh i _
theorem cW (hs:Ext s s') (x:Operand):Le (opd s x) (opd s' x):=by
 cases x with
 |tmp t=>exactλv hv=>hs t v hv
 |_=>exact Le.refl _
theorem iU (hs:Ext s s'):(l:List Operand)->Le (rA s l) (rA s' l)
 |[]=>Le.refl _
 |x::l=>(cW hs x).bind λ_=>(iU hs l).bind λ_=>Le.refl _
theorem Fl (hs:Ext s s') (x:Option Operand):Le (L5 s x) (L5 s' x):=by
 cases x with
 |none=>exact Le.refl _
 |some x=>exact(cW hs x).bind λ_=>Le.refl _
theorem o7 (hs:Ext s s'):(l:List (Nat× Operand))->Le (rk s l) (rk s' l)
 |[]=>Le.refl _
 |(_,x)::l=>(cW hs x).bind λ_=>(o7 hs l).bind λ_=>Le.refl _
theorem Ik (hh:Ext h h') (v:SV):Le (k8 h v) (k8 h' v):=by
 cases v<;>try exact Le.refl _
 rename_i i x o;intro cs hcs;simp only[k8]at hcs⊢
 cases hl:look h i with
 |none=>rw[hl]at hcs;exact nomatch hcs
 |some B=>rw[hl]at hcs;rw[hh i B hl];exact hcs
theorem Ml (hh:Ext h h') (v:SV):Le (lenOf h v) (lenOf h' v):=by
 intro n hn
 cases v with
 |own i=>
  simp only[lenOf]at hn⊢
  cases hl:look h i with
  |none=>rw[hl]at hn;exact nomatch hn
  |some B=>rw[hl]at hn;rw[hh i B hl];exact hn
 |r d x=>cases x<;>exact hn
 |_=>exact hn
theorem Il (hh:Ext h h') (T:TypeId) (v:SV) (lo hi:Option SV):Le (iS P T h v lo hi) (iS P T h' v lo hi):=by
 intro cs hcs
 cases v with
 |own i=>
  simp only[iS]at hcs⊢
  cases hl:look h i with
  |none=>rw[hl]at hcs;exact nomatch hcs
  |some B=>rw[hl]at hcs;rw[hh i B hl];exact hcs
 |sub i o n=>
  simp only[iS]at hcs⊢
  cases hl:look h i with
  |none=>rw[hl]at hcs;exact nomatch hcs
  |some B=>rw[hl]at hcs;rw[hh i B hl];exact hcs
 |r d x=>cases x<;>exact hcs
 |_=>exact hcs
theorem zx (hh:Ext h h') (T:TypeId) (v:SV) (k:Int):Le (bT P T h v k) (bT P T h' v k):=by
 intro cs hcs
 cases v with
 |own i=>
  simp only[bT]at hcs⊢
  cases hl:look h i with
  |none=>rw[hl]at hcs;exact nomatch hcs
  |some B=>rw[hl]at hcs;rw[hh i B hl];exact hcs
 |sub i o n=>
  simp only[bT]at hcs⊢
  cases hl:look h i with
  |none=>rw[hl]at hcs;exact nomatch hcs
  |some B=>rw[hl]at hcs;rw[hh i B hl];exact hcs
 |r d x=>cases x<;>exact hcs
 |_=>exact hcs
theorem Fm (hh:Ext h h') (t:Ty) (v:SV):Le (v.list h t) (v.list h' t):=by
 intro p hp
 cases v<;>try exact hp
 all_goals
  simp only[SV.list]at hp⊢;split at hp
  ·rename_i hl;rw[hh _ _ hl];exact hp
  ·exact nomatch hp
theorem PH (hh:Ext h h') (T:TypeId) (x:SV):Le (slN P T h x) (slN P T h' x):=by
 intro n hn
 cases x with
 |own i=>
  simp only[slN]at hn⊢
  cases hl:look h i with
  |none=>rw[hl]at hn;exact nomatch hn
  |some B=>rw[hl]at hn;rw[hh i B hl];exact hn
 |r d x=>cases x<;>exact hn
 |_=>exact hn
theorem ua (hs:Ext s s') (hh:Ext h h') (op:Op):Le (gp P s h op) (gp P s' h' op):=by
 intro v hv;unfold gp at hv;split at hv<;>simp only[gp]
 ·exact cW hs _ v hv
 ·exact cW hs _ v hv
 ·revert hv;exact((cW hs _).bind λc=>(Le.refl _).bind λb=>Le.cond (cW hs _) (cW hs _)) v
 ·revert hv
  split
  ·exact((Le.refl _).bind λ_=>(Le.refl _).bind λ_=>(o7 hs _).bind λ_=>Le.refl _) v
  ·exactλh=>nomatch h
 ·exact((cW hs _).bind λa=>(Ik hh a).bind λ_=>Le.refl _) v hv
 ·exact((cW hs _).bind λa=>Le.refl _) v hv
 ·exact((cW hs _).bind λa=>(cW hs _).bind λ_=>Le.refl _) v hv
 ·exact((cW hs _).bind λa=>Le.refl _) v hv
 ·exact((cW hs _).bind λa=>Le.cond ((Fm hh _ _).bind λ_=>Le.refl _) (Le.refl _)) v hv
 ·exact((iU hs _).bind λa=>(iU hs _).bind λ_=>Le.refl _) v hv
 ·exact((cW hs _).bind λa=>(Fl hs _).bind λ_=>(Fl hs _).bind λ_=>Il hh _ _ _ _) v hv
 ·exact((cW hs _).bind λa=>(Fl hs _).bind λ_=>(cW hs _).bind λ_=>(cW hs _).bind λ_=>(PH hh _ _).bind λ_=>Le.refl _) v hv
 ·exact((cW hs _).bind λa=>Le.refl _) v hv
 ·exact((cW hs _).bind λa=>Le.refl _) v hv
 ·exact((cW hs _).bind λa=>(cW hs _).bind λ_=>(Le.refl _).bind λ_=>zx hh _ _ _) v hv
 ·exact((cW hs _).bind λa=>(cW hs _).bind λ_=>Le.refl _) v hv
 ·exact((cW hs _).bind λa=>Le.refl _) v hv
 ·refine((iU hs _).bind λvs=>?_) v hv;split
  ·exact Le.cond ((Ml hh _).bind λ_=>Le.refl _) (Le.refl _)
  ·exact Le.refl _
 ·exact((iU hs _).bind λa=>Le.refl _) v hv
 ·exact((iU hs _).bind λa=>Le.refl _) v hv
 ·exact((iU hs _).bind λa=>Le.refl _) v hv
 ·exact nomatch hv
theorem Dc (hh:Ext h h') (t:Ty) (v:SV):Le (v.asR h t) (v.asR h' t):=by
 cases t with
 |sl t=>exact(Fm hh t v).bind λ_=>Le.refl _
 |_=>exact Le.refl _
theorem Fo (hh:Ext h h'):(ts:List Ty)->(vs:List SV)->Le (JA h ts vs) (JA h' ts vs)
 |[],[]=>Le.refl _
 |t::ts,v::vs=>(Dc hh t v).bind λ_=>(Fo hh ts vs).bind λ_=>Le.refl _
 |[],_::_=>Le.refl _
 |_::_,[]=>Le.refl _
theorem N7 (hh:Ext h h') (t:Ty) (vs:List SV):Le (Qa h t vs) (Qa h' t vs):=(Fo hh _ _).bind λ_=>Le.refl _
theorem G6 (hh:Ext h h') (t:Ty):(n:Nat)->(c:List SV)->Le (Ic h t n c) (Ic h' t n c)
 |0,_=>Le.refl _
 |n+1,_=>(N7 hh t _).bind λ_=>(G6 hh t n _).bind λ_=>Le.refl _
theorem Bs (hh:Ext h h') (t:Ty) (v:SV):Le (v.JC h t) (v.JC h' t):=by
 intro p hp
 cases t with
 |sl t=>
  cases v with
  |own i=>
   simp only[SV.JC]at hp⊢
   cases hl:look h i with
   |none=>rw[hl]at hp;exact nomatch hp
   |some B=>rw[hl]at hp;rw[hh i B hl];exact hp
  |_=>exact hp
 |_=>exact hp
theorem G7 (hh:Ext h h'):(ts:List Ty)->(vs:List SV)->Le (Fe h ts vs) (Fe h' ts vs)
 |[],[]=>Le.refl _
 |t::ts,v::vs=>(Bs hh t v).bind λ_=>(G7 hh ts vs).bind λ_=>Le.refl _
 |[],_::_=>Le.refl _
 |_::_,[]=>Le.refl _
theorem la (hh:Ext h h') (t:Ty):(n:Nat)->(c:List SV)->Le (iO h t n c) (iO h' t n c)
 |0,_=>Le.refl _
 |n+1,_=>(G7 hh _ _).bind λ_=>(Le.refl _).bind λ_=>(la hh t n _).bind λ_=>Le.refl _
theorem Dd (hh:Ext h h'):(c:List SV)->Le (C7 h c) (C7 h' c)
 |[]=>Le.refl _
 |v::l=>by
  have ih:=Dd hh l
  cases v with
  |own i=>
   refine(N6 hh i).bind λb=>?_
   cases b with
   |box _=>exact Le.refl _
   |arr sh _ _=>cases sh with
    |none=>exact ih
    |some _=>exact Le.refl _
  |r d x=>cases x with
   |sl _ _=>exact Le.refl _
   |_=>exact ih
  |sub _ _ _=>exact Le.refl _
  |bsl _ _=>exact Le.refl _
  |_=>exact ih
theorem JY (hh:Ext h h') (t:Ty) (n:Nat) (c:List SV):Le (GY h t n c) (GY h' t n c):=
 (Dd hh c).bind λb=>Le.cond ((la hh t n c).bind λ_=>Le.refl _) ((G6 hh t n c).bind λ_=>Le.refl _)
theorem zS (hh:Ext h h') (t:Ty) (v:SV):Le (rB h t v) (rB h' t v):=by
 have ind:∀(v:SV) (p:List Nat× List t.El),v.list h t=some p->oO h' v p.1=oO h v p.1:=λv p hp=>by
  cases v with
  |own i=>
   simp only[SV.list]at hp
   cases hl:look h i with
   |none=>rw[hl]at hp;exact nomatch hp
   |some B=>simp only[oO,hl,hh i B hl]
  |_=>rfl
 have lst:∀v:SV,Le ((v.list h t).bind λp=>cond (o5 t) (some (none,[],p.2)) (some (some (oO h v p.1),[],p.2)):Option (Option (List Nat)× List Nat× List t.El)) ((v.list h' t).bind λp=>cond (o5 t) (some (none,[],p.2)) (some (some (oO h' v p.1),[],p.2))):=λv q hq=>by
  rw[An]at hq⊢;obtain⟨p,hp,hq⟩:=hq;exact⟨p,Fm hh t v p hp,by rw[ind v p hp];exact hq⟩
 cases v with
 |bsl i n=>
  intro p hp;simp only[rB]at hp⊢
  cases hl:look h i with
  |none=>rw[hl]at hp;exact nomatch hp
  |some B=>
   rw[hl]at hp;rw[hh i B hl]
   cases B with
   |box cs=>exact((JY hh t n cs).bind λ_=>Le.refl _) p hp
   |arr _ _ _=>exact nomatch hp
 |r d x=>exact lst (.r d x)
 |cr=>exact lst .cr
 |oY=>exact lst .oY
 |own i=>exact lst (.own i)
 |sub i o n=>exact lst (.sub i o n)
 |ptr i x o=>exact lst (.ptr i x o)
 |inn i x o=>exact lst (.inn i x o)
 |ke d x=>exact lst (.ke d x)
 |agg x=>exact lst (.agg x)
 |tup x=>exact lst (.tup x)
 |fn f a b=>exact lst (.fn f a b)
 |undef=>exact lst .undef
end
end
section
abbrev Cell:=Nat× Nat
def _root_.Go.World.at? (w:World) (p:Cell):Option Value:=w.cell? ⟨p.1,p.2,none⟩
def _root_.Go.World.ey (w:World) (p:Cell):Nat× Nat× Nat:=
 match w.heap[p.1]? with
 |some (.cells c _ fr)=>(fr.1,fr.2,c.size)
 |_=>(0,0,0)
def calm (r:Nat× Nat× Nat):Bool:=decide (r.1=r.2.1\/r.2.2<=r.1)
def whole (r:Nat× Nat× Nat) (o n:Nat):Bool:=calm r&&decide (o=0/\r.2.2=n)
theorem qf {r:Nat× Nat× Nat} {o n:Nat} (h:whole r o n=true):calm r=true:=by
 unfold whole at h;rw[QV]at h;exact h.1
theorem G8 {n:Nat}:whole (0,0,n) 0 n=true:=by simp[whole,calm]
theorem lb {w:World} {b o:Nat} {u:Value} (h:w.at? (b,o)=some u) (hc:calm (w.ey (b,o))=true):w.frozen? ⟨b,o,none⟩=false:=by
 unfold World.at? World.cell? at h;unfold calm World.ey at hc;unfold World.frozen?
 cases hb:w.heap[b]? with
 |none=>rfl
 |some ob=>
  cases ob with
  |cells c t fr=>
   simp only[hb,RU,Sg,if_false]at h;simp only[hb,decide_eq_true_eq]at hc;have:=(Rj.1 h).1;obtain⟨lo,hi⟩:=fr;simp only at hc⊢;rw[Bool.and_eq_false_iff,decide_eq_false_iff_not,decide_eq_false_iff_not]
   omega
  |_=>rfl
theorem De (w:World) (a:Addr) (v:Value) (p:Cell):(w.setCell a v).ey p=w.ey p:=by
 unfold World.ey World.setCell;simp only[Array.getElem?_modify];by_cases e:a.block=p.1
 ·rw[if_pos e]
  cases hb:w.heap[p.1]? with
  |none=>rfl
  |some ob=>
   cases ob with
   |cells c t fr=>simp only[Sb];split<;>simp
   |_=>rfl
 ·rw[if_neg e]
theorem fR (b:Nat):∀(vs:List Value) (o:Nat) (w:World) (p:Cell),(w.setCells b o vs).ey p=w.ey p
 |[],_,_,_=>rfl
 |v::vs,o,w,p=>(fR b vs (o+1) (w.setCell ⟨b,o,none⟩ v) p).trans (De w _ v p)
def one:Value->Bool
 |.agg _|.tuple _=>false
 |_=>true
class Tok where
 env:Nat->Value
 JZ:∀n,one (env n)=true
 J0:env 0=.slice none 0 0
variable [Tok]
def reg (b o n:Nat) (p:Cell):Prop:=p.1=b/\o<=p.2/\p.2<o+n
def ay (t:Ty) (xs:List t.El) (i j:Nat) (r:R):Prop:=∃x,xs[i]? =some x/\(t.cells x)[j]? =some r
theorem aN {t:Ty} {xs:List t.El} {i j:Nat} {r:R} (h:ay t xs i j r):i<xs.length/\j<t.sz:=by
 obtain⟨x,hx,hr⟩:=h;refine⟨(Of.1 hx).1,?_⟩;have:=(Of.1 hr).1;rwa [Ty.cp]at this
theorem dt {t:Ty} {xs:List t.El} {i j:Nat} (hi:i<xs.length) (hj:j<t.sz):∃r,ay t xs i j r:=by
 refine⟨(t.cells xs[i])[j]'(by rw[Ty.cp];exact hj),xs[i],?_,?_⟩<;>simp
theorem o8 {i j n s c:Nat} (hi:i<n) (hj:j<s) (h:n<=c):i*s+j<c*s:=by
 have h1:(i+1)*s<=c*s:=Re s (by omega);have:(i+1)*s=i*s+s:=Sc i s;omega
inductive iV (w:World) (ok:Cell->Prop):R->Value->Prop
 |int (k:IntKind) (n:Int):iV w ok (.int k n) (.int k n)
 |bool (b:Bool):iV w ok (.bool b) (.bool b)
 |str (l:List UInt8):iV w ok (.str l) (.string ⟨l.toArray⟩)
 |sl (t:Ty) (xs:List t.El) (a:Option Addr) (cap b o:Nat) (vs:Nat->Nat->Value)
   (ic:xs.length<=cap) (ha:xs=[]\/a=some ⟨b,o,none⟩)
   (hc:∀i j r,ay t xs i j r->ok (b,o+(i*t.sz+j))/\w.at? (b,o+(i*t.sz+j))=some (vs i j))
   (hr:∀i j r,ay t xs i j r->iV w ok r (vs i j)):iV w ok (.sl t xs) (.slice a xs.length cap)
 |tok (n:Nat):iV w ok (.tok n) (Tok.env n)
 |lJ (v:Value) (h:one v=true):iV w ok .lJ v
theorem iV.frame {w w':World} {ok ok':Cell->Prop} {r:R} {v:Value} (h:iV w ok r v)
  (hf:∀p u,ok p->w.at? p=some u->ok' p/\w'.at? p=some u):iV w' ok' r v:=by
 induction h with
 |int=>exact .int _ _
 |bool=>exact .bool _
 |str=>exact .str _
 |tok=>exact .tok _
 |lJ v h=>exact .lJ v h
 |sl t xs a cap b o vs ic ha hc _ ih=>
  exact .sl t xs a cap b o vs ic ha (λi j r hr=>hf _ _ (hc i j r hr).1 (hc i j r hr).2) ih
structure Row (w:World) (inner:R->Value->(Cell->Prop)->Prop) (t:Ty) (xs:List t.El) (hdr:Value) (fp:Cell->Prop) where
 a:Option Addr
 cap:Nat
 b:Nat
 o:Nat
 vs:Nat->Nat->Value
 fs:Nat->Nat->Cell->Prop
 wS:hdr=.slice a xs.length cap
 ic:xs.length<=cap
 ha:cap=0\/a=some ⟨b,o,none⟩
 kg:∀j,j<cap*t.sz->(∃v,w.at? (b,o+j)=some v)/\whole (w.ey (b,o+j)) o (cap*t.sz)=true
 hc:∀i j r,ay t xs i j r->w.at? (b,o+(i*t.sz+j))=some (vs i j)
 hr:∀i j r,ay t xs i j r->inner r (vs i j) (fs i j)
 hd1:∀i j r p,ay t xs i j r->fs i j p->¬reg b o (cap*t.sz) p
 hd2:∀i j r i' j' r' p,ay t xs i j r->ay t xs i' j' r'->fs i j p->fs i' j' p->i=i'/\j=j'
 hfp:∀p,fp p↔reg b o (cap*t.sz) p\/∃i j r,ay t xs i j r/\fs i j p
inductive ft (w:World):R->Value->(Cell->Prop)->Prop
 |int (k:IntKind) (n:Int):ft w (.int k n) (.int k n) (λ_=>False)
 |bool (b:Bool):ft w (.bool b) (.bool b) (λ_=>False)
 |str (l:List UInt8):ft w (.str l) (.string ⟨l.toArray⟩) (λ_=>False)
 |sl (t:Ty) (xs:List t.El) (a:Option Addr) (cap b o:Nat) (vs:Nat->Nat->Value) (fs:Nat->Nat->Cell->Prop) (fp:Cell->Prop)
   (ic:xs.length<=cap) (ha:cap=0\/a=some ⟨b,o,none⟩)
   (kg:∀j,j<cap*t.sz->(∃v,w.at? (b,o+j)=some v)/\whole (w.ey (b,o+j)) o (cap*t.sz)=true)
   (hc:∀i j r,ay t xs i j r->w.at? (b,o+(i*t.sz+j))=some (vs i j))
   (hr:∀i j r,ay t xs i j r->ft w r (vs i j) (fs i j))
   (hd1:∀i j r p,ay t xs i j r->fs i j p->¬reg b o (cap*t.sz) p)
   (hd2:∀i j r i' j' r' p,ay t xs i j r->ay t xs i' j' r'->fs i j p->fs i' j' p->i=i'/\j=j')
   (hfp:∀p,fp p↔reg b o (cap*t.sz) p\/∃i j r,ay t xs i j r/\fs i j p):ft w (.sl t xs) (.slice a xs.length cap) fp
 |tok (n:Nat):ft w (.tok n) (Tok.env n) (λ_=>False)
 |lJ (v:Value) (h:one v=true):ft w .lJ v (λ_=>False)
theorem ft.row {w:World} {t:Ty} {xs:List t.El} {v:Value} {fp:Cell->Prop} (h:ft w (.sl t xs) v fp):Nonempty (Row w (ft w) t xs v fp):=by
 cases h with
 |sl t xs a cap b o vs fs fp ic ha kg hc hr hd1 hd2 hfp=>exact⟨⟨a,cap,b,o,vs,fs,rfl,ic,ha,kg,hc,hr,hd1,hd2,hfp⟩⟩
theorem Row.Qe {w:World} {t:Ty} {xs:List t.El} {v:Value} {fp:Cell->Prop} (h:Row w (ft w) t xs v fp):ft w (.sl t xs) v fp:=by
 obtain⟨a,cap,b,o,vs,fs,rfl,ic,ha,kg,hc,hr,hd1,hd2,hfp⟩:=h;exact .sl t xs a cap b o vs fs fp ic ha kg hc hr hd1 hd2 hfp
theorem ft.frame {w w':World} {r:R} {v:Value} {fp:Cell->Prop} (h:ft w r v fp)
  (hf:∀p u,fp p->w.at? p=some u->w'.at? p=some u/\w'.ey p=w.ey p):ft w' r v fp:=by
 induction h with
 |int=>exact .int _ _
 |bool=>exact .bool _
 |str=>exact .str _
 |tok=>exact .tok _
 |lJ v h=>exact .lJ v h
 |sl t xs a cap b o vs fs fp ic ha kg hc _ hd1 hd2 hfp ih=>
  have hin:∀i j r,ay t xs i j r->fp (b,o+(i*t.sz+j)):=λi j r hr=>(hfp _).2 (.inl ⟨rfl,by simp,by
   have:=o8 (aN hr).1 (aN hr).2 ic;simp;omega⟩)
  refine .sl t xs a cap b o vs fs fp ic ha (λj hj=>?_) (λi j r hr=>(hf _ _ (hin i j r hr) (hc i j r hr)).1)
   (λi j r hr=>ih i j r hr λp u hp=>hf p u ((hfp p).2 (.inr ⟨i,j,r,hr,hp⟩))) hd1 hd2 hfp
  obtain⟨⟨v,hv⟩,hi⟩:=kg j hj;have:=hf (b,o+j) v ((hfp _).2 (.inl ⟨rfl,by simp,by simp;omega⟩)) hv;exact⟨⟨v,this.1⟩,by rw[this.2];exact hi⟩
theorem ft.L7 {w:World} {r:R} {v:Value} {fp:Cell->Prop} {ok:Cell->Prop} (h:ft w r v fp) (hok:∀p,fp p->ok p):iV w ok r v:=by
 induction h with
 |int=>exact .int _ _
 |bool=>exact .bool _
 |str=>exact .str _
 |tok=>exact .tok _
 |lJ v h=>exact .lJ v h
 |sl t xs a cap b o vs fs fp ic ha kg hc _ hd1 hd2 hfp ih=>
  refine .sl t xs a cap b o vs ic ?_ (λi j r hr=>⟨hok _ ((hfp _).2 (.inl ⟨rfl,by simp,by
   have:=o8 (aN hr).1 (aN hr).2 ic;simp;omega⟩)),hc i j r hr⟩)
   (λi j r hr=>ih i j r hr λp hp=>hok p ((hfp p).2 (.inr ⟨i,j,r,hr,hp⟩)))
  rcases ha with rfl|h
  ·exact .inl (RJ.1 (by omega))
  ·exact .inr h
theorem ft.there {w:World} {r:R} {v:Value} {fp:Cell->Prop} (h:ft w r v fp):∀p,fp p->∃u,w.at? p=some u:=by
 induction h with
 |int=>exactλ_ h=>h.elim
 |bool=>exactλ_ h=>h.elim
 |str=>exactλ_ h=>h.elim
 |tok=>exactλ_ h=>h.elim
 |lJ=>exactλ_ h=>h.elim
 |sl t xs a cap b o vs fs fp ic ha kg hc _ hd1 hd2 hfp ih=>
  intro p hp
  rcases(hfp p).1 hp with⟨h1,h2,h3⟩|⟨i,j,r,hr,hp⟩
  ·obtain⟨p1,p2⟩:=p;have h1:p1=b:=h1;simp only at h1 h2 h3;subst h1;have:=(kg (p2-o) (by omega)).1;rwa [show o+(p2-o)=p2 from by omega]at this
  ·exact ih i j r hr p hp
structure Pl where
 hdr:Nat->Value
 fp:Nat->Cell->Prop
 base:Cell->Prop
def Blk.kh:Blk->Bool
 |.box _=>true
 |.arr _ _ _=>false
def okd (H:aK) (pl:Pl) (d:List Nat) (p:Cell):Prop:=pl.base p/\∀i B,look H i=some B->(mem i d=true->B.kh=true)->¬pl.fp i p
inductive aq (w:World) (H:aK) (pl:Pl):SV->Value->Prop
 |r (d:List Nat) (x:R) (v:Value) (h:iV w (okd H pl d) x v):aq w H pl (.r d x) v
 |cr:aq w H pl .cr (.slice none 0 0)
 |oY:aq w H pl .oY (.pointer none)
 |own (i:Nat) (sh:Option (List Nat)) (t:Ty) (xs:List t.El) (h:look H i=some (.arr sh t xs)):aq w H pl (.own i) (pl.hdr i)
 |sub (i o n:Nat) (sh:Option (List Nat)) (t:Ty) (xs:List t.El) (a a':Option Addr) (cap cap':Nat) (h:look H i=some (.arr sh t xs))
   (hh:pl.hdr i=.slice a xs.length cap) (hn:o+n<=xs.length) (hc:n<=cap') (hc':o+cap'=cap) (ha:cap'=0\/a'=a.map (·.add (o*t.sz))):
   aq w H pl (.sub i o n) (.slice a' n cap')
 |bsl (i n:Nat) (cs:List SV) (a:Addr) (h:look H i=some (.box cs)) (hh:pl.hdr i=.pointer (some a)):aq w H pl (.bsl i n) (.slice (some a) n n)
 |ub (i o:Nat) (cs:List SV) (b k:Nat) (h:look H i=some (.box cs)) (hh:pl.hdr i=.pointer (some ⟨b,k,none⟩)):aq w H pl (.ptr i 0 o) (.pointer (some ⟨b,k+o,none⟩))
 |sk (i x o:Nat) (sh:Option (List Nat)) (t:Ty) (xs:List t.El) (b k n cap:Nat) (h:look H i=some (.arr sh t xs)) (hx:x<xs.length)
   (hh:pl.hdr i=.slice (some ⟨b,k,none⟩) n cap):aq w H pl (.ptr i x o) (.pointer (some ⟨b,k+(x*t.sz+o),none⟩))
 |inn (i x c:Nat) (sh:Option (List Nat)) (t:Ty) (xs:List t.El) (b k n cap:Nat) (v:Value) (h:look H i=some (.arr sh t xs)) (hx:x<xs.length) (hc:c<t.sz)
   (hh:pl.hdr i=.slice (some ⟨b,k,none⟩) n cap) (hok:okd H pl [i] (b,k+(x*t.sz+c))) (hv:w.at? (b,k+(x*t.sz+c))=some v) (h1:one v=true):aq w H pl (.inn i x c) v
 |ke (d:List Nat) (cs:List R) (b o:Nat) (vs:Nat->Value) (hc:∀j r,cs[j]? =some r->okd H pl d (b,o+j)/\w.at? (b,o+j)=some (vs j))
   (hr:∀j r,cs[j]? =some r->iV w (okd H pl d) r (vs j)):aq w H pl (.ke d cs) (.pointer (some ⟨b,o,none⟩))
 |agg (cs:List SV) (vs:Array Value) (hl:cs.length=vs.size) (h1:∀(j:Nat) (v:Value),vs[j]? =some v->one v=true) (h:∀(j:Nat) (x:SV) (v:Value),cs[j]? =some x->vs[j]? =some v->aq w H pl x v):aq w H pl (.agg cs) (.agg vs)
 |tup (cs:List SV) (vs:Array Value) (hl:cs.length=vs.size) (h:∀(j:Nat) (x:SV) (v:Value),cs[j]? =some x->vs[j]? =some v->aq w H pl x v):aq w H pl (.tup cs) (.tuple vs)
 |fn (f:Fn) (as bs:List SV) (us vs:Array Value) (hl:as.length=us.size) (h:∀(j:Nat) (x:SV) (v:Value),as[j]? =some x->us[j]? =some v->aq w H pl x v)
   (hl':bs.length=vs.size) (h':∀(j:Nat) (x:SV) (v:Value),bs[j]? =some x->vs[j]? =some v->aq w H pl x v):aq w H pl (.fn f as bs) (.func f us vs)
 |undef (v:Value):aq w H pl .undef v
def dS (w:World) (H:aK) (pl:Pl) (i:Nat):Blk->Prop
 |.box cs=>∃b o,pl.hdr i=.pointer (some ⟨b,o,none⟩)/\(∀p,pl.fp i p↔reg b o cs.length p)/\
   ∀j v,cs[j]? =some v->∃u,w.at? (b,o+j)=some u/\calm (w.ey (b,o+j))=true/\one u=true/\aq w H pl v u
 |.arr none t xs=>Nonempty (Row w (ft w) t xs (pl.hdr i) (pl.fp i))
 |.arr (some d) t xs=>Nonempty (Row w (λr v f=>iV w (okd H pl d) r v/\∀p,¬f p) t xs (pl.hdr i) (pl.fp i))
structure cK (H:aK) (pl:Pl) (w:World):Prop where
 blk:∀i B,look H i=some B->dS w H pl i B
 dis:∀i j B B' p,look H i=some B->look H j=some B'->pl.fp i p->pl.fp j p->i=j
 ob:∀i B p,look H i=some B->pl.fp i p->pl.base p
 nb:∀p,w.at? p=none->pl.base p
end
section
variable [Tok]
section lists
variable {α:Type}
theorem az (k:Nat) (v:α) (l:List (Nat× α)) (n:Nat):look ((k,v)::l) n=if k=n then some v else look l n:=by
 simp only[look];cases h:Nat.beq k n
 ·have:¬k=n:=λe=>by subst e;simp at h
  simp[this]
 ·have:k=n:=QU h;simp[this]
theorem eF (l:List (Nat× α)) (n m:Nat) (v:α):look (put l n v) m=if n=m then some v else look l m:=by
 induction l with
 |nil=>rw[put,az]
 |cons x l ih=>
  obtain⟨k,u⟩:=x;simp only[put];cases hk:Nat.beq k n
  ·simp only[cond_false,look,ih];cases hm:Nat.beq k m
   ·simp
   ·have h1:k=m:=QU hm;subst h1
    have:¬n=k:=λe=>by subst e;simp at hk
    simp[this]
  ·have h1:k=n:=QU hk;subst h1;simp only[cond_true,look];cases hm:Nat.beq k m
   ·have:¬k=m:=λe=>by subst e;simp at hm
    simp[this]
   ·have:k=m:=QU hm;simp[this]
theorem aF (l l':List (Nat× α)) (n:Nat):look (l++l') n=(look l n).or (look l' n):=by
 induction l with
 |nil=>simp[look]
 |cons x l ih=>
  obtain⟨k,u⟩:=x;simp only[Si,look];cases Nat.beq k n<;>simp[ih]
theorem mem_iff (i:Nat) (l:List Nat):mem i l=true↔i∈l:=by
 induction l with
 |nil=>simp[mem]
 |cons k l ih=>
  simp only[mem];cases h:Nat.beq k i
  ·have:¬i=k:=λe=>by subst e;simp at h
   simp[ih,this]
  ·have:k=i:=QU h;simp[this]
theorem fu (T d:List Nat) (h:hit T d=false):∀i,mem i d=true->mem i T=false:=by
 induction d with
 |nil=>intro i hi;simp[mem]at hi
 |cons k l ih=>
  simp only[hit]at h;cases hk:mem k T
  ·rw[hk]at h;intro i hi;rw[mem_iff]at hi
   rcases Ri.1 hi with rfl|hi
   ·exact hk
   ·exact ih h i ((mem_iff i l).2 hi)
  ·rw[hk]at h;simp at h
theorem bq (n:Nat) (l:List Blk) (i:Nat):look (aO n l) i=if n<=i then l[i-n]? else none:=by
 induction l generalizing n with
 |nil=>simp[aO,look]
 |cons b l ih=>
  rw[aO,az,ih];by_cases h:n=i
  ·subst h;simp
  ·by_cases h2:n<=i
   ·rw[if_neg h,if_pos (by omega),if_pos h2];rw[show i-n=(i-(n+1))+1 from by omega];rfl
   ·rw[if_neg h,if_neg (by omega),if_neg h2]
theorem Df (u h:aK) (i:Nat):look (rl u h) i=match look u.reverse i with|some b=>some b|none=>look h i:=by
 induction u generalizing h with
 |nil=>simp[rl,look]
 |cons x l ih=>
  obtain⟨k,b⟩:=x;rw[rl,ih,List.reverse_cons,aF,eF,az]
  cases look l.reverse i with
  |some c=>simp
  |none=>by_cases hk:k=i<;>simp[hk,look]
theorem Fp (T:Kil) (s:List (Nat× SV)) (t:Nat):look (GV T s) t=(look s t).map (SV.aP T):=by
 induction s with
 |nil=>rfl
 |cons x l ih=>
  obtain⟨k,v⟩:=x;rw[GV,az,az,ih];by_cases h:k=t<;>simp[h]
theorem wT (T:Kil) (h h':aK) (e:wM T h=some h') (i:Nat):
  look h' i=cond (mem i T.1) none ((look h i).bind (Blk.aP T))/\(∀b,look h i=some b->mem i T.1=false->∃b',b.aP T=some b'):=by
 induction h generalizing h' with
 |nil=>simp only[wM,It]at e;subst e;simp[look]
 |cons x l ih=>
  obtain⟨k,b⟩:=x;simp only[wM]at e;cases hk:mem k T.1
  ·simp only[hk,cond_false,An,It]at e;obtain⟨b',hb,l',hl,rfl⟩:=e;rw[az,az];by_cases hi:k=i
   ·subst hi;simp[hk,hb]
   ·simpa[hi]using ih l' hl
  ·simp only[hk,cond_true]at e;have:=ih h' e;rw[az];by_cases hi:k=i
   ·subst hi;simp[hk]at this⊢;exact this
   ·simpa[hi]using this
theorem dY {α:Type} {l:List α} (h:isNil l=true):l=[]:=by cases l with|nil=>rfl|cons _ _=>exact nomatch h
theorem Fq {T:Kil} (h:T.2=[]) (h1:∀i,mem i T.1=true->mem i T.2=true):T=([],[]):=by
 obtain⟨a,b⟩:=T;simp only at h h1;subst h
 cases a with
 |nil=>rfl
 |cons x l=>have:=h1 x (by simp[mem]);exact nomatch this
theorem wU (i:Nat) (a b:List Nat):mem i (a++b)=(mem i a||mem i b):=by
 induction a with
 |nil=>simp[mem]
 |cons x l ih=>simp only[Si,mem,ih];cases Nat.beq x i<;>simp
theorem CR.fJ (c:CR):∀i,mem i c.kil.1=true->mem i c.kil.2=true:=λi h=>by
 show mem i (c.gone++c.k9)=true;rw[wU,show mem i c.gone=true from h];rfl
theorem mT (T:Kil) (l:List SV) (j:Nat):(gX T l)[j]? =(l[j]?).map (SV.aP T):=by
 induction l generalizing j with
 |nil=>rfl
 |cons v l ih=>cases j with
  |zero=>rfl
  |succ j=>simpa[gX]using ih j
theorem fS (T:Kil) (l:List SV):(gX T l).length=l.length:=by
 induction l with
 |nil=>rfl
 |cons v l ih=>simp[gX,ih]
end lists
def Blk.lM:Blk->Blk->Prop
 |.box a,.box b=>a.length=b.length
 |.arr _ t xs,.arr _ t' ys=>t.sz=t'.sz/\xs.length=ys.length
 |_,_=>False
theorem Blk.dg (b:Blk):b.lM b:=by cases b<;>simp[Blk.lM]
structure ld (T:Kil) (w:World) (H:aK) (pl:Pl) (w':World) (H':aK) (pl':Pl):Prop where
 k1:∀i B,look H i=some B->mem i T.1=false->∃B',look H' i=some B'/\B.lM B'/\pl'.hdr i=pl.hdr i
 k2:∀d p u,(∀i,mem i d=true->mem i T.2=false)->okd H pl d p->w.at? p=some u->okd H' pl' d p/\w'.at? p=some u
theorem aq.bO {T:Kil} {w w':World} {H H':aK} {pl pl':Pl} (hk:ld T w H pl w' H' pl') {v:SV} {u:Value} (h:aq w H pl v u):
  aq w' H' pl' (v.aP T) u:=by
 induction h with
 |r d x v h=>
  simp only[SV.aP];cases hd:hit T.2 d
  ·exact .r d x v (h.frame λp u hp hu=>hk.k2 d p u (fu T.2 d hd) hp hu)
  ·exact .undef _
 |cr=>exact .cr
 |oY=>exact .oY
 |own i sh t xs h=>
  simp only[SV.aP];cases hi:mem i T.1
  ·obtain⟨B',h1,h2,h3⟩:=hk.k1 i _ h hi
   cases B' with
   |box cs=>exact h2.elim
   |arr sh' t' ys=>rw[<-h3];exact .own i sh' t' ys h1
  ·exact .undef _
 |sub i o n sh t xs a a' cap cap' h hh hn hc hc' ha=>
  simp only[SV.aP];cases hi:mem i T.1
  ·obtain⟨B',h1,h2,h3⟩:=hk.k1 i _ h hi
   cases B' with
   |box cs=>exact h2.elim
   |arr sh' t' ys=>
    obtain⟨hz,hl⟩:=h2;exact .sub i o n sh' t' ys a a' cap cap' h1 (by rw[h3,hh,hl]) (hl▸hn) hc hc' (by rw[<-hz];exact ha)
  ·exact .undef _
 |bsl i n cs a h hh=>
  simp only[SV.aP];cases hi:mem i T.1
  ·obtain⟨B',h1,h2,h3⟩:=hk.k1 i _ h hi
   cases B' with
   |arr _ _ _=>exact h2.elim
   |box ds=>
    exact .bsl i n ds a h1 (h3.trans hh)
  ·exact .undef _
 |ub i o cs b k h hh=>
  simp only[SV.aP];cases hi:mem i T.1
  ·obtain⟨B',h1,h2,h3⟩:=hk.k1 i _ h hi
   cases B' with
   |arr _ _ _=>exact h2.elim
   |box ds=>exact .ub i o ds b k h1 (h3.trans hh)
  ·exact .undef _
 |sk i x o sh t xs b k n cap h hx hh=>
  simp only[SV.aP];cases hi:mem i T.1
  ·obtain⟨B',h1,h2,h3⟩:=hk.k1 i _ h hi
   cases B' with
   |box cs=>exact h2.elim
   |arr sh' t' ys=>
    obtain⟨hz,hl⟩:=h2;rw[hz];exact .sk i x o sh' t' ys b k n cap h1 (hl▸hx) (h3.trans hh)
  ·exact .undef _
 |inn i x c sh t xs b k n cap v h hx hc hh hok hv h1=>
  simp only[SV.aP];cases hi:(mem i T.1||mem i T.2)
  ·rw[Bool.or_eq_false_iff]at hi;obtain⟨B',g1,g2,g3⟩:=hk.k1 i _ h hi.1
   have g4:=hk.k2 [i] _ v (λj hj=>by
    simp only[mem]at hj;cases hb:Nat.beq i j<;>simp only[hb,cond_true,cond_false]at hj
    ·exact nomatch hj
    ·rw[<-QU hb];exact hi.2) hok hv
   cases B' with
   |box cs=>exact g2.elim
   |arr sh' t' ys=>
    obtain⟨hz,hl⟩:=g2;rw[hz]at g4 hc;exact .inn i x c sh' t' ys b k n cap v g1 (hl▸hx) hc (g3.trans hh) g4.1 g4.2 h1
  ·exact .undef _
 |ke d cs b o vs hc hr=>
  simp only[SV.aP];cases hd:hit T.2 d
  ·exact .ke d cs b o vs (λj r hj=>hk.k2 d _ _ (fu T.2 d hd) (hc j r hj).1 (hc j r hj).2)
    λj r hj=>(hr j r hj).frame λp u hp hu=>hk.k2 d p u (fu T.2 d hd) hp hu
  ·exact .undef _
 |agg cs vs hl h1 h ih=>
  refine .agg _ vs (by rw[fS,hl]) h1 λj x v hx hv=>?_;rw[mT]at hx;obtain⟨y,hy,rfl⟩:=Q0.1 hx
  exact ih j y v hy hv
 |tup cs vs hl h ih=>
  refine .tup _ vs (by rw[fS,hl]) λj x v hx hv=>?_;rw[mT]at hx;obtain⟨y,hy,rfl⟩:=Q0.1 hx
  exact ih j y v hy hv
 |fn f as bs us vs hl h hl' h' ih ih'=>
  refine .fn f _ _ us vs (by rw[fS,hl]) (λj x v hx hv=>?_) (by rw[fS,hl']) λj x v hx hv=>?_
  ·rw[mT]at hx;obtain⟨y,hy,rfl⟩:=Q0.1 hx;exact ih j y v hy hv
  ·rw[mT]at hx;obtain⟨y,hy,rfl⟩:=Q0.1 hx
   exact ih' j y v hy hv
 |undef v=>exact .undef _
theorem Bt (d:List Nat):hit [] d=false:=by
 induction d with
 |nil=>rfl
 |cons k l ih=>simpa[hit,mem]using ih
mutual
theorem dh:(v:SV)->v.aP ([],[])=v
 |.r d x=>by simp[SV.aP,Bt]
 |.own j=>by simp[SV.aP,mem]
 |.sub j o n=>by simp[SV.aP,mem]
 |.bsl j n=>by simp[SV.aP,mem]
 |.ptr j x o=>by simp[SV.aP,mem]
 |.inn j x c=>by simp[SV.aP,mem]
 |.ke d cs=>by simp[SV.aP,Bt]
 |.agg cs=>by simp[SV.aP,iW cs]
 |.tup cs=>by simp[SV.aP,iW cs]
 |.fn f a b=>by simp[SV.aP,iW a,iW b]
 |.cr=>by simp[SV.aP]
 |.oY=>by simp[SV.aP]
 |.undef=>by simp[SV.aP]
theorem iW:(l:List SV)->gX ([],[]) l=l
 |[]=>rfl
 |v::l=>by simp[gX,dh v,iW l]
end
theorem aq.vM {w w':World} {H H':aK} {pl pl':Pl} (hk:ld ([],[]) w H pl w' H' pl') {v:SV} {u:Value} (h:aq w H pl v u):
  aq w' H' pl' v u:=by have:=h.bO hk;rwa [dh]at this
end
section
variable [Tok]
section
variable {w:World} {H:aK} {pl:Pl}
theorem iV.scalar {ok:Cell->Prop} {x:R} {v:Value} (h:iV w ok x v) (ok':Cell->Prop) (hs:∀t xs,x≠.sl t xs):iV w ok' x v:=by
 cases h with
 |int=>exact .int _ _
 |bool=>exact .bool _
 |str=>exact .str _
 |tok=>exact .tok _
 |lJ v h=>exact .lJ v h
 |sl t xs=>exact(hs t xs rfl).elim
theorem wV {d:List Nat} {x:R} {v:Value} (h:iV w (okd H pl d) x v):aq w H pl (mkR d x) v:=by
 cases x with
 |sl t xs=>exact .r _ _ _ h
 |_=>exact .r _ _ _ (h.scalar _ (λ_ _ e=>nomatch e))
theorem iV.re {ok:Cell->Prop} {x:R} {v:Value} (h:iV w ok x v):one v=true:=by cases h<;>first|rfl|exact Tok.JZ _|assumption
def gq (w:World) (H:aK) (pl:Pl) (s:List (Nat× SV)) (a:Act):Prop:=∀t v,look s t=some v->aq w H pl v (a.tmps.getD t undef)
theorem wW {v:Value} {x:SV} (h:tW v=some x):aq w H pl x v:=by
 unfold tW at h
 split at h<;>first|(cases h)|skip
 ·exact .r _ _ _ (.bool _)
 ·exact .r _ _ _ (.int _ _)
 ·exact .r _ _ _ (.str _)
 ·exact .cr
 ·exact .oY
theorem zT:∀{vs:List Value} {l:List SV},zP vs=some l->l.length=vs.length/\∀(j:Nat) (x:SV) (v:Value),l[j]? =some x->vs[j]? =some v->aq w H pl x v
 |[],l,h=>by cases h;exact⟨rfl,λj x v hx _=>by simp at hx⟩
 |v::vs,l,h=>by
  simp only[zP,An,It]at h;obtain⟨x,hx,xs,hxs,rfl⟩:=h;obtain⟨h1,h2⟩:=zT hxs;refine⟨by simp[h1],λj y u hy hu=>?_⟩
  cases j with
  |zero=>simp at hy hu;subst hy hu;exact wW hx
  |succ j=>exact h2 j y u (by simpa using hy) (by simpa using hu)
theorem Fs {v:Value} {x:SV} (h:tW v=some x):one v=true:=by
 unfold tW at h
 split at h<;>first|rfl|(cases h)
theorem zU:∀{vs:List Value} {l:List SV},zP vs=some l->∀(j:Nat) (v:Value),vs[j]? =some v->one v=true
 |[],l,_,j,v,hv=>by simp at hv
 |u::vs,l,h,j,v,hv=>by
  simp only[zP,An,It]at h;obtain⟨x,hx,xs,hxs,rfl⟩:=h
  cases j with
  |zero=>simp at hv;subst hv;exact Fs hx
  |succ j=>exact zU hxs j v (by simpa using hv)
theorem uc {v:Value} {x:SV} (h:GW v=some x):aq w H pl x v:=by
 unfold GW at h;split at h
 ·simp only[An,It]at h;obtain⟨l,hl,rfl⟩:=h;obtain⟨h1,h2⟩:=zT (w:=w) (H:=H) (pl:=pl) hl;refine .agg _ _ (by simpa using h1) (λj v hv=>?_) λj x v hx hv=>h2 j x v hx (by simpa using hv);exact zU hl j v (by simpa using hv)
 ·exact wW h
theorem aU {s:List (Nat× SV)} {a:Act} (hs:gq w H pl s a) {o:Operand} {x:SV} (h:opd s o=some x):aq w H pl x (a.eval o):=by
 cases o with
 |tmp t=>exact hs t x h
 |const v=>exact uc h
 |func f=>
  simp only[opd,It]at h;subst h
  exact .fn _ _ _ _ _ rfl (λj x v hx _=>by simp at hx) rfl (λj x v hx _=>by simp at hx)
 |global g=>exact nomatch h
theorem dH {P:Program} {T:TypeId} {i:TypeInfo} (h:P.info? T=some i) (w:World):(sizeOf T).run P w=.ok i.size w:=by
 simp[sizeOf,typeInfo,h]
theorem cJ {P:Program} {T:TypeId} {d:TypeDesc} (h:P.underlying T=some d) (w:World):(underlying T).run P w=.ok d w:=by
 simp[underlying,h]
theorem kS {P:Program} {T:TypeId} {d:TypeDesc} (h:P.underlying T=some d) (w:World):(isAgg T).run P w=.ok (wN P T) w:=by
 simp only[isAgg,Sem.run_bind,cJ h,Result.andThen_ok,wN,h];cases d<;>rfl
theorem wX (hr:cK H pl w) {p:SV} {u:Value} (hp:aq w H pl p u) {cs:List SV} (h:k8 H p=some cs):
  ∃b o,u=.pointer (some ⟨b,o,none⟩)/\∀(j:Nat) (x:SV),cs[j]? =some x->∃y,w.at? (b,o+j)=some y/\one y=true/\aq w H pl x y:=by
 cases hp with
 |ke d cs' b o vs hc hr'=>
  simp only[k8,It]at h;subst h;refine⟨b,o,rfl,λj x hx=>?_⟩;rw[RC]at hx;obtain⟨r,hj,rfl⟩:=Q0.1 hx
  exact⟨vs j,(hc j r hj).2,(hr' j r hj).re,wV (hr' j r hj)⟩
 |ub i o cs' b k hl hh=>
  simp only[k8,hl,It]at h;subst h;obtain⟨b',o',e,_,hc⟩:=hr.blk i _ hl;rw[hh]at e;cases e;refine⟨b,k+o,rfl,λj x hx=>?_⟩;rw[Ra]at hx;obtain⟨y,h1,_,h3,h4⟩:=hc _ _ hx
  exact⟨y,by rw[RS];exact h1,h3,h4⟩
 |sk i x o sh t xs b k n cap hl hx hh=>
  simp only[k8,hl,An,It]at h;obtain⟨e,he,rfl⟩:=h;have hb:=hr.blk i _ hl;refine⟨b,k+(x*t.sz+o),rfl,λj y hy=>?_⟩;rw[Ra,RC]at hy;obtain⟨r,hj,rfl⟩:=Q0.1 hy;have hcell:ay t xs x (o+j) r:=⟨e,he,hj⟩
  cases sh with
  |none=>
   obtain⟨R⟩:=hb;obtain⟨a',cap',b',o',vs,fs,h1,h2,h3,h4,h5,h6,h7,h8,h9⟩:=R;rw[hh]at h1;cases h1
   have hne:cap≠0:=by omega
   have h3:=h3.resolve_left hne;cases h3;refine⟨vs x (o+j),by rw[show k+(x*t.sz+o)+j=k+(x*t.sz+(o+j))from by omega];exact h5 _ _ _ hcell,?_,?_⟩
   ·exact((h6 _ _ _ hcell).L7 (ok:=λ_=>True) (λ_ _=>trivial)).re
   ·refine wV ((h6 _ _ _ hcell).L7 λp hp=>⟨hr.ob i _ p hl ((h9 p).2 (.inr ⟨_,_,_,hcell,hp⟩)),λi' B hB hm hf=>?_⟩);have hp':pl.fp i p:=(h9 p).2 (.inr ⟨_,_,_,hcell,hp⟩);have:=hr.dis i' i _ _ p hB hl hf hp';subst this;have hbx:=hm (by simp[JN,mem]);rw[hl]at hB;cases hB
    simp[Blk.kh]at hbx
  |some d=>
   obtain⟨R⟩:=hb;obtain⟨a',cap',b',o',vs,fs,h1,h2,h3,h4,h5,h6,h7,h8,h9⟩:=R;rw[hh]at h1;cases h1
   have hne:cap≠0:=by omega
   have h3:=h3.resolve_left hne;cases h3
   exact⟨vs x (o+j),by rw[show k+(x*t.sz+o)+j=k+(x*t.sz+(o+j))from by omega];exact h5 _ _ _ hcell,(h6 _ _ _ hcell).1.re,wV (h6 _ _ _ hcell).1⟩
 |_=>exact nomatch h
theorem zV {α:Type} {n:Nat} {l m:List α} (h:takeN n l=some m):m.length=n/\∀j,j<n->m[j]? =l[j]? :=by
 unfold takeN at h;cases hn:Nat.ble n l.length
 ·simp[hn]at h
 ·simp only[hn,cond_true,It]at h;subst h;have:=Q8 hn;exact⟨by simp[this],λj hj=>by simp[hj]⟩
theorem Bu {P:Program} {T:TypeId} {cs:List SV} {v:SV} (h:ik P T cs=some v) (b o:Nat)
  (hc:∀(j:Nat) (x:SV),cs[j]? =some x->∃y,w.at? (b,o+j)=some y/\one y=true/\aq w H pl x y):
  ∃u,(loadVar T ⟨b,o,none⟩).run P w=.ok u w/\aq w H pl v u:=by
 simp only[ik,An]at h;obtain⟨d,hd,i,hi,l,hl,h⟩:=h;obtain⟨h1,h2⟩:=zV hl
 have hy:∀j,j<i.size->∃y x,l[j]? =some x/\w.at? (b,o+j)=some y/\aq w H pl x y:=λj hj=>by
  have hx:l[j]? =some (l[j]'(by omega)):=On (by omega);obtain⟨y,h3,_,h5⟩:=hc j _ ((h2 j hj)▸hx);exact⟨y,_,hx,h3,h5⟩
 cases ha:wN P T
 ·simp only[ha,cond_false]at h
  match l,h1,hl,h,hy,h2 with
  |[x],h1,hl,h,hy,h2=>
   simp only[It]at h;subst h;have h1:i.size=1:=h1.symm;obtain⟨y,x',h3,h4,h5⟩:=hy 0 (by omega);simp at h3;subst h3;refine⟨y,?_,h5⟩;have h4:w.cell? ⟨b,o,none⟩=some y:=h4;simp[loadVar,kS hd,ha,h4]
 ·simp only[ha,cond_true,It]at h;subst h
  let f:Nat->Value:=λj=>(w.at? (b,o+j)).getD undef
  have hf:∀j,j<i.size->w.cell? (Addr.add ⟨b,o,none⟩ j)=some (f j):=λj hj=>by
   obtain⟨y,x,_,h4,_⟩:=hy j hj
   have e:Addr.add ⟨b,o,none⟩ j=⟨b,o+j,none⟩:=by
    unfold Addr.add;split
    ·rename_i h0;subst h0;rfl
    ·rfl
   rw[e];show w.at? (b,o+j)=some (f j);simp only[f,h4];rfl
  have hone:∀j,j<i.size->one (f j)=true:=λj hj=>by
   have hx:l[j]? =some (l[j]'(by omega)):=On (by omega);obtain⟨y,h3,h4,_⟩:=hc j _ ((h2 j hj)▸hx);simp only[f,h3];exact h4
  refine⟨.agg ((List.range i.size).map f).toArray,?_,?_⟩
  ·simp[loadVar,kS hd,ha,dH hi,run_loadCells (P:=P) w ⟨b,o,none⟩ i.size f hf]
  ·refine .agg _ _ (by simp[h1]) (λj v hv=>by
    by_cases hj:j<i.size
    ·have:v=f j:=by simp[hj]at hv;exact hv.symm
     rw[this];exact hone j hj
    ·simp[hj]at hv) λj x v hx hv=>?_
   have hj:j<i.size:=by have:=(Of.1 hx).1;omega
   obtain⟨y,x',h3,h4,h5⟩:=hy j hj;rw[h3]at hx;cases hx
   have:v=f j:=by simp[hj]at hv;exact hv.symm
   subst this;simp only[f,h4];exact h5
end
end
end Go.Proofs.Ev
