/- The evaluator over the model's code, and that it is sound: part 1. -/
import Derived.Calls
import Derived.Laws.IdiomCopy
import Derived.Laws.Cells
import Derived.Laws.Sem
set_option linter.unusedVariables false
set_option linter.unusedSimpArgs false
set_option linter.unusedSectionVars false
namespace Go.Proofs.Ev
theorem An:type_of% @Option.bind_eq_some_iff:=@Option.bind_eq_some_iff
theorem It:type_of% @Option.some.injEq:=@Option.some.injEq
theorem Of:type_of% @List.getElem?_eq_some_iff:=@List.getElem?_eq_some_iff
theorem On:type_of% @List.getElem?_eq_getElem:=@List.getElem?_eq_getElem
theorem Qj:type_of% @Nat.eq_of_beq_eq_true:=@Nat.eq_of_beq_eq_true
theorem Qk:type_of% @Bool.and_eq_true:=@Bool.and_eq_true
theorem Ql:type_of% @Int.toNat_natCast:=@Int.toNat_natCast
theorem Qm:type_of% @List.getElem?_append_right:=@List.getElem?_append_right
theorem Qn:type_of% @List.getElem?_append_left:=@List.getElem?_append_left
theorem Qo:type_of% @Option.elim_some:=@Option.elim_some
theorem Qp:type_of% @Option.map_eq_some_iff:=@Option.map_eq_some_iff
theorem Qq:type_of% @Bool.not_true:=@Bool.not_true
theorem Qr:type_of% @Bool.true_and:=@Bool.true_and
theorem Qs:type_of% @List.getElem_mem:=@List.getElem_mem
theorem Qt:type_of% @Nat.zero_add:=@Nat.zero_add
theorem Qu:type_of% @Option.bind_some:=@Option.bind_some
theorem Qv:type_of% @Array.getElem?_eq_getElem:=@Array.getElem?_eq_getElem
theorem Qw:type_of% @Nat.le_of_ble_eq_true:=@Nat.le_of_ble_eq_true
theorem Qx:type_of% @List.getElem?_drop:=@List.getElem?_drop
theorem Qy:type_of% @List.length_cons:=@List.length_cons
theorem Qz:type_of% @List.mem_of_getElem?:=@List.mem_of_getElem?
theorem QA:type_of% @Array.getD_eq_getD_getElem?:=@Array.getD_eq_getD_getElem?
theorem QB:type_of% @Nat.mul_le_mul_right:=@Nat.mul_le_mul_right
theorem QC:type_of% @List.mem_cons_of_mem:=@List.mem_cons_of_mem
theorem QD:type_of% @Prod.mk.injEq:=@Prod.mk.injEq
theorem QE:type_of% @Nat.le_refl:=@Nat.le_refl
theorem QF:type_of% @List.append_assoc:=@List.append_assoc
theorem QG:type_of% @List.mem_cons:=@List.mem_cons
theorem QH:type_of% @Array.getElem?_eq_some_iff:=@Array.getElem?_eq_some_iff
theorem QI:type_of% @Bool.not_false:=@Bool.not_false
theorem QJ:type_of% @Option.bind_assoc:=@Option.bind_assoc
theorem QK:type_of% @List.length_append:=@List.length_append
theorem QL:type_of% @Nat.add_mul:=@Nat.add_mul
theorem QM:type_of% @List.getElem?_eq_none:=@List.getElem?_eq_none
theorem QN:type_of% @List.mem_cons_self:=@List.mem_cons_self
theorem QO:type_of% @Nat.add_sub_cancel_left:=@Nat.add_sub_cancel_left
theorem QP:type_of% @Nat.zero_le:=@Nat.zero_le
theorem QQ:type_of% @Nat.add_zero:=@Nat.add_zero
theorem QR:type_of% @Nat.mul_comm:=@Nat.mul_comm
theorem QS:type_of% @List.getElem?_take:=@List.getElem?_take
theorem QT:type_of% @List.map_cons:=@List.map_cons
theorem QU:type_of% @List.mem_iff_getElem:=@List.mem_iff_getElem
theorem QV:type_of% @List.append_nil:=@List.append_nil
theorem QW:type_of% @List.getD_eq_getElem?_getD:=@List.getD_eq_getElem?_getD
theorem QX:type_of% @List.length_take:=@List.length_take
theorem QY:type_of% @List.length_nil:=@List.length_nil
theorem QZ:type_of% @List.getElem?_map:=@List.getElem?_map
theorem Q0:type_of% @Nat.mod_eq_of_lt:=@Nat.mod_eq_of_lt
theorem Q1:type_of% @Nat.sub_zero:=@Nat.sub_zero
theorem Q2:type_of% @Nat.mul_le_mul:=@Nat.mul_le_mul
theorem Q3:type_of% @Option.bind_none:=@Option.bind_none
theorem Q4:type_of% @List.length_set:=@List.length_set
theorem Q5:type_of% @Array.getElem?_toList:=@Array.getElem?_toList
theorem Q6:type_of% @List.length_eq_zero_iff:=@List.length_eq_zero_iff
theorem Q7:type_of% @List.cons.injEq:=@List.cons.injEq
theorem Q8:type_of% @List.getElem?_of_mem:=@List.getElem?_of_mem
theorem Q9:type_of% @Bool.false_and:=@Bool.false_and
theorem Ra:type_of% @List.take_length:=@List.take_length
theorem Rb:type_of% @Array.getElem?_append_left:=@Array.getElem?_append_left
theorem Rc:type_of% @Int.tdiv_eq_ediv_of_nonneg:=@Int.tdiv_eq_ediv_of_nonneg
theorem Rd:type_of% @Nat.add_assoc:=@Nat.add_assoc
theorem Re:type_of% @Option.isSome_none:=@Option.isSome_none
theorem Rf:type_of% @List.getElem?_set_self:=@List.getElem?_set_self
theorem Rg:type_of% @Option.or_none:=@Option.or_none
theorem Rh:type_of% @Nat.mul_add_mod:=@Nat.mul_add_mod
theorem Ri:type_of% @List.nodup_cons:=@List.nodup_cons
theorem Rj:type_of% @Int.natCast_mul:=@Int.natCast_mul
theorem Rk:type_of% @List.mem_filter:=@List.mem_filter
theorem Rm:type_of% @List.findIdx?_eq_some_iff_getElem:=@List.findIdx?_eq_some_iff_getElem
theorem Rn:type_of% @List.length_drop:=@List.length_drop
theorem Ro:type_of% @List.foldl_append:=@List.foldl_append
theorem Rp:type_of% @List.map_append:=@List.map_append
theorem Rq:type_of% @Nat.div_eq_of_lt:=@Nat.div_eq_of_lt
theorem Rr:type_of% @List.filter_eq_self:=@List.filter_eq_self
theorem Rs:type_of% @List.take_append_of_le_length:=@List.take_append_of_le_length
theorem Rt:type_of% @List.take_append_drop:=@List.take_append_drop
theorem Ru:type_of% @Nat.ble_eq_true_of_le:=@Nat.ble_eq_true_of_le
theorem Rv:type_of% @Option.map_some:=@Option.map_some
theorem Rw:type_of% @Nat.succ_mul:=@Nat.succ_mul
theorem Rx:type_of% @Nat.le_trans:=@Nat.le_trans
theorem Ry:type_of% @Option.some.inj:=@Option.some.inj
theorem Rz:type_of% @List.nil_append:=@List.nil_append
theorem RA:type_of% @Bool.false_eq_true:=@Bool.false_eq_true
theorem RB:type_of% @List.cons_append:=@List.cons_append
theorem RC:type_of% @Option.getD_some:=@Option.getD_some
theorem RD:type_of% @List.sum_cons:=@List.sum_cons
theorem RE:type_of% @List.take_of_length_le:=@List.take_of_length_le
theorem RF:type_of% @List.mem_append:=@List.mem_append
theorem RG:type_of% @Nat.mul_add_div:=@Nat.mul_add_div
theorem RH:type_of% @List.range_succ:=@List.range_succ
theorem RI:type_of% @List.findIdx?_eq_none_iff:=@List.findIdx?_eq_none_iff
theorem RJ:type_of% @List.all_eq_true:=@List.all_eq_true
theorem RK:type_of% @List.filter_cons:=@List.filter_cons
theorem RL:type_of% @Bool.or_true:=@Bool.or_true
theorem RM:type_of% @List.map_nil:=@List.map_nil
theorem RN:type_of% @List.getElem?_set_ne:=@List.getElem?_set_ne
theorem RO:type_of% @Bool.and_eq_true_iff:=@Bool.and_eq_true_iff
theorem RP:type_of% @List.getElem?_cons_succ:=@List.getElem?_cons_succ
theorem RQ:type_of% @List.any_eq_not_all_not:=@List.any_eq_not_all_not
theorem RR:type_of% @Array.ext':=@Array.ext'
theorem RS:type_of% @Array.getElem?_append_right:=@Array.getElem?_append_right
theorem RU:type_of% @Option.elim_none:=@Option.elim_none
theorem RV:type_of% @Array.append_assoc:=@Array.append_assoc
theorem RW:type_of% @List.filter_append:=@List.filter_append
theorem RX:type_of% @Option.isSome_some:=@Option.isSome_some
theorem RY:type_of% @List.length_replicate:=@List.length_replicate
theorem RZ:type_of% @List.length_filter_le:=@List.length_filter_le
theorem R2:type_of% @List.foldl_cons:=@List.foldl_cons
theorem R3:type_of% @Bool.or_eq_true:=@Bool.or_eq_true
theorem R4:type_of% @List.sum_append:=@List.sum_append
theorem R5:type_of% @List.drop_length:=@List.drop_length
theorem R6:type_of% @Int.mul_nonneg:=@Int.mul_nonneg
theorem R7:type_of% @Array.getElem?_eq_none:=@Array.getElem?_eq_none
theorem R8:type_of% @Nat.div_add_mod:=@Nat.div_add_mod
theorem R9:type_of% @Nat.div_lt_iff_lt_mul:=@Nat.div_lt_iff_lt_mul
theorem Sa:type_of% @Bool.not_eq_true':=@Bool.not_eq_true'
theorem Sb:type_of% @Nat.lt_trichotomy:=@Nat.lt_trichotomy
theorem Sd:type_of% @Bool.and_false:=@Bool.and_false
theorem Se:type_of% @List.mem_of_mem_take:=@List.mem_of_mem_take
theorem Sf:type_of% @List.mem_flatMap:=@List.mem_flatMap
theorem Sj:type_of% @List.flatMap_append:=@List.flatMap_append
theorem Sm:type_of% @Bool.and_true:=@Bool.and_true
theorem Sn:type_of% @Bool.eq_iff_iff:=@Bool.eq_iff_iff
theorem So:type_of% @Nat.min_eq_left:=@Nat.min_eq_left
theorem Sp:type_of% @List.mem_replicate:=@List.mem_replicate
theorem Sq:type_of% @List.findIdx?_cons:=@List.findIdx?_cons
theorem Sr:type_of% @List.pairwise_cons:=@List.pairwise_cons
theorem Sv:type_of% @List.drop_zero:=@List.drop_zero
theorem Sw:type_of% @Nat.zero_mul:=@Nat.zero_mul
theorem Sx:type_of% @List.mem_map:=@List.mem_map
theorem SA:type_of% @Bool.not_not:=@Bool.not_not
theorem SB:type_of% @Nat.le_of_lt:=@Nat.le_of_lt
theorem SC:type_of% @List.map_id':=@List.map_id'
theorem SI:type_of% @Nat.mod_lt:=@Nat.mod_lt
theorem SK:type_of% @Bool.false_or:=@Bool.false_or
theorem SL:type_of% @List.all_cons:=@List.all_cons
theorem SM:type_of% @Int.mul_assoc:=@Int.mul_assoc
theorem S5:type_of% @Iff.rfl:=@Iff.rfl
section
structure Shape where
 h:Int
 w:Int
 c:Int
 deriving DecidableEq
structure av where
 sh:Shape
 data:List Int
 deriving DecidableEq
structure ax where
 kind:Int
 out:Int
 size:Int
 step:Int
 mult:Int
 shift:Int
 zero:Int
 weights:List Int
 mG:List Int
 deriving DecidableEq
structure Model where
 inp:Shape
 aB:List ax
 deriving DecidableEq
structure Job where
 model:Model
 at_:Int
 act:av
 iF:Int
 deriving DecidableEq
structure Task where
 id:Int
 aq:List Int
 at_:Int
 due:Int
 born:Int
 deriving DecidableEq
structure aj where
 now:Int
 ag:Int
 age:Int
 tasks:List Task
 run:Int
 left:Int
 turns:Int
 next:Int
 deriving DecidableEq
structure Request where
 id:Int
 model:Int
 job:Job
 due:Int
 deriving DecidableEq
structure Runtime where
 sched:aj
 ao:List Model
 ak:List Bool
 ae:List Request
 deriving DecidableEq
structure Step where
 kind:Int
 a:Int
 b:Int
 data:List Int
 input:av
 deriving DecidableEq
structure Event where
 kind:Int
 a:Int
 b:Int
 out:av
 deriving DecidableEq
structure Entry where
 id:Int
 model:Model
 input:av
 at_:Int
 due:Int
 end_:Int
 done:Bool
 deriving DecidableEq
structure Nm where
 id:Int
 model:Int
 due:Int
 deriving DecidableEq
structure bX where
 id:Int
 aq:Nat
 at_:Int
 due:Int
 born:Int
 deriving DecidableEq
structure rO where
 id:Int
 model:Int
 mh:Int
 mw:Int
 mc:Int
 aB:Nat
 jat:Int
 ah:Int
 aw:Int
 ac:Int
 data:Nat
 iF:Int
 due:Int
 deriving DecidableEq
structure Reader where
 b:List Int
 at_:Int
 bad:Bool
 deriving DecidableEq
inductive S where
 |shape|da|aQ|model|task|request|step|event|entry|Lv|cF|gZ
 deriving DecidableEq
inductive Ty where
 |int (k:IntKind)|bool|str|sl (t:Ty)|st (s:S)|tok
 |ho (s:S)|hl (t:Ty)
 deriving DecidableEq
def S.E:S->Type
 |.shape=>Shape|.da=>av|.aQ=>ax|.model=>Model|.task=>Task|.request=>Request
 |.step=>Step|.event=>Event|.entry=>Entry|.Lv=>Nm|.cF=>bX|.gZ=>rO
def Ty.El:Ty->Type
 |.int _=>Int
 |.bool=>Bool
 |.str=>List UInt8
 |.sl t=>List t.El
 |.st s=>s.E
 |.tok=>Nat
 |.ho s=>Option s.E
 |.hl t=>Option (List t.El)
inductive R where
 |int (k:IntKind) (n:Int)
 |bool (b:Bool)
 |str (l:List UInt8)
 |sl (t:Ty) (xs:List t.El)
 |tok (n:Nat)
 |lz
abbrev R.i (n:Int):R:=.int .i64 n
abbrev R.ints (xs:List Int):R:=.sl (.int .i64) xs
abbrev R.bytes (xs:List Int):R:=.sl (.int .u8) xs
def Jj (x:Shape):List R:=[.i x.h,.i x.w,.i x.c]
def Jk (x:av):List R:=[.i x.sh.h,.i x.sh.w,.i x.sh.c,.ints x.data]
def M1 (x:ax):List R:=[.i x.kind,.i x.out,.i x.size,.i x.step,.i x.mult,.i x.shift,.i x.zero,.ints x.weights,.ints x.mG]
def M3 (x:Model):List R:=[.i x.inp.h,.i x.inp.w,.i x.inp.c,.sl (.st .aQ) x.aB]
def LC (x:Task):List R:=[.i x.id,.ints x.aq,.i x.at_,.i x.due,.i x.born]
def Gw (x:Request):List R:=[.i x.id,.i x.model,.i x.job.model.inp.h,.i x.job.model.inp.w,.i x.job.model.inp.c,.sl (.st .aQ) x.job.model.aB,.i x.job.at_,.i x.job.act.sh.h,.i x.job.act.sh.w,.i x.job.act.sh.c,.ints x.job.act.data,.i x.job.iF,.i x.due]
def LD (x:Step):List R:=[.i x.kind,.i x.a,.i x.b,.bytes x.data,.i x.input.sh.h,.i x.input.sh.w,.i x.input.sh.c,.ints x.input.data]
def M4 (x:Event):List R:=[.i x.kind,.i x.a,.i x.b,.i x.out.sh.h,.i x.out.sh.w,.i x.out.sh.c,.ints x.out.data]
def M5 (x:Entry):List R:=[.i x.id,.i x.model.inp.h,.i x.model.inp.w,.i x.model.inp.c,.sl (.st .aQ) x.model.aB,.i x.input.sh.h,.i x.input.sh.w,.i x.input.sh.c,.ints x.input.data,.i x.at_,.i x.due,.i x.end_,.bool x.done]
def Nn (x:Nm):List R:=[.i x.id,.i x.model,.i x.due]
def zx (x:bX):List R:=[.i x.id,.tok x.aq,.i x.at_,.i x.due,.i x.born]
def wo (x:rO):List R:=[.i x.id,.i x.model,.i x.mh,.i x.mw,.i x.mc,.tok x.aB,.i x.jat,.i x.ah,.i x.aw,.i x.ac,.tok x.data,.i x.iF,.i x.due]
def S.sz:S->Nat
 |.shape=>3|.da=>4|.aQ=>9|.model=>4|.task=>5|.request=>13|.step=>8|.event=>7|.entry=>13|.Lv=>3|.cF=>5|.gZ=>13
def S.cells:(s:S)->s.E->List R
 |.shape=>Jj|.da=>Jk|.aQ=>M1|.model=>M3|.task=>LC|.request=>Gw
 |.step=>LD|.event=>M4|.entry=>M5|.Lv=>Nn|.cF=>zx|.gZ=>wo
def Ty.sz:Ty->Nat
 |.st s=>s.sz
 |.ho s=>s.sz
 |_=>1
def Ty.cells:(t:Ty)->t.El->List R
 |.int k,n=>[.int k n]
 |.bool,b=>[.bool b]
 |.str,l=>[.str l]
 |.sl t,xs=>[.sl t xs]
 |.st s,x=>s.cells x
 |.tok,n=>[.tok n]
 |.ho s,x=>match x with
  |some x=>s.cells x
  |none=>List.replicate s.sz .lz
 |.hl t,x=>match x with
  |some xs=>[.sl t xs]
  |none=>[.lz]
theorem S.ch (s:S) (x:s.E):(s.cells x).length=s.sz:=by cases s<;>rfl
theorem Ty.ch (t:Ty) (x:t.El):(t.cells x).length=t.sz:=by
 cases t with
 |st s=>exact s.ch x
 |ho s=>cases x with
  |none=>simp[Ty.cells,Ty.sz]
  |some x=>exact s.ch x
 |hl t=>cases x<;>rfl
 |_=>rfl
theorem Ty.fY (t:Ty):0<t.sz:=by
 cases t with
 |st s=>cases s<;>simp[Ty.sz,S.sz]
 |ho s=>cases s<;>simp[Ty.sz,S.sz]
 |_=>simp[Ty.sz]
def R.asI:R->Option Int
 |.int .i64 n=>some n
 |_=>none
def R.asB:R->Option Bool
 |.bool b=>some b
 |_=>none
def R.asL (t:Ty):R->Option (List t.El)
 |.sl t' xs=>if h:t'=t then some (h▸xs)else none
 |_=>none
def R.asT:R->Option Nat
 |.tok n=>some n
 |_=>none
theorem R.AQ {r:R} {n:Nat} (h:r.asT=some n):r=.tok n:=by
 unfold R.asT at h;split at h
 ·cases h;rfl
 ·cases h
theorem R.aA {r:R} {n:Int} (h:r.asI=some n):r=.int .i64 n:=by
 unfold R.asI at h;split at h
 ·cases h;rfl
 ·cases h
theorem R.LF {r:R} {n:Bool} (h:r.asB=some n):r=.bool n:=by
 unfold R.asB at h;split at h
 ·cases h;rfl
 ·cases h
theorem R.fC {t:Ty} {r:R} {n:List t.El} (h:r.asL t=some n):r=.sl t n:=by
 unfold R.asL at h;split at h
 ·split at h
  ·rename_i e;subst e;cases h;rfl
  ·cases h
 ·cases h
def CE:List R->Option Shape
 |[a',b',c']=>(a'.asI).bind λa=>(b'.asI).bind λb=>(c'.asI).bind λc=>some ⟨a,b,c⟩
 |_=>none
theorem EI (cs:List R) (x:Shape) (h:CE cs=some x):Jj x=cs:=by
 unfold CE at h;split at h
 ·simp only[An]at h;obtain⟨a,ha,b,hb,c,hc,h⟩:=h;cases h;rw[R.aA ha,R.aA hb,R.aA hc];rfl
 ·cases h
def wq:List R->Option av
 |[a',b',c',d']=>(a'.asI).bind λa=>(b'.asI).bind λb=>(c'.asI).bind λc=>(d'.asL (.int .i64)).bind λd=>some ⟨⟨a,b,c⟩,d⟩
 |_=>none
theorem CF (cs:List R) (x:av) (h:wq cs=some x):Jk x=cs:=by
 unfold wq at h;split at h
 ·simp only[An]at h;obtain⟨a,ha,b,hb,c,hc,d,hd,h⟩:=h;cases h;rw[R.aA ha,R.aA hb,R.aA hc,R.fC hd];rfl
 ·cases h
def CG:List R->Option ax
 |[a',b',c',d',e',f',g',h',i']=>(a'.asI).bind λa=>(b'.asI).bind λb=>(c'.asI).bind λc=>(d'.asI).bind λd=>(e'.asI).bind λe=>(f'.asI).bind λf=>(g'.asI).bind λg=>(h'.asL (.int .i64)).bind λh=>(i'.asL (.int .i64)).bind λi=>some ⟨a,b,c,d,e,f,g,h,i⟩
 |_=>none
theorem EJ (cs:List R) (x:ax) (h:CG cs=some x):M1 x=cs:=by
 unfold CG at h;split at h
 ·simp only[An]at h;obtain⟨a,ha,b,hb,c,hc,d,hd,e,he,f,hf,g,hg,h,hh,i,hi,h⟩:=h;cases h;rw[R.aA ha,R.aA hb,R.aA hc,R.aA hd,R.aA he,R.aA hf,R.aA hg,R.fC hh,R.fC hi];rfl
 ·cases h
def CH:List R->Option Model
 |[a',b',c',d']=>(a'.asI).bind λa=>(b'.asI).bind λb=>(c'.asI).bind λc=>(d'.asL (.st .aQ)).bind λd=>some ⟨⟨a,b,c⟩,d⟩
 |_=>none
theorem EK (cs:List R) (x:Model) (h:CH cs=some x):M3 x=cs:=by
 unfold CH at h;split at h
 ·simp only[An]at h;obtain⟨a,ha,b,hb,c,hc,d,hd,h⟩:=h;cases h;rw[R.aA ha,R.aA hb,R.aA hc,R.fC hd];rfl
 ·cases h
def Jl:List R->Option Task
 |[a',b',c',d',e']=>(a'.asI).bind λa=>(b'.asL (.int .i64)).bind λb=>(c'.asI).bind λc=>(d'.asI).bind λd=>(e'.asI).bind λe=>some ⟨a,b,c,d,e⟩
 |_=>none
theorem HI (cs:List R) (x:Task) (h:Jl cs=some x):LC x=cs:=by
 unfold Jl at h;split at h
 ·simp only[An]at h;obtain⟨a,ha,b,hb,c,hc,d,hd,e,he,h⟩:=h;cases h;rw[R.aA ha,R.fC hb,R.aA hc,R.aA hd,R.aA he];rfl
 ·cases h
def rP:List R->Option Request
 |[a',b',c',d',e',f',g',h',i',j',k',l',m']=>(a'.asI).bind λa=>(b'.asI).bind λb=>(c'.asI).bind λc=>(d'.asI).bind λd=>(e'.asI).bind λe=>(f'.asL (.st .aQ)).bind λf=>(g'.asI).bind λg=>(h'.asI).bind λh=>(i'.asI).bind λi=>(j'.asI).bind λj=>(k'.asL (.int .i64)).bind λk=>(l'.asI).bind λl=>(m'.asI).bind λm=>some ⟨a,b,⟨⟨⟨c,d,e⟩,f⟩,g,⟨⟨h,i,j⟩,k⟩,l⟩,m⟩
 |_=>none
theorem AR (cs:List R) (x:Request) (h:rP cs=some x):Gw x=cs:=by
 unfold rP at h;split at h
 ·simp only[An]at h;obtain⟨a,ha,b,hb,c,hc,d,hd,e,he,f,hf,g,hg,h,hh,i,hi,j,hj,k,hk,l,hl,m,hm,h⟩:=h;cases h;rw[R.aA ha,R.aA hb,R.aA hc,R.aA hd,R.aA he,R.fC hf,R.aA hg,R.aA hh,R.aA hi,R.aA hj,R.fC hk,R.aA hl,R.aA hm];rfl
 ·cases h
def Jm:List R->Option Step
 |[a',b',c',d',e',f',g',h']=>(a'.asI).bind λa=>(b'.asI).bind λb=>(c'.asI).bind λc=>(d'.asL (.int .u8)).bind λd=>(e'.asI).bind λe=>(f'.asI).bind λf=>(g'.asI).bind λg=>(h'.asL (.int .i64)).bind λh=>some ⟨a,b,c,d,⟨⟨e,f,g⟩,h⟩⟩
 |_=>none
theorem HJ (cs:List R) (x:Step) (h:Jm cs=some x):LD x=cs:=by
 unfold Jm at h;split at h
 ·simp only[An]at h;obtain⟨a,ha,b,hb,c,hc,d,hd,e,he,f,hf,g,hg,h,hh,h⟩:=h;cases h;rw[R.aA ha,R.aA hb,R.aA hc,R.fC hd,R.aA he,R.aA hf,R.aA hg,R.fC hh];rfl
 ·cases h
def CI:List R->Option Event
 |[a',b',c',d',e',f',g']=>(a'.asI).bind λa=>(b'.asI).bind λb=>(c'.asI).bind λc=>(d'.asI).bind λd=>(e'.asI).bind λe=>(f'.asI).bind λf=>(g'.asL (.int .i64)).bind λg=>some ⟨a,b,c,⟨⟨d,e,f⟩,g⟩⟩
 |_=>none
theorem EL (cs:List R) (x:Event) (h:CI cs=some x):M4 x=cs:=by
 unfold CI at h;split at h
 ·simp only[An]at h;obtain⟨a,ha,b,hb,c,hc,d,hd,e,he,f,hf,g,hg,h⟩:=h;cases h;rw[R.aA ha,R.aA hb,R.aA hc,R.aA hd,R.aA he,R.aA hf,R.fC hg];rfl
 ·cases h
def CJ:List R->Option Entry
 |[a',b',c',d',e',f',g',h',i',j',k',l',m']=>(a'.asI).bind λa=>(b'.asI).bind λb=>(c'.asI).bind λc=>(d'.asI).bind λd=>(e'.asL (.st .aQ)).bind λe=>(f'.asI).bind λf=>(g'.asI).bind λg=>(h'.asI).bind λh=>(i'.asL (.int .i64)).bind λi=>(j'.asI).bind λj=>(k'.asI).bind λk=>(l'.asI).bind λl=>(m'.asB).bind λm=>some ⟨a,⟨⟨b,c,d⟩,e⟩,⟨⟨f,g,h⟩,i⟩,j,k,l,m⟩
 |_=>none
theorem EM (cs:List R) (x:Entry) (h:CJ cs=some x):M5 x=cs:=by
 unfold CJ at h;split at h
 ·simp only[An]at h;obtain⟨a,ha,b,hb,c,hc,d,hd,e,he,f,hf,g,hg,h,hh,i,hi,j,hj,k,hk,l,hl,m,hm,h⟩:=h;cases h;rw[R.aA ha,R.aA hb,R.aA hc,R.aA hd,R.fC he,R.aA hf,R.aA hg,R.aA hh,R.fC hi,R.aA hj,R.aA hk,R.aA hl,R.LF hm];rfl
 ·cases h
def Jn:List R->Option Nm
 |[a',b',c']=>(a'.asI).bind λa=>(b'.asI).bind λb=>(c'.asI).bind λc=>some ⟨a,b,c⟩
 |_=>none
theorem HK (cs:List R) (x:Nm) (h:Jn cs=some x):Nn x=cs:=by
 unfold Jn at h;split at h
 ·simp only[An]at h;obtain⟨a,ha,b,hb,c,hc,h⟩:=h;cases h;rw[R.aA ha,R.aA hb,R.aA hc];rfl
 ·cases h
def Gx:List R->Option bX
 |[a',b',c',d',e']=>(a'.asI).bind λa=>(b'.asT).bind λb=>(c'.asI).bind λc=>(d'.asI).bind λd=>(e'.asI).bind λe=>some ⟨a,b,c,d,e⟩
 |_=>none
theorem EN (cs:List R) (x:bX) (hq:Gx cs=some x):zx x=cs:=by
 unfold Gx at hq;split at hq
 ·simp only[An]at hq;obtain⟨a,ha,b,hb,c,hc,d,hd,e,he,hq⟩:=hq;cases hq;rw[R.aA ha,R.AQ hb,R.aA hc,R.aA hd,R.aA he];rfl
 ·cases hq
def rQ:List R->Option rO
 |[a',b',c',d',e',f',g',h',i',j',k',l',m']=>(a'.asI).bind λa=>(b'.asI).bind λb=>(c'.asI).bind λc=>(d'.asI).bind λd=>(e'.asI).bind λe=>(f'.asT).bind λf=>(g'.asI).bind λg=>(h'.asI).bind λh=>(i'.asI).bind λi=>(j'.asI).bind λj=>(k'.asT).bind λk=>(l'.asI).bind λl=>(m'.asI).bind λm=>some ⟨a,b,c,d,e,f,g,h,i,j,k,l,m⟩
 |_=>none
theorem zb (cs:List R) (x:rO) (hq:rQ cs=some x):wo x=cs:=by
 unfold rQ at hq;split at hq
 ·simp only[An]at hq;obtain⟨a,ha,b,hb,c,hc,d,hd,e,he,f,hf,g,hg,h0,hh,i,hi,j,hj,k,hk,l,hl,m,hm,hq⟩:=hq;cases hq;rw[R.aA ha,R.aA hb,R.aA hc,R.aA hd,R.aA he,R.AQ hf,R.aA hg,R.aA hh,R.aA hi,R.aA hj,R.AQ hk,R.aA hl,R.aA hm];rfl
 ·cases hq
def S.eo:(s:S)->List R->Option s.E
 |.shape=>CE
 |.da=>wq
 |.aQ=>CG
 |.model=>CH
 |.task=>Jl
 |.request=>rP
 |.step=>Jm
 |.event=>CI
 |.entry=>CJ
 |.Lv=>Jn
 |.cF=>Gx
 |.gZ=>rQ
def Ty.uR:(t:Ty)->R->Option t.El
 |.int k,.int k' n=>if k'=k then some n else none
 |.bool,.bool b=>some b
 |.str,.str l=>some l
 |.sl t,.sl t' xs=>if h:t'=t then some (h▸xs)else none
 |.tok,.tok n=>some n
 |.hl t,.sl t' xs=>if h:t'=t then some (some (h▸xs))else none
 |_,_=>none
def Ty.eo:(t:Ty)->List R->Option t.El
 |.st s,cs=>s.eo cs
 |.ho s,cs=>(s.eo cs).bind λx=>some (some x)
 |t,[r]=>t.uR r
 |_,_=>none
theorem Ty.EO (t:Ty) (r:R) (x:t.El) (h:t.uR r=some x):t.cells x=[r]:=by
 cases t with
 |st s=>cases r<;>exact nomatch h
 |int k=>
  cases r with
  |int k' n=>
   replace h:(if k'=k then some n else none)=some x:=h
   split at h
   ·rename_i e;subst e;cases h;rfl
   ·cases h
  |_=>exact nomatch h
 |bool=>
  cases r with
  |bool b=>cases h;rfl
  |_=>exact nomatch h
 |str=>
  cases r with
  |str b=>cases h;rfl
  |_=>exact nomatch h
 |sl t=>
  cases r with
  |sl t' xs=>
   replace h:(if h:t'=t then some (h▸xs)else none)=some x:=h
   split at h
   ·rename_i e;subst e;cases h;rfl
   ·cases h
  |_=>exact nomatch h
 |tok=>
  cases r with
  |tok n=>cases h;rfl
  |_=>exact nomatch h
 |ho s=>cases r<;>exact nomatch h
 |hl t=>
  cases r with
  |sl t' xs=>
   replace h:(if h:t'=t then some (some (h▸xs))else none)=some x:=h
   split at h
   ·rename_i e;subst e;cases h;rfl
   ·cases h
  |_=>exact nomatch h
theorem S.cq (s:S) (cs:List R) (x:s.E) (h:s.eo cs=some x):s.cells x=cs:=by
 cases s
 ·exact EI cs x h
 ·exact CF cs x h
 ·exact EJ cs x h
 ·exact EK cs x h
 ·exact HI cs x h
 ·exact AR cs x h
 ·exact HJ cs x h
 ·exact EL cs x h
 ·exact EM cs x h
 ·exact HK cs x h
 ·exact EN cs x h
 ·exact zb cs x h
theorem Ty.cq (t:Ty) (cs:List R) (x:t.El) (h:t.eo cs=some x):t.cells x=cs:=by
 cases t with
 |st s=>exact S.cq s cs x h
 |ho s=>
  replace h:(s.eo cs).bind (λx=>some (some x))=some x:=h
  obtain⟨y,hy,e⟩:=An.1 h;cases e
  exact S.cq s cs y hy
 |_=>
  match cs,h with
  |[r],h=>exact Ty.EO _ r x h
end
section
inductive SV where
 |r (d:List Nat) (x:R)
 |cY
 |oG
 |own (i:Nat)
 |sub (i off len:Nat)
 |bsl (i n:Nat)
 |ptr (i idx off:Nat)
 |inn (i x c:Nat)
 |j3 (d:List Nat) (cs:List R)
 |agg (cs:List SV)
 |tup (vs:List SV)
 |fn (f:Fn) (first cap:List SV)
 |undef
abbrev SV.i (n:Int):SV:=.r [] (.int .i64 n)
abbrev SV.b (b:Bool):SV:=.r [] (.bool b)
inductive Blk where
 |box (cs:List SV)
 |arr (sh:Option (List Nat)) (t:Ty) (xs:List t.El)
abbrev aI:=List (Nat× Blk)
structure St where
 bI:List (Nat× SV)
 heap:aI
 nid:Nat
 n:Nat
 gh:List (Option Nat):=[]
def look {α:Type}:List (Nat× α)->Nat->Option α
 |[],_=>none
 |(k,v)::l,n=>cond (Nat.beq k n) (some v) (look l n)
def put {α:Type}:List (Nat× α)->Nat->α->List (Nat× α)
 |[],n,v=>[(n,v)]
 |(k,u)::l,n,v=>cond (Nat.beq k n) ((k,v)::l) ((k,u)::put l n v)
def idx {α:Type} (xs:List α) (i:Int):Option α:=cond (decide (0<=i)) xs[i.toNat]? none
def mem (i:Nat):List Nat->Bool
 |[]=>false
 |k::l=>cond (Nat.beq k i) true (mem i l)
def hit (T:List Nat):List Nat->Bool
 |[]=>false
 |k::l=>cond (mem k T) true (hit T l)
abbrev Kil:=List Nat× List Nat
mutual
def SV.aO (T:Kil):SV->SV
 |.r d x=>cond (hit T.2 d) .undef (.r d x)
 |.own j=>cond (mem j T.1) .undef (.own j)
 |.sub j o n=>cond (mem j T.1) .undef (.sub j o n)
 |.bsl j n=>cond (mem j T.1) .undef (.bsl j n)
 |.ptr j x o=>cond (mem j T.1) .undef (.ptr j x o)
 |.inn j x c=>cond (mem j T.1||mem j T.2) .undef (.inn j x c)
 |.j3 d cs=>cond (hit T.2 d) .undef (.j3 d cs)
 |.agg cs=>.agg (gQ T cs)
 |.tup cs=>.tup (gQ T cs)
 |.fn f a b=>.fn f (gQ T a) (gQ T b)
 |.cY=>.cY
 |.oG=>.oG
 |.undef=>.undef
def gQ (T:Kil):List SV->List SV
 |[]=>[]
 |v::l=>v.aO T::gQ T l
end
def Blk.aO (T:Kil):Blk->Option Blk
 |.box cs=>some (.box (gQ T cs))
 |.arr none t xs=>some (.arr none t xs)
 |.arr (some d) t xs=>cond (hit T.2 d) none (some (.arr (some d) t xs))
def wu (T:Kil):aI->Option aI
 |[]=>some []
 |(k,b)::l=>cond (mem k T.1) (wu T l) ((b.aO T).bind λb=>(wu T l).bind λl=>some ((k,b)::l))
def Gy (T:Kil):List (Nat× SV)->List (Nat× SV)
 |[]=>[]
 |(k,v)::l=>(k,v.aO T)::Gy T l
def hJ (T:Kil) (h:aI):Option aI:=
 match T.2 with
 |[]=>some h
 |_=>wu T h
def nq (T:Kil) (s:List (Nat× SV)):List (Nat× SV):=
 match T.2 with
 |[]=>s
 |_=>Gy T s
def SV.list (h:aI) (t:Ty):SV->Option (List Nat× List t.El)
 |.r d x=>(x.asL t).bind λxs=>some (d,xs)
 |.cY=>some ([],[])
 |.own i=>match look h i with
  |some (.arr sh t' xs)=>if e:t'=t then some (i::sh.getD [],e▸xs)else none
  |_=>none
 |.sub i o n=>match look h i with
  |some (.arr sh t' xs)=>if e:t'=t then some (i::sh.getD [],((e▸xs).drop o).take n)else none
  |_=>none
 |_=>none
def SV.asInt (k:IntKind):SV->Option Int
 |.r _ (.int k' n)=>cond (decide (k'=k)) (some n) none
 |_=>none
def SV.asI:SV->Option Int
 |.r _ (.int _ n)=>some n
 |_=>none
def SV.asB:SV->Option Bool
 |.r _ (.bool b)=>some b
 |_=>none
def SV.asR (h:aI) (t:Ty) (v:SV):Option (List Nat× R):=
 match t with
 |.sl t'=>(v.list h t').bind λp=>some (p.1,.sl t' p.2)
 |.st _=>none
 |.tok=>match v with
  |.r d (.tok n)=>some (d,.tok n)
  |.cY=>some ([],.tok 0)
  |_=>none
 |_=>match v with
  |.r d x=>some (d,x)
  |_=>none
def S.tys:S->List Ty
 |.shape=>[.int .i64,.int .i64,.int .i64]
 |.da=>[.int .i64,.int .i64,.int .i64,.sl (.int .i64)]
 |.aQ=>[.int .i64,.int .i64,.int .i64,.int .i64,.int .i64,.int .i64,.int .i64,.sl (.int .i64),.sl (.int .i64)]
 |.model=>[.int .i64,.int .i64,.int .i64,.sl (.st .aQ)]
 |.task=>[.int .i64,.sl (.int .i64),.int .i64,.int .i64,.int .i64]
 |.request=>[.int .i64,.int .i64,.int .i64,.int .i64,.int .i64,.sl (.st .aQ),.int .i64,.int .i64,.int .i64,.int .i64,.sl (.int .i64),.int .i64,.int .i64]
 |.step=>[.int .i64,.int .i64,.int .i64,.sl (.int .u8),.int .i64,.int .i64,.int .i64,.sl (.int .i64)]
 |.event=>[.int .i64,.int .i64,.int .i64,.int .i64,.int .i64,.int .i64,.sl (.int .i64)]
 |.entry=>[.int .i64,.int .i64,.int .i64,.int .i64,.sl (.st .aQ),.int .i64,.int .i64,.int .i64,.sl (.int .i64),.int .i64,.int .i64,.int .i64,.bool]
 |.Lv=>[.int .i64,.int .i64,.int .i64]
 |.cF=>[.int .i64,.tok,.int .i64,.int .i64,.int .i64]
 |.gZ=>[.int .i64,.int .i64,.int .i64,.int .i64,.int .i64,.tok,.int .i64,.int .i64,.int .i64,.int .i64,.tok,.int .i64,.int .i64]
def Ty.tys:Ty->List Ty
 |.st s=>s.tys
 |.ho s=>s.tys
 |.hl t=>[.sl t]
 |t=>[t]
def Jc (h:aI):List Ty->List SV->Option (List Nat× List R)
 |[],[]=>some ([],[])
 |t::ts,v::vs=>(v.asR h t).bind λp=>(Jc h ts vs).bind λq=>some (p.1++q.1,p.2::q.2)
 |_,_=>none
def PB (h:aI) (t:Ty) (vs:List SV):Option (List Nat× t.El):=
 (Jc h t.tys vs).bind λp=>(t.eo p.2).bind λx=>some (p.1,x)
def SV.cells:SV->Option (List SV)
 |.agg cs=>some cs
 |.tup _=>none
 |.undef=>none
 |v=>some [v]
mutual
def SV.ids:SV->List Nat
 |.own i=>[i]
 |.sub i _ _=>[i]
 |.bsl i _=>[i]
 |.ptr i _ _=>[i]
 |.agg cs=>HL cs
 |.tup cs=>HL cs
 |.fn _ a b=>HL a++HL b
 |_=>[]
def HL:List SV->List Nat
 |[]=>[]
 |v::l=>v.ids++HL l
end
def ot:List Nat->List Nat->List Nat
 |acc,[]=>acc
 |acc,i::l=>cond (mem i acc) (ot acc l) (ot (acc++[i]) l)
def M6 (h:aI):List Nat->List Nat
 |[]=>[]
 |i::l=>(match look h i with
  |some (.box cs)=>HL cs
  |_=>[])++M6 h l
def reach (h:aI):Nat->List Nat->List Nat
 |0,L=>L
 |n+1,L=>reach h n (ot L (M6 h L))
def tC:Value->Option SV
 |.bool b=>some (.b b)
 |.int k n=>some (.r [] (.int k n))
 |.string s=>some (.r [] (.str s.data.toList))
 |.slice none 0 0=>some .cY
 |.pointer none=>some .oG
 |_=>none
def zy:List Value->Option (List SV)
 |[]=>some []
 |v::l=>(tC v).bind λx=>(zy l).bind λxs=>some (x::xs)
def Gz:Value->Option SV
 |.agg cs=>(zy cs.toList).bind λl=>some (.agg l)
 |v=>tC v
def opd (bI:List (Nat× SV)):Operand->Option SV
 |.tmp t=>look bI t
 |.const v=>Gz v
 |.func f=>some (.fn (.func f) [] [])
 |.global _=>none
def qZ (bI:List (Nat× SV)):List Operand->Option (List SV)
 |[]=>some []
 |x::l=>(opd bI x).bind λv=>(qZ bI l).bind λvs=>some (v::vs)
end
section
abbrev TT:=TypeId->Option Ty
def aU:Nat:=2^38
def wv (P:Program) (T:TypeId):Bool:=
 match P.underlying T with
 |some (.struct _)=>true
 |some (.array _ _)=>true
 |_=>false
def lA (P:Program) (T:TypeId):Option TypeId:=
 match P.underlying T with
 |some (.slice e)=>some e
 |_=>none
def tD (P:Program) (T:TypeId) (f:Nat):Option Field:=
 match P.underlying T with
 |some (.struct fs)=>(fs[f]?).bind λf=>(P.info? f.type).bind λi=>cond (Nat.beq i.size 0) none (some f)
 |_=>none
def iG (P:Program) (T:TypeId):Option Nat:=(P.info? T).bind λi=>some i.size
def rR (P:Program):List Field->Option (List (Nat× Nat))
 |[]=>some []
 |f::fs=>(iG P f.type).bind λs=>(rR P fs).bind λl=>some ((f.offset,s)::l)
def takeN {α:Type} (n:Nat) (l:List α):Option (List α):=cond (Nat.ble n l.length) (some (l.take n)) none
def hY (P:Program) (T:TypeId) (cs:List SV):Option SV:=
  (P.underlying T).bind λ_=>(P.info? T).bind λi=>(takeN i.size cs).bind λl=>
    cond (wv P T) (some (.agg l)) (match l with|[v]=>some v|_=>none)
def mkR (d:List Nat):R->SV
 |.sl t xs=>.r d (.sl t xs)
 |x=>.r [] x
def Jo (i:Nat):Option (List Nat)->List Nat
 |none=>[i]
 |some d=>d
def kU (h:aI):SV->Option (List SV)
 |.j3 d cs=>some (cs.map (mkR d))
 |.ptr i x o=>match look h i with
  |some (.box cs)=>some (cs.drop o)
  |some (.arr sh t xs)=>(xs[x]?).bind λe=>some (((t.cells e).map (mkR (Jo i sh))).drop o)
  |_=>none
 |_=>none
def fZ (P:Program) (T:TypeId):Option (List SV):=
 (P.info? T).bind λi=>i.zero.bind λz=>(Gz z).bind λv=>v.cells
def oH (place:Nat->Option (Nat× Nat)):List SV->List (Nat× SV)->Option (List SV)
 |cs,[]=>some cs
 |cs,(k,v)::l=>(place k).bind λp=>v.cells.bind λvs=>
   cond (Nat.beq vs.length p.2) (cond (Nat.ble (p.1+vs.length) cs.length) (oH place (cs.take p.1++vs++cs.drop (p.1+vs.length)) l) none) none
def OD (op:BinOp) (k:IntKind) (a b:Int):Option R:=
 match op with
 |.add=>some (.int k (k.wrap (a+b)))
 |.sub=>some (.int k (k.wrap (a-b)))
 |.mul=>some (.int k (k.wrap (a*b)))
 |.quo=>cond (decide (b=0)) none (some (.int k (k.wrap (a.tdiv b))))
 |.rem=>cond (decide (b=0)) none (some (.int k (a.tmod b)))
 |.and=>some (.int k (k.wrap (BitVec.ofInt k.bits a&&& BitVec.ofInt k.bits b).toNat))
 |.or=>some (.int k (k.wrap (BitVec.ofInt k.bits a||| BitVec.ofInt k.bits b).toNat))
 |.xor=>some (.int k (k.wrap (BitVec.ofInt k.bits a^^^ BitVec.ofInt k.bits b).toNat))
 |.eql=>some (.bool (a==b))
 |.neq=>some (.bool (a !=b))
 |.lss=>some (.bool (decide (a<b)))
 |.leq=>some (.bool (decide (a<=b)))
 |.gtr=>some (.bool (decide (a>b)))
 |.geq=>some (.bool (decide (a>=b)))
 |_=>none
def CK (op:BinOp) (k:IntKind) (a b:Int):Option R:=
  cond (decide (b<0)) none
    (match op with
     |.shl=>some (.int k (k.wrap (a*2^(min b.toNat k.bits))))
     |.shr=>some (.int k (a.fdiv (2^(min b.toNat k.bits))))
     |_=>none)
def OO (op:BinOp) (a b:List UInt8):Option R:=
 match op with
 |.add=>cond (decide (a.length+b.length<=aU)) (some (.str (a++b))) none
 |.eql=>some (.bool (a==b))
 |.neq=>some (.bool (!(a==b)))
 |.lss=>some (.bool (Op.bytesLess a b))
 |.leq=>some (.bool (Op.bytesLess a b||a==b))
 |.gtr=>some (.bool (!(Op.bytesLess a b||a==b)))
 |.geq=>some (.bool (!(Op.bytesLess a b)))
 |_=>none
def LG (P:Program) (xs ys:List SV):List Field->Option Bool
 |[]=>some true
 |f::fs=>cond (decide (f.name= "_")) none (match P.underlying f.type,xs[f.offset]?,ys[f.offset]? with
  |some (.int _),some (.r _ (.int k a)),some (.r _ (.int l b))=>cond (decide (k=l)) ((LG P xs ys fs).bind λt=>some (cond (a==b) t false)) none
  |_,_,_=>none)
def OP (P:Program) (T:TypeId) (xs ys:List SV):Option Bool:=
 cond (P.stoodInHeld T) none (cond (P.eqGuardType P.depth T) none (match P.underlying T with
  |some (.struct fs)=>LG P xs ys fs.toList
  |_=>none))
def Jp:BinOp->Bool
 |.shl|.shr=>true
 |_=>false
def isEq:BinOp->Option Bool
 |.eql=>some true
 |.neq=>some false
 |_=>none
def bin (P:Program) (T:TypeId) (op:BinOp) (x y:SV):Option SV:=
 match x,y with
 |.r _ (.int k a),.r _ (.int l b)=>cond (Jp op) ((CK op k a b).bind λr=>some (.r [] r)) (cond (decide (k=l)) ((OD op k a b).bind λr=>some (.r [] r)) none)
 |.r _ (.str a),.r _ (.str b)=>(OO op a b).bind λr=>some (.r [] r)
 |.r _ (.bool a),.r _ (.bool b)=>match P.underlying T with
  |some .bool=>(isEq op).bind λe=>some (.b (cond e (a==b) (!(a==b))))
  |_=>none
 |.agg a,.agg b=>(isEq op).bind λe=>(OP P T a b).bind λt=>some (.b (cond e t (!t)))
 |_,_=>none
def un (op:UnOp) (x:SV):Option SV:=
 match op,x with
 |.neg,.r _ (.int k n)=>some (.r [] (.int k (k.wrap (0-n))))
 |.not,.r _ (.bool b)=>some (.b (!b))
 |_,_=>none
def lenOf (h:aI):SV->Option Nat
 |.r _ (.str l)=>some l.length
 |.r _ (.sl _ xs)=>some xs.length
 |.cY=>some 0
 |.own i=>match look h i with
  |some (.arr _ _ xs)=>some xs.length
  |_=>none
 |.sub _ _ n=>some n
 |.bsl _ n=>some n
 |_=>none
def PC (P:Program) (T:TypeId):SV->Bool
 |.r _ (.str _)=>match P.underlying T with
  |some .string=>true
  |_=>false
 |_=>match P.underlying T with
  |some (.slice _)=>true
  |_=>false
def bounds (n:Nat) (lo hi:Option SV):Option (Nat× Nat):=
  (match hi with
   |none=>some n
   |some v=>v.asI.bind λx=>cond (decide (0<=x/\x<=(n:Int))) (some x.toNat) none).bind λh=>
  (match lo with
   |none=>some 0
   |some v=>v.asI.bind λx=>cond (decide (0<=x/\x<=(h:Int))) (some x.toNat) none).bind λl=>some (l,h)
def slT (P:Program) (T:TypeId) (t:Ty):Bool:=
 match P.underlying T with
 |some (.slice e)=>match iG P e with
  |some n=>Nat.beq n t.sz
  |none=>false
 |_=>false
def GA (P:Program) (T:TypeId):Bool:=
 match P.underlying T with
 |some (.slice e)=>(iG P e).isSome
 |_=>false
def isStr (P:Program) (T:TypeId):Bool:=
 match P.underlying T with
 |some .string=>true
 |_=>false
def PN (n m:Nat):Option SV->Nat
 |none=>n
 |some _=>m
def iM (P:Program) (T:TypeId) (h:aI) (x:SV) (lo hi:Option SV):Option SV:=
 match x with
 |.r d (.str l)=>cond (isStr P T) ((bounds l.length lo hi).bind λb=>some (.r d (.str ((l.take b.2).drop b.1)))) none
 |.r d (.sl t xs)=>cond (slT P T t) ((bounds xs.length lo hi).bind λb=>some (.r d (.sl t ((xs.take b.2).drop b.1)))) none
 |.cY=>cond (GA P T) ((bounds 0 lo hi).bind λ_=>some .cY) none
 |.own i=>match look h i with
  |some (.arr _ t xs)=>cond (slT P T t) ((bounds xs.length lo hi).bind λb=>some (.sub i b.1 (b.2-b.1))) none
  |_=>none
 |.sub i o n=>match look h i with
  |some (.arr _ t xs)=>cond (slT P T t) ((bounds (PN n (xs.length-o) hi) lo hi).bind λb=>some (.sub i (o+b.1) (b.2-b.1))) none
  |_=>none
 |_=>none
def slN (P:Program) (T:TypeId) (h:aI) (x:SV):Option Nat:=
 match x with
 |.r _ (.sl t xs)=>cond (slT P T t) (some xs.length) none
 |.own i=>match look h i with
  |some (.arr _ t xs)=>cond (slT P T t) (some xs.length) none
  |_=>none
 |_=>none
def vJ (P:Program) (T:TypeId) (h:aI) (x:SV) (lo:Option SV) (hi m:SV):Option SV:=
 (slN P T h x).bind λn=>m.asI.bind λz=>cond (decide (0<=z/\z<=(n:Int))) ((bounds z.toNat lo (some hi)).bind λ_=>some .undef) none
def bS (P:Program) (T:TypeId) (h:aI) (x:SV) (k:Int):Option SV:=
 match x with
 |.r d (.sl t xs)=>cond (slT P T t) ((idx xs k).bind λe=>some (.j3 d (t.cells e))) none
 |.own i=>match look h i with
  |some (.arr _ t xs)=>cond (slT P T t) (cond (decide (0<=k/\k<(xs.length:Int))) (some (.ptr i k.toNat 0)) none) none
  |_=>none
 |.sub i o n=>match look h i with
  |some (.arr _ t _)=>cond (slT P T t) (cond (decide (0<=k/\k<(n:Int))) (some (.ptr i (o+k.toNat) 0)) none) none
  |_=>none
 |.bsl i n=>(lA P T).bind λe=>(iG P e).bind λsz=>cond (decide (0<=k/\k<(n:Int))) (some (.ptr i 0 (k.toNat*sz))) none
 |_=>none
def Jq (P:Program) (src dst:TypeId) (x:SV):Option SV:=
 match P.underlying src,P.underlying dst,x with
 |some (.int _),some (.int k),.r _ (.int _ n)=>some (.r [] (.int k (k.wrap n)))
 |some .string,some .string,.r _ (.str l)=>some (.r [] (.str l))
 |_,_,_=>none
def uS (P:Program) (T:TypeId):Bool:=
 match lA P T with
 |some e=>match P.underlying e with
  |some (.int .u8)=>true
  |_=>false
 |none=>false
def bytesOf (l:List Int):List UInt8:=l.map λn=>UInt8.ofNat n.toNat
def Lw (bI:List (Nat× SV)):Option Operand->Option (Option SV)
 |none=>some none
 |some x=>(opd bI x).bind λv=>some (some v)
def qM (bI:List (Nat× SV)):List (Nat× Operand)->Option (List (Nat× SV))
 |[]=>some []
 |(k,x)::l=>(opd bI x).bind λv=>(qM bI l).bind λvs=>some ((k,v)::vs)
def gg (P:Program) (s:List (Nat× SV)) (h:aI) (op:Op):Option SV:=
 match op with
 |.move x|.assign x=>opd s x
 |.pick c a b=>(opd s c).bind λc=>c.asB.bind λc=>cond c (opd s a) (opd s b)
 |.build T parts=>
  match P.underlying T with
  |some (.struct fs)=>(rR P fs.toList).bind λpl=>(fZ P T).bind λz=>(qM s parts.toList).bind λps=>
   (oH (λk=>pl[k]?) z ps).bind λcs=>some (.agg cs)
  |_=>none
 |.load T a=>(opd s a).bind λa=>(kU h a).bind λcs=>hY P T cs
 |.nilCheck x=>(opd s x).bind λv=>match v with
  |.ptr i x o=>some (.ptr i x o)
  |.j3 d cs=>some (.j3 d cs)
  |_=>none
 |.binOp op T x y _=>(opd s x).bind λx=>(opd s y).bind λy=>bin P T op x y
 |.unOp op _ x=>(opd s x).bind λx=>un op x
 |.convert src dst x=>(opd s x).bind λx=>cond (uS P src&&isStr P dst) ((x.list h (.int .u8)).bind λp=>some (.r [] (.str (bytesOf p.2)))) (Jq P src dst x)
 |.makeFunc fn first cap=>(qZ s first.toList).bind λa=>(qZ s cap.toList).bind λb=>some (.fn fn a b)
 |.slice T x lo hi none=>(opd s x).bind λx=>(Lw s lo).bind λlo=>(Lw s hi).bind λhi=>iM P T h x lo hi
 |.slice T x lo (some hi) (some m)=>(opd s x).bind λx=>(Lw s lo).bind λlo=>(opd s hi).bind λhi=>(opd s m).bind λm=>vJ P T h x lo hi m
 |.fieldAddr T x f=>(opd s x).bind λx=>(tD P T f).bind λf=>match x with
  |.j3 d cs=>some (.j3 d (cs.drop f.offset))
  |.ptr i k o=>some (.ptr i k (o+f.offset))
  |_=>none
 |.field T x f=>(opd s x).bind λx=>(tD P T f).bind λf=>match x with
  |.agg cs=>hY P f.type (cs.drop f.offset)
  |_=>none
 |.indexAddr T x k=>(opd s x).bind λx=>(opd s k).bind λk=>k.asI.bind λk=>bS P T h x k
 |.index T x k=>(opd s x).bind λx=>(opd s k).bind λk=>k.asI.bind λk=>match x with
  |.r _ (.str l)=>cond (isStr P T) ((idx l k).bind λc=>some (.r [] (.int .u8 c.toNat))) none
  |_=>none
 |.extract x k=>(opd s x).bind λx=>match x with
  |.tup vs=>vs[k]?
  |_=>none
 |.call {callee:=.builtin .len,args,argTypes}=>(qZ s args.toList).bind λvs=>match vs,argTypes.toList with
  |[v],T::_=>cond (PC P T v) ((lenOf h v).bind λn=>some (.i n)) none
  |_,_=>none
 |.call {callee:=.builtin .cap,args,argTypes}=>(qZ s args.toList).bind λvs=>match vs,argTypes.toList with
  |[.cY],T::_=>cond (GA P T) (some (.i 0)) none
  |_,_=>none
 |.call {callee:=.builtin .min,args,.. }=>(qZ s args.toList).bind λvs=>match vs with
  |[.r _ (.int k a),.r _ (.int _ b)]=>some (.r [] (.int k (if b<a then b else a)))
  |[.r _ (.int k a),.r _ (.int _ b),.r _ (.int _ c)]=>some (.r [] (.int k (if c<(if b<a then b else a)then c else(if b<a then b else a))))
  |_=>none
 |.call {callee:=.builtin .max,args,.. }=>(qZ s args.toList).bind λvs=>match vs with
  |[.r _ (.int k a),.r _ (.int _ b)]=>some (.r [] (.int k (if b>a then b else a)))
  |_=>none
 |_=>none
def AU {α:Type} (h:aI) (v:SV) (K:List SV->Option α):Option α:=
 match v with
 |.j3 d cs=>K (cs.map (mkR d))
 |.ptr i x o=>match look h i with
  |some (.box cs)=>K (cs.drop o)
  |some (.arr sh t xs)=>(xs[x]?).bind λe=>K (((t.cells e).map (mkR (Jo i sh))).drop o)
  |_=>none
 |_=>none
def Np {α:Type} (op:BinOp) (k:IntKind) (a b:Int) (K:R->Option α):Option α:=
 match op with
 |.quo=>cond (decide (b=0)) none (K (.int k (k.wrap (a.tdiv b))))
 |.rem=>cond (decide (b=0)) none (K (.int k (a.tmod b)))
 |op=>(OD op k a b).bind K
def EP {α:Type} (op:BinOp) (k:IntKind) (a b:Int) (K:R->Option α):Option α:=
  cond (decide (b<0)) none
    (match op with
     |.shl=>K (.int k (k.wrap (a*2^(min b.toNat k.bits))))
     |.shr=>K (.int k (a.fdiv (2^(min b.toNat k.bits))))
     |_=>none)
def Nq {α:Type} (op:BinOp) (a b:List UInt8) (K:R->Option α):Option α:=
 match op with
 |.add=>cond (decide (a.length+b.length<=aU)) (K (.str (a++b))) none
 |op=>(OO op a b).bind K
def PO {α:Type} (P:Program) (T:TypeId) (op:BinOp) (x y:SV) (K:SV->Option α):Option α:=
 match x,y with
 |.r _ (.int k a),.r _ (.int l b)=>cond (Jp op) (EP op k a b λr=>K (.r [] r)) (cond (decide (k=l)) (Np op k a b λr=>K (.r [] r)) none)
 |.r _ (.str a),.r _ (.str b)=>Nq op a b λr=>K (.r [] r)
 |x,y=>(bin P T op x y).bind K
def oI {α:Type} (n:Nat) (lo hi:Option SV) (K:Nat->Nat->Option α):Option α:=
 let lower (h:Nat):Option α:=match lo with
  |none=>K 0 h
  |some v=>v.asI.bind λx=>cond (decide (0<=x/\x<=(h:Int))) (K x.toNat h) none
 match hi with
 |none=>lower n
 |some v=>v.asI.bind λx=>cond (decide (0<=x/\x<=(n:Int))) (lower x.toNat) none
def Jr {α:Type} (P:Program) (T:TypeId) (h:aI) (x:SV) (lo hi:Option SV) (K:SV->Option α):Option α:=
 match x with
 |.r d (.str l)=>cond (isStr P T) (oI l.length lo hi λa b=>K (.r d (.str ((l.take b).drop a)))) none
 |.r d (.sl t xs)=>cond (slT P T t) (oI xs.length lo hi λa b=>K (.r d (.sl t ((xs.take b).drop a)))) none
 |.cY=>cond (GA P T) (oI 0 lo hi λ_ _=>K .cY) none
 |.own i=>match look h i with
  |some (.arr _ t xs)=>cond (slT P T t) (oI xs.length lo hi λa b=>K (.sub i a (b-a))) none
  |_=>none
 |.sub i o n=>match look h i with
  |some (.arr _ t xs)=>cond (slT P T t) (oI (PN n (xs.length-o) hi) lo hi λa b=>K (.sub i (o+a) (b-a))) none
  |_=>none
 |_=>none
def tE {α:Type} (P:Program) (T:TypeId) (h:aI) (x:SV) (k:Int) (K:SV->Option α):Option α:=
 match x with
 |.r d (.sl t xs)=>cond (slT P T t) ((idx xs k).bind λe=>K (.j3 d (t.cells e))) none
 |.own i=>match look h i with
  |some (.arr _ t xs)=>cond (slT P T t) (cond (decide (0<=k/\k<(xs.length:Int))) (K (.ptr i k.toNat 0)) none) none
  |_=>none
 |.sub i o n=>match look h i with
  |some (.arr _ t _)=>cond (slT P T t) (cond (decide (0<=k/\k<(n:Int))) (K (.ptr i (o+k.toNat) 0)) none) none
  |_=>none
 |x=>(bS P T h x k).bind K
def CL {α:Type} (P:Program) (T:TypeId) (h:aI) (x:SV) (lo:Option SV) (hi m:SV) (K:SV->Option α):Option α:=
 (slN P T h x).bind λn=>m.asI.bind λz=>cond (decide (0<=z/\z<=(n:Int))) (oI z.toNat lo (some hi) λ_ _=>K .undef) none
def nr {α:Type} (P:Program) (s:List (Nat× SV)) (h:aI) (op:Op) (K:SV->Option α):Option α:=
 match op with
 |.load T a=>(opd s a).bind λa=>AU h a λcs=>(hY P T cs).bind K
 |.binOp op T x y _=>(opd s x).bind λx=>(opd s y).bind λy=>PO P T op x y K
 |.slice T x lo hi none=>(opd s x).bind λx=>(Lw s lo).bind λlo=>(Lw s hi).bind λhi=>Jr P T h x lo hi K
 |.slice T x lo (some hi) (some m)=>(opd s x).bind λx=>(Lw s lo).bind λlo=>(opd s hi).bind λhi=>(opd s m).bind λm=>CL P T h x lo hi m K
 |.indexAddr T x k=>(opd s x).bind λx=>(opd s k).bind λk=>k.asI.bind λk=>tE P T h x k K
 |.index T x k=>(opd s x).bind λx=>(opd s k).bind λk=>k.asI.bind λk=>match x with
  |.r _ (.str l)=>cond (isStr P T) ((idx l k).bind λc=>K (.r [] (.int .u8 c.toNat))) none
  |_=>none
 |op=>(gg P s h op).bind K
theorem dk {α β:Type} (b:Bool) (x y:Option α) (K:α->Option β):(cond b x y).bind K=cond b (x.bind K) (y.bind K):=by cases b<;>rfl
theorem ER {α:Type} (h:aI) (v:SV) (K:List SV->Option α):AU h v K=(kU h v).bind K:=by
 unfold AU kU;split
 ·rfl
 ·split
  ·rfl
  ·rw[QJ];rfl
  ·rfl
 ·rfl
theorem LH {α:Type} (op:BinOp) (k:IntKind) (a b:Int) (K:R->Option α):Np op k a b K=(OD op k a b).bind K:=by
 unfold Np;split
 ·show _=(cond _ none (some _)).bind K;rw[dk];rfl
 ·show _=(cond _ none (some _)).bind K;rw[dk];rfl
 ·rfl
theorem HM {α:Type} (op:BinOp) (k:IntKind) (a b:Int) (K:R->Option α):EP op k a b K=(CK op k a b).bind K:=by
 unfold EP CK;rw[dk];cases op<;>rfl
theorem LI {α:Type} (op:BinOp) (a b:List UInt8) (K:R->Option α):Nq op a b K=(OO op a b).bind K:=by
 unfold Nq;split
 ·show _=(cond _ (some _) none).bind K;rw[dk];rfl
 ·rfl
theorem Nr {α:Type} (P:Program) (T:TypeId) (op:BinOp) (x y:SV) (K:SV->Option α):PO P T op x y K=(bin P T op x y).bind K:=by
 unfold PO;split
 ·simp only[bin,dk,HM,LH,QJ,Qu,Q3]
 ·simp only[bin,LI,QJ,Qu]
 ·rfl
theorem kJ {α:Type} (n:Nat) (lo hi:Option SV) (K:Nat->Nat->Option α):oI n lo hi K=(bounds n lo hi).bind λb=>K b.1 b.2:=by
 unfold oI bounds;cases hi<;>cases lo<;>simp only[QJ,Qu,dk,Q3]
theorem Js {α:Type} (P:Program) (T:TypeId) (h:aI) (x:SV) (lo hi:Option SV) (K:SV->Option α):Jr P T h x lo hi K=(iM P T h x lo hi).bind K:=by
 unfold Jr iM;split
 ·simp only[dk,kJ,QJ,Qu,Q3]
 ·simp only[dk,kJ,QJ,Qu,Q3]
 ·simp only[dk,kJ,QJ,Qu,Q3]
 ·split
  ·simp only[dk,kJ,QJ,Qu,Q3]
  ·rfl
 ·split
  ·simp only[dk,kJ,QJ,Qu,Q3]
  ·rfl
 ·rfl
theorem AV {α:Type} (P:Program) (T:TypeId) (h:aI) (x:SV) (k:Int) (K:SV->Option α):tE P T h x k K=(bS P T h x k).bind K:=by
 unfold tE;split
 ·simp only[bS,dk,QJ,Qu,Q3]
 ·simp only[bS];split
  ·simp only[dk,Qu,Q3]
  ·rfl
 ·simp only[bS];split
  ·simp only[dk,Qu,Q3]
  ·rfl
 ·rfl
theorem ns {α:Type} (P:Program) (s:List (Nat× SV)) (h:aI) (op:Op) (K:SV->Option α):nr P s h op K=(gg P s h op).bind K:=by
 unfold nr;split
 ·simp only[gg,ER,QJ]
 ·simp only[gg,Nr,QJ]
 ·simp only[gg,Js,QJ]
 ·simp only[gg,CL,vJ,kJ,QJ,dk,Qu,Q3]
 ·simp only[gg,AV,QJ]
 ·simp only[gg,QJ]
  congr 1;funext x;congr 1;funext k;congr 1;funext k
  split
  ·simp only[dk,QJ,Qu,Q3]
  ·rfl
 ·rfl
structure CR where
 v:SV
 news:List Blk:=[]
 upd:aI:=[]
 gone:List Nat:=[]
 kV:List Nat:=[]
def CR.kil (c:CR):Kil:=(c.gone,c.gone++c.kV)
abbrev Out:=SV× List Blk
abbrev Orc:=(ρ:Type)->Nat->List SV->aI->(CR->Option ρ)->Option ρ
def OQ:Orc:=λ_ _ _ _ _=>none
def aN:Nat->List Blk->aI
 |_,[]=>[]
 |n,b::l=>(n,b)::aN (n+1) l
inductive Co where
 |qN (sh:Bool) (t:Ty)
 |ro (t:Ty)
 |drop
 |dep (j:Nat)
 |LJ (t j:Nat)
inductive ep where
 |slot (t:Nat)
 |cell (t j:Nat)
 |box (i j:Nat)
 |Lx (t j:Nat)
 |gh (k:Nat)
def coV (n:Nat) (h:aI):Co->SV->SV× List Blk
 |.qN sh t,.cY=>(.own n,[.arr (cond sh (some []) none) t []])
 |.ro t,v=>match v.list h t with
  |some p=>(.r p.1 (.sl t p.2),[])
  |none=>(v,[])
 |.drop,_=>(.undef,[])
 |.dep j,.r d x=>(.r (cond (mem j d) d (d++[j])) x,[])
 |_,v=>(v,[])
def LK (st:St) (i j:Nat) (c:Co):St:=
 match look st.heap i with
 |some (.box cs)=>match cs[j]? with
  |some v=>{st with heap:=put (st.heap++aN st.nid (coV st.nid st.heap c v).2) i (.box (cs.set j (coV st.nid st.heap c v).1)),nid:=st.nid+(coV st.nid st.heap c v).2.length}
  |none=>st
 |_=>st
def CM (st:St):ep× Co->St
  | (.slot t, c) => match look st.bI t with
    |some v=>{st with bI:=put st.bI t (coV st.nid st.heap c v).1,heap:=st.heap++aN st.nid (coV st.nid st.heap c v).2,nid:=st.nid+(coV st.nid st.heap c v).2.length}
    |none=>st
  | (.cell t j, c) => match look st.bI t with
    | some (.agg cs) => match cs[j]? with
      |some v=>{st with bI:=put st.bI t (.agg (cs.set j (coV st.nid st.heap c v).1)),heap:=st.heap++aN st.nid (coV st.nid st.heap c v).2,nid:=st.nid+(coV st.nid st.heap c v).2.length}
      |none=>st
    |_=>st
  |(.box i j,c)=>LK st i j c
  | (.Lx t j, c) => match look st.bI t with
    |some (.ptr i _ _)=>LK st i j c
    |_=>st
  |(.gh k,_)=>{st with gh:=st.gh.set k none}
def PQ (st:St):Co->Co
 |.LJ t j=>match look st.bI t with
  |some (.ptr i _ _)=>match look st.heap i with
   |some (.box cs)=>match cs[j]? with
    |some (.own k)=>.dep k
    |_=>.dep 0
   |_=>.dep 0
  |_=>.dep 0
 |c=>c
def OR (st:St) (x:ep× Co):St:=CM st (x.1,PQ st x.2)
def Jt:List (ep× Co)->St->St
 |[],st=>st
 |x::l,st=>Jt l (OR st x)
structure Env where
 P:Program
 tt:TT
 orc:FuncId->Orc
 wr:FuncId->Bool:=λ_=>false
 wt:Bool:=false
 inn:Bool:=false
 fz:Nat->List (Bool× Nat× List Nat):=λ_=>[]
 wk:Nat->List (ep× Co):=λ_=>[]
 lit:Bool:=false
 tak:Bool:=false
 tkt:List Nat:=[]
 swp:Bool:=false
def qO:aI->aI->aI
 |[],h=>h
 |(k,b)::l,h=>qO l (put h k b)
def OS (s:List (Nat× SV)) (n:Nat) (dst:Option Tmp) (v:SV):Option (List (Nat× SV)):=
 match dst with
 |some t=>cond (Nat.ble (t+1) n) (some (put s t v)) none
 |none=>some s
def St.take (st:St) (dst:Option Tmp) (c:CR):Option St:=
  (hJ c.kil (qO c.upd st.heap)).bind λh=>(OS (nq c.kil st.bI) st.n dst c.v).bind λs=>
    some {st with bI:=s,heap:=h++aN st.nid c.news,nid:=st.nid+c.news.length}
def setCells (cs:List SV) (o:Nat) (vs:List SV):Option (List SV):=
 cond (Nat.ble (o+vs.length) cs.length) (some (cs.take o++vs++cs.drop (o+vs.length))) none
def oJ:Ty->Bool
 |.sl _=>false
 |.ho _|.hl _=>false
 |.st .shape|.st .Lv|.st .cF|.st .gZ=>true
 |.st _=>false
 |_=>true
def isNil {α:Type}:List α->Bool
 |[]=>true
 |_=>false
def HN (h:aI) (t:Ty):Nat->List SV->Option (List Nat× List t.El)
 |0,_=>some ([],[])
 |n+1,cs=>(PB h t (cs.take t.sz)).bind λp=>(HN h t n (cs.drop t.sz)).bind λq=>some (p.1++q.1,p.2::q.2)
def SV.Jd (h:aI) (t:Ty) (v:SV):Option (List Nat× R):=
 match t with
 |.sl t'=>match v with
  |.cY=>some ([],.sl t' [])
  |.own i=>match look h i with
   |some (.arr none t1 xs)=>if e:t1=t' then some ([i],.sl t' (e▸xs))else none
   |_=>none
  |_=>none
 |.st _=>none
 |.tok=>match v with
  |.r _ (.tok n)=>some ([],.tok n)
  |.cY=>some ([],.tok 0)
  |_=>none
 |_=>match v with
  |.r _ (.int k n)=>some ([],.int k n)
  |.r _ (.bool b)=>some ([],.bool b)
  |.r _ (.str l)=>some ([],.str l)
  |_=>none
def ES (h:aI):List Ty->List SV->Option (List Nat× List R)
 |[],[]=>some ([],[])
 |t::ts,v::vs=>(v.Jd h t).bind λp=>(ES h ts vs).bind λq=>some (p.1++q.1,p.2::q.2)
 |_,_=>none
def iI (h:aI) (t:Ty):Nat->List SV->Option (List Nat× List t.El)
 |0,_=>some ([],[])
 |n+1,cs=>(ES h t.tys (cs.take t.sz)).bind λp=>(t.eo p.2).bind λx=>(iI h t n (cs.drop t.sz)).bind λq=>some (p.1++q.1,x::q.2)
def gn:List Nat->Bool
 |[]=>true
 |i::l=>cond (mem i l) false (gn l)
def CN (h:aI):List SV->Option Bool
 |[]=>some true
 |.own i::l=>(look h i).bind λb=>match b with
  |.arr none _ _=>CN h l
  |.arr (some _) _ _=>some false
  |.box _=>none
 |.r _ (.sl _ _)::_=>some false
 |.sub _ _ _::_=>some false
 |.bsl _ _::_=>some false
 |_::l=>CN h l
def GC (h:aI) (t:Ty) (n:Nat) (cs:List SV):Option (Option (List Nat)× List Nat× List t.El):=
 (CN h cs).bind λb=>cond b ((iI h t n cs).bind λq=>cond (gn q.1) (some (none,q.1,q.2)) none) ((HN h t n cs).bind λq=>some (some q.1,[],q.2))
def ou (h:aI):SV->List Nat->List Nat
 |.own i,d=>match look h i with
  |some (.arr (some d') _ _)=>d'
  |_=>d
 |_,d=>d
def ra (h:aI) (t:Ty) (v:SV):Option (Option (List Nat)× List Nat× List t.El):=
 match v with
 |.bsl i n=>match look h i with
  |some (.box cs)=>(GC h t n cs).bind λq=>some (q.1,i::q.2.1,q.2.2)
  |_=>none
 |_=>(v.list h t).bind λp=>cond (oJ t) (some (none,[],p.2)) (some (some (ou h v p.1),[],p.2))
def GD (a b:Option (List Nat)):Option (Option (List Nat)):=
 match a,b with
 |none,none=>some none
 |some d,some d'=>some (some (d++d'))
 |some d,none=>some (some d)
 |none,some d=>some (some d)
def oK (P:Program) (T:TypeId):Bool:=
 match P.info? T with
 |some i=>Nat.ble i.bytes 512
 |none=>false
def OT (E:Env) (s:List (Nat× SV)) (h:aI) (T:TypeId) (a:Operand):Option SV:=
 cond E.inn (cond (GA E.P T) (match opd s a with
  |some (.ptr i x o)=>match look h i with
   |some (.arr none t _)=>cond (Nat.ble (o+1) t.sz) (some (.inn i x o)) none
   |_=>none
  |_=>none) none) none
def OU {α:Type} (xs:List α) (x:Nat):List (Option α):=(xs.map some).set x none
def CO {α:Type}:List (Option α)->Option (List α)
 |[]=>some []
 |none::_=>none
 |some x::l=>(CO l).bind λl=>some (x::l)
def rS (n:Nat):List R->List SV
 |[]=>[]
 |.sl _ _::l=>.own n::rS (n+1) l
 |r::l=>.r [] r::rS n l
def lB:List R->List Blk
 |[]=>[]
 |.sl t ys::l=>.arr none t ys::lB l
 |_::l=>lB l
def OV (P:Program) (s:List (Nat× SV)) (h:aI) (src dst:TypeId) (x:Operand):Option Nat:=
 cond (Nat.beq src dst&&uS P src) (match opd s x with
  |some (.own i)=>match look h i with
   |some (.arr _ _ (_::_))=>some i
   |_=>none
  |_=>none) none
def ET (h:aI):SV->Option (Nat× Nat× Nat)
 |.sub i o n=>some (i,o,n)
 |.own i=>match look h i with
  |some (.arr _ _ xs)=>some (i,0,xs.length)
  |_=>none
 |_=>none
variable {ρ:Type}
def vK (P:Program) (T:TypeId) (h:aI) (i:Nat) (sh:Option (List Nat)) (t:Ty) (ys:List t.El) (k o:Nat) (x:SV) (K:CR->Option ρ):Option ρ:=
 x.cells.bind λxs=>(iG P T).bind λsz=>cond (Nat.beq sz xs.length&&Nat.ble (o+sz) t.sz) (
  match sh with
  |none=>(ES h ((t.tys.drop o).take sz) xs).bind λp=>cond (gn (i::p.1)) (
    cond (Nat.beq sz t.sz)
     ((t.eo p.2).bind λy=>K {v:=.undef,upd:=[(i,.arr none t (ys.set k y))],gone:=p.1,kV:=[i]})
     ((ys[k]?).bind λe=>(t.eo ((t.cells e).take o++p.2++(t.cells e).drop (o+sz))).bind λy=>K {v:=.undef,upd:=[(i,.arr none t (ys.set k y))],gone:=p.1,kV:=[i]})) none
  |some d=>(Jc h ((t.tys.drop o).take sz) xs).bind λp=>cond (mem i p.1) none (
    cond (Nat.beq sz t.sz)
     ((t.eo p.2).bind λy=>K {v:=.undef,upd:=[(i,.arr (some (d++p.1)) t (ys.set k y))],kV:=[i]})
     ((ys[k]?).bind λe=>(t.eo ((t.cells e).take o++p.2++(t.cells e).drop (o+sz))).bind λy=>K {v:=.undef,upd:=[(i,.arr (some (d++p.1)) t (ys.set k y))],kV:=[i]}))) none
def OW (P:Program) (T:TypeId):Bool:=
 match P.underlying T with
 |some (.int _)=>true
 |_=>false
def P9 (E:Env) (h:aI) (nid n sz:Nat) (t:Ty) (cs:List SV) (K:CR->Option ρ):Option ρ:=
 cond (E.lit&&Nat.beq t.sz sz) (match iI h t n cs with
  |some ([],xs)=>K {v:=.own nid,news:=[.arr none t xs]}
  |_=>K {v:=.bsl nid n,news:=[.box cs]}) (K {v:=.bsl nid n,news:=[.box cs]})
def EU (E:Env) (h:aI) (nid:Nat) (e:TypeId) (sz:Nat) (t:Ty) (T':TypeId) (b x:SV) (K:CR->Option ρ):Option ρ:=
 match b with
 |.cY=>cond (OW E.P T'&&(oK E.P e&&Nat.beq t.sz sz)) (x.asI.bind λl=>(fZ E.P e).bind λz=>(iI h t 1 z).bind λq=>cond (isNil q.1&&Nat.beq z.length sz) (match q.2 with
   |[y]=>cond (decide (1<=l/\l<=(aU:Int))) (K {v:=.own nid,news:=[.arr none t (List.replicate l.toNat y)]}) none
   |_=>none) none) none
 |_=>none
def EV (h:aI) (t:Ty) (b x:SV) (K:CR->Option ρ):Option ρ:=
 match b,x with
 |.sub i 0 a,.sub i' o n=>cond (Nat.beq i i') (match look h i with
  |some (.arr (some d) t' xs)=>if he:t'=t then cond (mem i d) none (cond (Nat.ble (a+n) xs.length&&(Nat.ble (o+n) xs.length&&Nat.ble 1 xs.length))
    (K {v:=.sub i 0 (a+n),upd:=[(i,.arr (some d) t ((he▸xs).take a++((he▸xs).drop o).take n++(he▸xs).drop (a+n)))],kV:=[i]}) none)else none
  |_=>none) none
 |_,_=>none
def OX (E:Env) (s:List (Nat× SV)) (h:aI) (nid:Nat) (T:TypeId) (a:Operand) (K:CR->Option ρ) (D:Option ρ):Option ρ:=
 cond E.tak (match opd s a with
  |some (.ptr i x 0)=>match look h i with
   |some (.arr none (.st st) xs)=>cond (oJ (.st st)) D ((xs[x]?).bind λe=>(hY E.P T (rS nid (st.cells e))).bind λv=>
     K {v:=v,news:=lB (st.cells e),upd:=[(i,.arr none (.ho st) (OU xs x))],kV:=[i]})
   |_=>D
  |_=>D) D
def taken (E:Env):Operand->Bool
 |.tmp t=>mem t E.tkt
 |_=>false
def OY (E:Env) (s:List (Nat× SV)) (h:aI) (nid:Nat) (T:TypeId) (a:Operand) (K:CR->Option ρ) (D:Option ρ):Option ρ:=
  cond (taken E a) (match opd s a with
    | some (.ptr i x 0) => match look h i with
      |some (.arr none (.sl t) xs)=>(xs[x]?).bind λe=>(hY E.P T (rS nid ((Ty.sl t).cells e))).bind λv=>
          K {v:=v,news:=lB ((Ty.sl t).cells e),upd:=[(i,.arr none (.hl t) (OU xs x))],kV:=[i]}
      |_=>none
    |_=>none) D
def AW (E:Env) (s:List (Nat× SV)) (h:aI) (nid:Nat) (op:Op) (K:CR->Option ρ):Option ρ:=
  match op with
  |.alloc T=>(fZ E.P T).bind λz=>K {v:=.ptr nid 0 0,news:=[.box z]}
  |.box _ x=>(opd s x).bind λv=>v.cells.bind λcs=>K {v:=.ptr nid 0 0,news:=[.box cs]}
  | .buildSlice T n parts =>
    (lA E.P T).bind λe=>(iG E.P e).bind λsz=>(qM s parts.toList).bind λps=>(fZ E.P e).bind λz=>
      cond (Nat.ble (n*sz) 16777216&&Nat.beq z.length sz) ((oH (λi=>some (i*sz,sz)) (List.replicate (n*sz) .undef) ps).bind λcs=>
        match E.tt e with
        |none=>K {v:=.bsl nid n,news:=[.box cs]}
        |some t=>cond ((oJ t||Nat.beq n 0)&&Nat.beq t.sz sz) ((iI h t n cs).bind λx=>cond (isNil x.1) (K {v:=.own nid,news:=[.arr none t x.2]}) none) (P9 E h nid n sz t cs K)) none
  | .makeSlice T l c =>
    (lA E.P T).bind λe=>(iG E.P e).bind λsz=>(E.tt e).bind λt=>(fZ E.P e).bind λz=>(opd s l).bind λl=>(opd s c).bind λc=>l.asI.bind λl=>c.asI.bind λc=>
      cond (oK E.P e&&Nat.beq t.sz sz) ((iI h t 1 z).bind λx=>cond (isNil x.1&&Nat.beq z.length sz) (match x.2 with
        |[y]=>cond (decide (0<=l/\l<=c/\c<=(aU:Int))) (K {v:=.own nid,news:=[.arr none t (List.replicate l.toNat y)]}) none
        |_=>none) none) none
  | .call { callee := .builtin .append, args, argTypes } => (qZ s args.toList).bind λ vs => match vs, argTypes.toList with
    | [b, x], [T, T'] => (lA E.P T).bind λ e => (iG E.P e).bind λ sz => (E.tt e).bind λ t => cond (oK E.P e && (Nat.beq t.sz sz && Nat.beq T T')) ((fZ E.P e).bind λ z => cond (Nat.beq z.length sz)
      ((ra h t x).bind λy=>match b with
        |.cY=>cond (hit y.2.1 (y.1.getD [])) none (cond (Nat.ble y.2.2.length aU) (K {v:=.own nid,news:=[.arr y.1 t y.2.2],gone:=y.2.1}) none)
        | .own i => match look h i with
          | some (.arr sh t' xs) => if he : t' = t then
              (GD sh y.1).bind λsh'=>cond (mem i y.2.1) none (cond (hit (i::y.2.1) (sh'.getD [])) none (cond (Nat.ble (xs.length+y.2.2.length) aU) (K {v:=.own nid,news:=[.arr sh' t ((he▸xs)++y.2.2)],gone:=i::y.2.1}) none))
            else none
          |_=>none
        |b=>EV h t b x K) none) (EU E h nid e sz t T' b x K)
    |_,_=>none
  | .call { callee := .builtin .clear, args, argTypes } => (qZ s args.toList).bind λ vs => match vs, argTypes.toList with
    | [v], [T] => (lA E.P T).bind λ e => (fZ E.P e).bind λ z => (ET h v).bind λ p => match look h p.1 with
      | some (.arr sh t xs) => cond (Nat.beq z.length t.sz) ((iI h t 1 z).bind λ x => cond (isNil x.1) (match x.2 with
        |[y]=>K {v:=.undef,upd:=[(p.1,.arr sh t (xs.take p.2.1++List.replicate p.2.2 y++xs.drop (p.2.1+p.2.2)))],kV:=[p.1]}
        |_=>none) none) none
      |_=>none
    |_,_=>none
  | .store T a x => (opd s a).bind λ a => (opd s x).bind λ x => match a with
    | .ptr i k o => match look h i with
      |some (.box cs)=>cond (Nat.beq k 0) (x.cells.bind λxs=>(iG E.P T).bind λsz=>cond (Nat.beq sz xs.length) ((setCells cs o xs).bind λcs=>K {v:=.undef,upd:=[(i,.box cs)]}) none) none
      |some (.arr sh t ys)=>vK E.P T h i sh t ys k o x K
      |_=>none
    |_=>none
  | .call { callee := .value f, args, .. } => (opd s f).bind λ f => (qZ s args.toList).bind λ vs => match f with
    |.fn (.func g) first cap=>E.orc g ρ nid (first++vs++cap) h K
    |_=>none
  | .load T a => OY E s h nid T a K (match OT E s h T a with
    |some v=>K {v:=v}
    |none=>OX E s h nid T a K (nr E.P s h (.load T a) λv=>K {v:=v}))
  | .convert src dst x => match OV E.P s h src dst x with
    |some i=>K {v:=.own i}
    |none=>nr E.P s h (.convert src dst x) λv=>K {v:=v}
  |op=>nr E.P s h op λv=>K {v:=v}
noncomputable def both (x y:Option ρ):Option ρ:=open Classical in if x=y then x else none
def GF:Op->Option (TypeId× Operand× Bool)
 |.binOp .eql T x (.const (.slice none 0 0)) _=>some (T,x,true)
 |.binOp .neq T x (.const (.slice none 0 0)) _=>some (T,x,false)
 |_=>none
noncomputable def PR (h:aI) (v:SV) (K:Bool->Option ρ):Option ρ:=
 match v with
 |.cY=>K true
 |.r _ (.sl _ xs)=>cond (isNil xs) (both (K true) (K false)) (K false)
 |.own i=>match look h i with
  |some (.arr _ _ xs)=>cond (isNil xs) (both (K true) (K false)) (K false)
  |_=>none
 |_=>none
noncomputable def OE (E:Env) (o:Oper) (st:St) (K:St->Option ρ):Option ρ:=
 match GF o.op with
 |some (T,x,e)=>cond (GA E.P T) ((opd st.bI x).bind λv=>PR st.heap v λb=>(st.take o.dst {v:=.b (cond b e (!e))}).bind K) none
 |none=>AW E st.bI st.heap st.nid o.op λc=>(st.take o.dst c).bind K
def Ns (ops:List Oper) (j:Nat):Option Tmp:=(ops[j]?).bind (·.dst)
def CP (o:Oper) (st:St) (K:St->Option ρ):Option ρ:=
 (OS st.bI st.n o.dst (.tup [])).bind λs=>K {st with bI:=s}
noncomputable def AX (E:Env) (all:List Oper):List Oper->St->(St->Option ρ)->Option ρ
  |[],st,K=>K st
  | o :: rest, st, K =>
    match o.guard with
    |none=>OE E o st λst=>AX E all rest st K
    | some (j, want) => (Ns all j).bind λ t => (look st.bI t).bind λ v => match v with
      |.tup []=>CP o st λst=>AX E all rest st K
      | v => v.asB.bind λ b =>
        cond b
          (cond want (OE E o {st with bI:=put st.bI t (.b true)} λst=>AX E all rest st K)
            (CP o {st with bI:=put st.bI t (.b true)} λst=>AX E all rest st K))
          (cond want (CP o {st with bI:=put st.bI t (.b false)} λst=>AX E all rest st K)
            (OE E o {st with bI:=put st.bI t (.b false)} λst=>AX E all rest st K))
def after (H:aI) (nid:Nat) (c:CR):Option aI:=
 (hJ c.kil (qO c.upd H)).bind λh=>some (h++aN nid c.news)
structure DR where
 dst:Option Tmp
 n0:Nat
 c:CR
 see:List Nat
 LM:List SV:=[]
 len:Bool:=false
abbrev SH:=List (Nat× SV)× aI
def GG (s:List (Nat× SV)) (dst:Option Tmp) (v:SV):List (Nat× SV):=
 match dst with
 |some t=>put s t v
 |none=>s
def HO:aI->Nat->Blk->aI
 |[],_,_=>[]
 |(k,u)::l,n,b=>cond (Nat.beq k n) ((k,b)::l) ((k,u)::HO l n b)
def iN:aI->aI->aI
 |[],h=>h
 |(k,b)::l,h=>iN l (HO h k b)
def DR.app (r:DR) (x:SH):Option SH:=
 (hJ r.c.kil (iN r.c.upd x.2)).bind λh=>some (GG (nq r.c.kil x.1) r.dst r.c.v,h++aN r.n0 r.c.news)
def replay (p:Nat->Bool):Nat->List DR->SH->Option SH
 |_,[],x=>some x
 |j,r::l,x=>cond (p j) ((r.app x).bind λx=>replay p (j+1) l x) (replay p (j+1) l x)
def tF (n:Nat):List Edge->Bool
 |[]=>true
 |e::l=>cond (Region.binds .any e) (cond (Nat.ble (e.on+1) n) (tF n l) false) (tF n l)
def CQ (masks:List Nat):List Edge->Nat
 |[]=>0
 |e::l=>cond (Region.binds .any e) ((masks.getD e.on 0||| 2^e.on)||| CQ masks l) (CQ masks l)
def wx:List Nat->List Oper->Option (List Nat)
 |acc,[]=>some acc
 |acc,o::l=>cond (tF acc.length o.after.toList) (wx (acc++[CQ acc o.after.toList]) l) none
def iJ:List Oper->List Nat
 |[]=>[]
 |o::l=>match o.dst with
  |some t=>t::iJ l
  |none=>iJ l
def LN (masks:List Nat) (i:Nat):Nat->List Oper->List Nat
 |_,[]=>[]
 |j,o::l=>cond ((masks.getD j 0).testBit i) (LN masks i (j+1) l) (match o.dst with
  |some t=>t::LN masks i (j+1) l
  |none=>LN masks i (j+1) l)
def HP (n:Nat):List Nat->Bool
 |[]=>true
 |i::l=>cond (Nat.ble (i+1) n) (HP n l) false
def eG:List Operand->List Nat
 |[]=>[]
 |.tmp t::l=>t::eG l
 |_::l=>eG l
def mH (T:List Nat) (s:List (Nat× SV)):List Nat->List (Nat× SV)
 |[]=>[]
 |t::l=>cond (mem t T) (mH T s l) (match look s t with
  |some v=>(t,v)::mH T s l
  |none=>mH T s l)
def lE (E:Env):Op->Bool
 |.store _ _ _=>true
 |.load _ _=>E.tak
 |.call {callee:=.builtin .len,.. }|.call {callee:=.builtin .cap,.. }|.call {callee:=.builtin .min,.. }|.call {callee:=.builtin .max,.. }=>false
 |.call {callee:=.builtin _,.. }=>true
 |.call {callee:=.value (.func g),.. }=>E.wr g
 |.call {callee:=.value _,.. }=>E.wt
 |.call _=>false
 |_=>false
def OZ (masks:List Nat) (i j:Nat):Bool:=Nat.beq i j||((masks.getD i 0).testBit j||(masks.getD j 0).testBit i)
def uT (E:Env) (masks:List Nat) (i:Nat):Nat->List Oper->Bool
 |_,[]=>false
 |j,o::l=>cond (lE E o.op) (cond (OZ masks i j) (uT E masks i (j+1) l) true) (uT E masks i (j+1) l)
def AY (s:List (Nat× SV)):List Nat->List SV
 |[]=>[]
 |t::l=>match look s t with
  |some v=>v::AY s l
  |none=>AY s l
def uU (h:aI):List Nat->aI
 |[]=>[]
 |i::l=>match look h i with
  |some b=>(i,b)::uU h l
  |none=>uU h l
def Nt:Op->Bool
 |.move _=>true
 |.assign _=>true
 |.extract _ _=>true
 |.nilCheck _=>true
 |.fieldAddr _ _ _=>true
 |_=>false
def O0:Op->Bool
 |.load _ _=>true
 |_=>false
def PS (E:Env) (masks:List Nat) (i:Nat) (ops:List Oper) (x:SH) (o:Oper):List Nat:=
 cond (uT E masks i 0 ops&&!Nt o.op) (reach x.2 (cond (O0 o.op) 0 3) (ot [] (HL (AY x.1 (eG o.op.operands.toList))))) []
def HQ (E:Env) (masks:List Nat) (i:Nat) (ops:List Oper) (x:SH) (o:Oper):aI:=
 cond (uT E masks i 0 ops) (uU x.2 (PS E masks i ops x o)) x.2
def LO (L:List Nat):aI->Bool
 |[]=>false
 |(k,_)::l=>cond (mem k L) true (LO L l)
def okW (E:Env) (op:Op) (c:CR):Bool:=cond (lE E op) true (isNil c.kil.2&&isNil c.upd)
mutual
def SV.Je (T:Kil):SV->Bool
 |.r d _=>!hit T.2 d
 |.own i=>!mem i T.1
 |.sub i _ _=>!mem i T.1
 |.bsl i _=>!mem i T.1
 |.ptr i _ _=>!mem i T.1
 |.inn i _ _=>!(mem i T.1||mem i T.2)
 |.j3 d _=>!hit T.2 d
 |.agg cs=>wy T cs
 |.tup cs=>wy T cs
 |.fn _ a b=>wy T a&&wy T b
 |.cY=>true
 |.oG=>true
 |.undef=>true
def wy (T:Kil):List SV->Bool
 |[]=>true
 |v::l=>v.Je T&&wy T l
end
def Blk.Je (T:Kil):Blk->Bool
 |.box cs=>wy T cs
 |.arr (some d) _ _=>!hit T.2 d
 |.arr none _ _=>true
def Ju (k:Nat) (B:Blk):List DR->Bool
 |[]=>true
 |r::l=>cond ((look r.c.upd k).isNone&&(!mem k r.c.kil.1&&B.Je r.c.kil)) (Ju k B l) false
def PD (h:aI) (rs:List DR):List Nat->Bool
 |[]=>true
 |k::l=>match look h k with
  |some B=>cond (Ju k B rs) (PD h rs l) false
  |none=>false
def fF (cm:DR->Bool) (r:DR):Bool:=isNil r.c.kil.2&&(isNil r.c.upd&&(isNil r.c.news&&cm r))
def HR (b a:DR):Bool:=a.c.v.Je b.c.kil&&wy b.c.kil a.LM
def O1 (b:DR):aI->Bool
 |[]=>true
 |(k,_)::l=>cond (Nat.ble (k+1) b.n0||Nat.ble (b.n0+b.c.news.length) k) (O1 b l) false
def EW (a b:DR):Bool:=(isNil a.c.kil.2&&isNil b.c.kil.2)&&((isNil b.c.upd&&O1 b a.c.upd)||(isNil a.c.upd&&O1 a b.c.upd))&&(!(LO b.see a.c.upd)&&!(LO a.see b.c.upd))
def qF (cm:DR->Bool) (a b:DR):Bool:=EW a b||((HR b a&&fF cm a)||(HR a b&&fF cm b))
def wz (cm:DR->Bool) (masks:List Nat) (i:Nat) (r:DR):Nat->List DR->Bool
 |_,[]=>true
 |j,b::l=>cond ((masks.getD j 0).testBit i) (wz cm masks i r (j+1) l) (cond (qF cm r b) (wz cm masks i r (j+1) l) false)
def zz (cm:DR->Bool) (masks:List Nat):Nat->List DR->Bool
 |_,[]=>true
 |i,r::l=>cond (wz cm masks i r (i+1) l) (zz cm masks (i+1) l) false
def Nu:List DR->Nat->SV->List DR
 |[],_,_=>[]
 |r::l,0,v=>{r with c:={r.c with v:=v}}::l
 |r::l,n+1,v=>r::Nu l n v
def O2:Op->Bool
 |.indexAddr _ _ _=>true
 |_=>false
def O3 (h:aI):List Nat->Bool
 |[]=>true
 |i::l=>cond (look h i).isSome (O3 h l) false
def CS (x:SH) (o:Oper):List Nat:=ot [] (HL (AY x.1 (eG o.op.operands.toList)))
def Jv (E:Env) (h0:aI) (x:SH) (o:Oper):Bool:=E.swp&&(O2 o.op&&O3 h0 (CS x o))
def Jw (E:Env) (masks:List Nat) (i:Nat) (ops:List Oper) (h0:aI) (x:SH) (o:Oper):aI:=cond (Jv E h0 x o) (uU h0 (CS x o)) (HQ E masks i ops x o)
def PE (E:Env) (masks:List Nat) (i:Nat) (ops:List Oper) (h0:aI) (x:SH) (o:Oper):List Nat:=cond (Jv E h0 x o) (CS x o) (PS E masks i ops x o)
def Nv (E:Env) (masks:List Nat) (i:Nat) (ops:List Oper) (h0:aI) (x:SH) (o:Oper) (nid:Nat) (c:CR):DR:=⟨o.dst,nid,c,PE E masks i ops h0 x o,AY x.1 (eG o.op.operands.toList),Jv E h0 x o⟩
def ov (E:Env) (ops:List Oper) (masks dsts:List Nat) (s0:List (Nat× SV)) (h0:aI):Nat->List Oper->Nat->List DR->(List DR->Nat->Option ρ)->Option ρ
  |_,[],nid,rs,K=>K rs nid
  | i, o :: rest, nid, rs, K =>
    (replay (Nat.testBit (masks.getD i 0)) 0 rs (mH (LN masks i 0 ops) s0 (eG o.op.operands.toList),h0)).bind λx=>
    match o.guard with
    |none=>AW E (mH [] x.1 (eG o.op.operands.toList)) (Jw E masks i ops h0 x o) nid o.op λc=>cond (okW E o.op c) (ov E ops masks dsts s0 h0 (i+1) rest (nid+c.news.length) (rs++[Nv E masks i ops h0 x o nid c]) K) none
    | some (g, want) => cond (Nat.testBit (masks.getD i 0) g) ((rs[g]?).bind λ r => r.dst.bind λ _ => match r.c.v with
      |.tup []=>ov E ops masks dsts s0 h0 (i+1) rest nid (rs++[⟨o.dst,nid,{v:=.tup []},[],[],false⟩]) K
      | .r [] (.bool b) => cond b
        (cond want
          (AW E (mH [] x.1 (eG o.op.operands.toList)) (Jw E masks i ops h0 x o) nid o.op λc=>cond (okW E o.op c) (ov E ops masks dsts s0 h0 (i+1) rest (nid+c.news.length) (Nu rs g (.b true)++[Nv E masks i ops h0 x o nid c]) K) none)
          (ov E ops masks dsts s0 h0 (i+1) rest nid (Nu rs g (.b true)++[⟨o.dst,nid,{v:=.tup []},[],[],false⟩]) K))
        (cond want
          (ov E ops masks dsts s0 h0 (i+1) rest nid (Nu rs g (.b false)++[⟨o.dst,nid,{v:=.tup []},[],[],false⟩]) K)
          (AW E (mH [] x.1 (eG o.op.operands.toList)) (Jw E masks i ops h0 x o) nid o.op λc=>cond (okW E o.op c) (ov E ops masks dsts s0 h0 (i+1) rest (nid+c.news.length) (Nu rs g (.b false)++[Nv E masks i ops h0 x o nid c]) K) none))
      |_=>none) none
def wA:List Nat->List Nat->Bool
 |[],_=>true
 |i::l,T=>cond (mem i T) false (wA l T)
def AZ (L:List Nat):List DR->Bool
 |[]=>true
 |r::l=>cond (wA L r.c.kil.1) (AZ L l) false
def yZ (h:aI) (rs:List DR) (r:DR):Bool:=cond r.len (AZ r.see rs) (PD h rs r.see)
def zA (cm:DR->Bool):List DR->Bool
 |[]=>true
 |r::l=>cond (!r.len||fF cm r) (zA cm l) false
def EX (E:Env) (ops:List Oper) (st:St) (K:St->Option ρ):Option ρ:=
  cond (E.P.follows .mixedOrders) ((wx [] ops).bind λmasks=>
    cond (gn (iJ ops)) (cond (HP st.n (iJ ops))
      (ov E ops masks (iJ ops) st.bI st.heap 0 ops st.nid [] λrs nid=>cond (zz (yZ st.heap rs) masks 0 rs&&zA (yZ st.heap rs) rs)
        ((replay (λ_=>true) 0 rs (st.bI,st.heap)).bind λx=>K {st with bI:=x.1,heap:=x.2,nid:=nid}) none) none) none) none
inductive Ex where
 |normal
 |exit (id:Nat)
 |ret
def refine(c:Operand) (b:Bool) (st:St):St:=
 match c with
 |.tmp t=>{st with bI:=put st.bI t (.b b)}
 |_=>st
abbrev Ev (ρ:Type):=St->(Ex->St->Option ρ)->Option ρ
def inBlock (id:Nat) (K:Ex->St->Option ρ):Ex->St->Option ρ
 |.exit j,st=>cond (Nat.beq j id) (K .normal st) (K (.exit j) st)
 |e,st=>K e st
def Ly (i:Nat):List Nat->List Nat
 |[]=>[]
 |k::l=>cond (Nat.beq k i) (Ly i l) (k::Ly i l)
def GH (i:Nat) (t:Ty) (h:aI) (v:SV):SV:=
 match v.list h t with
 |some p=>.r (Ly i p.1) (.sl t p.2)
 |none=>.undef
mutual
def SV.frz (i:Nat) (t:Ty) (h:aI):SV->SV
 |.r d x=>.r (Ly i d) x
 |.own j=>cond (Nat.beq j i) (GH i t h (.own j)) (.own j)
 |.sub j o n=>cond (Nat.beq j i) (GH i t h (.sub j o n)) (.sub j o n)
 |.bsl j n=>cond (Nat.beq j i) .undef (.bsl j n)
 |.ptr j x o=>cond (Nat.beq j i) .undef (.ptr j x o)
 |.inn j x c=>cond (Nat.beq j i) .undef (.inn j x c)
 |.j3 d cs=>.j3 (Ly i d) cs
 |.agg cs=>.agg (CA i t h cs)
 |.tup cs=>.tup (CA i t h cs)
 |.fn f a b=>.fn f (CA i t h a) (CA i t h b)
 |.cY=>.cY
 |.oG=>.oG
 |.undef=>.undef
def CA (i:Nat) (t:Ty) (h:aI):List SV->List SV
 |[]=>[]
 |v::l=>v.frz i t h::CA i t h l
end
def Blk.frz (i:Nat) (t:Ty) (h:aI):Blk->Blk
 |.box cs=>.box (CA i t h cs)
 |.arr none t' xs=>.arr none t' xs
 |.arr (some d) t' xs=>.arr (some (Ly i d)) t' xs
def EY (i:Nat) (t:Ty) (h:aI):aI->aI
 |[]=>[]
 |(k,b)::l=>cond (Nat.beq k i) (EY i t h l) ((k,b.frz i t h)::EY i t h l)
def HS (i:Nat) (t:Ty) (h:aI):List (Nat× SV)->List (Nat× SV)
 |[]=>[]
 |(k,v)::l=>(k,v.frz i t h)::HS i t h l
def PT (i:Nat) (st:St):St:=
 match look st.heap i with
 |some (.arr _ t _)=>{st with bI:=HS i t st.heap st.bI,heap:=EY i t st.heap st.heap}
 |_=>st
def O4 (h:aI):SV->List Nat->Option Nat
 |.own i,[]=>some i
 |.sub i _ _,[]=>some i
 |.agg cs,j::p=>match cs[j]? with
  |some v=>O4 h v p
  |none=>none
 |.tup cs,j::p=>match cs[j]? with
  |some v=>O4 h v p
  |none=>none
 |.ptr i 0 o,j::p=>match look h i with
  |some (.box cs)=>match cs[o+j]? with
   |some v=>O4 h v p
   |none=>none
  |_=>none
 |.bsl i _,j::p=>match look h i with
  |some (.box cs)=>match cs[j]? with
   |some v=>O4 h v p
   |none=>none
  |_=>none
 |_,_=>none
termination_by structural _ p=>p
def PU (i:Nat) (st:St):St:=
 match look st.heap i with
 |some (.arr none t xs)=>{st with heap:=put st.heap i (.arr (some []) t xs)}
 |_=>st
def M7 (st:St) (x:Bool× Nat× List Nat):St:=
 match look st.bI x.2.1 with
 |some v=>match O4 st.heap v x.2.2 with
  |some i=>cond x.1 (PU i st) (PT i st)
  |none=>st
 |none=>st
def GI:List (Bool× Nat× List Nat)->St->St
 |[],st=>st
 |x::l,st=>GI l (M7 st x)
def Blk.Jx (b:Blk) (K:Blk->Option ρ):Option ρ:=
 match b with
 |.arr none (.ho s) zs=>(CO zs).bind λxs=>K (.arr none (.st s) xs)
 |.arr none (.hl t) zs=>(CO zs).bind λxs=>K (.arr none (.sl t) xs)
 |b=>K b
def Jy:aI->(aI->Option ρ)->Option ρ
 |[],K=>K []
 |(k,b)::l,K=>b.Jx λb=>Jy l λl=>K ((k,b)::l)
def GJ (E:Env) (K:St->Option ρ) (st:St):Option ρ:=cond E.tak (Jy st.heap λh=>K {st with heap:=h}) (K st)
noncomputable def ev (E:Env) (LP:Nat->Ev ρ->Ev ρ) (cb:Nat):Code->Ev ρ
 |.skip,st,K=>K .normal st
 |.label _,st,K=>K .normal st
 |.region id ops false,st,K=>AX E ops.toList ops.toList (Jt (E.wk id) (GI (E.fz id) st)) (GJ E (K .normal))
 |.region id ops true,st,K=>EX E ops.toList (Jt (E.wk id) (GI (E.fz id) st)) (GJ E (K .normal))
 |.seq a b,st,K=>ev E LP cb a st λe st=>match e with
  |.normal=>ev E LP cb b st K
  |e=>K e st
 |.cond c t f,st,K=>(opd st.bI c).bind λv=>v.asB.bind λb=>cond b (ev E LP cb t (refine c true st) K) (ev E LP cb f (refine c false st) K)
 |.block id c,st,K=>ev E LP id c st (inBlock id K)
 |.loop c,st,K=>LP cb (λst K=>ev E LP cb c st K) st K
 |.exit id,st,K=>K (.exit id) st
 |.scope c,st,K=>ev E LP cb c st K
 |.ret,st,K=>K .ret st
 |_,_,_=>none
def Nw (body:Ev ρ):Nat->Ev ρ
 |0,_,_=>none
 |n+1,st,K=>body st λe st=>match e with
  |.normal=>Nw body n st K
  |e=>K e st
end
section
def Ext {α:Type} (s s':List (Nat× α)):Prop:=∀t v,look s t=some v->look s' t=some v
theorem Ext.rfl' {α:Type} {s:List (Nat× α)}:Ext s s:=λ_ _ h=>h
def Le {α:Type} (x y:Option α):Prop:=∀a,x=some a->y=some a
theorem Le.refl {α:Type} (x:Option α):Le x x:=λ_ h=>h
theorem Le.bind {α β:Type} {x y:Option α} {f g:α->Option β} (h:Le x y) (hf:∀a,Le (f a) (g a)):Le (x.bind f) (y.bind g):=by
 intro b hb;rw[An]at hb⊢;obtain⟨a,h1,h2⟩:=hb;exact⟨a,h a h1,hf a b h2⟩
theorem Le.cond {α:Type} {b:Bool} {x y x' y':Option α} (h:Le x x') (h':Le y y'):Le (cond b x y) (cond b x' y'):=by cases b<;>assumption
theorem Le.none {α:Type} {y:Option α}:Le Option.none y:=λ_ h=>nomatch h
section
variable {s s':List (Nat× SV)} {h h':aI} {P:Program}
theorem Nx (hh:Ext h h') (i:Nat):Le (look h i) (look h' i):=λ_=>hh i _
theorem cQ (hs:Ext s s') (x:Operand):Le (opd s x) (opd s' x):=by
 cases x with
 |tmp t=>exactλv hv=>hs t v hv
 |_=>exact Le.refl _
theorem iO (hs:Ext s s'):(l:List Operand)->Le (qZ s l) (qZ s' l)
 |[]=>Le.refl _
 |x::l=>(cQ hs x).bind λ_=>(iO hs l).bind λ_=>Le.refl _
theorem EZ (hs:Ext s s') (x:Option Operand):Le (Lw s x) (Lw s' x):=by
 cases x with
 |none=>exact Le.refl _
 |some x=>exact(cQ hs x).bind λ_=>Le.refl _
theorem oL (hs:Ext s s'):(l:List (Nat× Operand))->Le (qM s l) (qM s' l)
 |[]=>Le.refl _
 |(_,x)::l=>(cQ hs x).bind λ_=>(oL hs l).bind λ_=>Le.refl _
theorem HT (hh:Ext h h') (v:SV):Le (kU h v) (kU h' v):=by
 cases v<;>try exact Le.refl _
 rename_i i x o;intro cs hcs;simp only[kU]at hcs⊢
 cases hl:look h i with
 |none=>rw[hl]at hcs;exact nomatch hcs
 |some B=>rw[hl]at hcs;rw[hh i B hl];exact hcs
theorem LQ (hh:Ext h h') (v:SV):Le (lenOf h v) (lenOf h' v):=by
 intro n hn
 cases v with
 |own i=>
  simp only[lenOf]at hn⊢
  cases hl:look h i with
  |none=>rw[hl]at hn;exact nomatch hn
  |some B=>rw[hl]at hn;rw[hh i B hl];exact hn
 |r d x=>cases x<;>exact hn
 |_=>exact hn
theorem HU (hh:Ext h h') (T:TypeId) (v:SV) (lo hi:Option SV):Le (iM P T h v lo hi) (iM P T h' v lo hi):=by
 intro cs hcs
 cases v with
 |own i=>
  simp only[iM]at hcs⊢
  cases hl:look h i with
  |none=>rw[hl]at hcs;exact nomatch hcs
  |some B=>rw[hl]at hcs;rw[hh i B hl];exact hcs
 |sub i o n=>
  simp only[iM]at hcs⊢
  cases hl:look h i with
  |none=>rw[hl]at hcs;exact nomatch hcs
  |some B=>rw[hl]at hcs;rw[hh i B hl];exact hcs
 |r d x=>cases x<;>exact hcs
 |_=>exact hcs
theorem zc (hh:Ext h h') (T:TypeId) (v:SV) (k:Int):Le (bS P T h v k) (bS P T h' v k):=by
 intro cs hcs
 cases v with
 |own i=>
  simp only[bS]at hcs⊢
  cases hl:look h i with
  |none=>rw[hl]at hcs;exact nomatch hcs
  |some B=>rw[hl]at hcs;rw[hh i B hl];exact hcs
 |sub i o n=>
  simp only[bS]at hcs⊢
  cases hl:look h i with
  |none=>rw[hl]at hcs;exact nomatch hcs
  |some B=>rw[hl]at hcs;rw[hh i B hl];exact hcs
 |r d x=>cases x<;>exact hcs
 |_=>exact hcs
theorem E0 (hh:Ext h h') (t:Ty) (v:SV):Le (v.list h t) (v.list h' t):=by
 intro p hp
 cases v<;>try exact hp
 all_goals
  simp only[SV.list]at hp⊢;split at hp
  ·rename_i hl;rw[hh _ _ hl];exact hp
  ·exact nomatch hp
theorem O5 (hh:Ext h h') (T:TypeId) (x:SV):Le (slN P T h x) (slN P T h' x):=by
 intro n hn
 cases x with
 |own i=>
  simp only[slN]at hn⊢
  cases hl:look h i with
  |none=>rw[hl]at hn;exact nomatch hn
  |some B=>rw[hl]at hn;rw[hh i B hl];exact hn
 |r d x=>cases x<;>exact hn
 |_=>exact hn
theorem tG (hs:Ext s s') (hh:Ext h h') (op:Op):Le (gg P s h op) (gg P s' h' op):=by
 intro v hv;unfold gg at hv;split at hv<;>simp only[gg]
 ·exact cQ hs _ v hv
 ·exact cQ hs _ v hv
 ·revert hv;exact((cQ hs _).bind λc=>(Le.refl _).bind λb=>Le.cond (cQ hs _) (cQ hs _)) v
 ·revert hv
  split
  ·exact((Le.refl _).bind λ_=>(Le.refl _).bind λ_=>(oL hs _).bind λ_=>Le.refl _) v
  ·exactλh=>nomatch h
 ·exact((cQ hs _).bind λa=>(HT hh a).bind λ_=>Le.refl _) v hv
 ·exact((cQ hs _).bind λa=>Le.refl _) v hv
 ·exact((cQ hs _).bind λa=>(cQ hs _).bind λ_=>Le.refl _) v hv
 ·exact((cQ hs _).bind λa=>Le.refl _) v hv
 ·exact((cQ hs _).bind λa=>Le.cond ((E0 hh _ _).bind λ_=>Le.refl _) (Le.refl _)) v hv
 ·exact((iO hs _).bind λa=>(iO hs _).bind λ_=>Le.refl _) v hv
 ·exact((cQ hs _).bind λa=>(EZ hs _).bind λ_=>(EZ hs _).bind λ_=>HU hh _ _ _ _) v hv
 ·exact((cQ hs _).bind λa=>(EZ hs _).bind λ_=>(cQ hs _).bind λ_=>(cQ hs _).bind λ_=>(O5 hh _ _).bind λ_=>Le.refl _) v hv
 ·exact((cQ hs _).bind λa=>Le.refl _) v hv
 ·exact((cQ hs _).bind λa=>Le.refl _) v hv
 ·exact((cQ hs _).bind λa=>(cQ hs _).bind λ_=>(Le.refl _).bind λ_=>zc hh _ _ _) v hv
 ·exact((cQ hs _).bind λa=>(cQ hs _).bind λ_=>Le.refl _) v hv
 ·exact((cQ hs _).bind λa=>Le.refl _) v hv
 ·refine((iO hs _).bind λvs=>?_) v hv;split
  ·exact Le.cond ((LQ hh _).bind λ_=>Le.refl _) (Le.refl _)
  ·exact Le.refl _
 ·exact((iO hs _).bind λa=>Le.refl _) v hv
 ·exact((iO hs _).bind λa=>Le.refl _) v hv
 ·exact((iO hs _).bind λa=>Le.refl _) v hv
 ·exact nomatch hv
theorem CT (hh:Ext h h') (t:Ty) (v:SV):Le (v.asR h t) (v.asR h' t):=by
 cases t with
 |sl t=>exact(E0 hh t v).bind λ_=>Le.refl _
 |_=>exact Le.refl _
theorem E1 (hh:Ext h h'):(ts:List Ty)->(vs:List SV)->Le (Jc h ts vs) (Jc h' ts vs)
 |[],[]=>Le.refl _
 |t::ts,v::vs=>(CT hh t v).bind λ_=>(E1 hh ts vs).bind λ_=>Le.refl _
 |[],_::_=>Le.refl _
 |_::_,[]=>Le.refl _
theorem Ny (hh:Ext h h') (t:Ty) (vs:List SV):Le (PB h t vs) (PB h' t vs):=(E1 hh _ _).bind λ_=>Le.refl _
theorem GK (hh:Ext h h') (t:Ty):(n:Nat)->(c:List SV)->Le (HN h t n c) (HN h' t n c)
 |0,_=>Le.refl _
 |n+1,_=>(Ny hh t _).bind λ_=>(GK hh t n _).bind λ_=>Le.refl _
theorem A9 (hh:Ext h h') (t:Ty) (v:SV):Le (v.Jd h t) (v.Jd h' t):=by
 intro p hp
 cases t with
 |sl t=>
  cases v with
  |own i=>
   simp only[SV.Jd]at hp⊢
   cases hl:look h i with
   |none=>rw[hl]at hp;exact nomatch hp
   |some B=>rw[hl]at hp;rw[hh i B hl];exact hp
  |_=>exact hp
 |_=>exact hp
theorem GL (hh:Ext h h'):(ts:List Ty)->(vs:List SV)->Le (ES h ts vs) (ES h' ts vs)
 |[],[]=>Le.refl _
 |t::ts,v::vs=>(A9 hh t v).bind λ_=>(GL hh ts vs).bind λ_=>Le.refl _
 |[],_::_=>Le.refl _
 |_::_,[]=>Le.refl _
theorem kW (hh:Ext h h') (t:Ty):(n:Nat)->(c:List SV)->Le (iI h t n c) (iI h' t n c)
 |0,_=>Le.refl _
 |n+1,_=>(GL hh _ _).bind λ_=>(Le.refl _).bind λ_=>(kW hh t n _).bind λ_=>Le.refl _
theorem CU (hh:Ext h h'):(c:List SV)->Le (CN h c) (CN h' c)
 |[]=>Le.refl _
 |v::l=>by
  have ih:=CU hh l
  cases v with
  |own i=>
   refine(Nx hh i).bind λb=>?_
   cases b with
   |box _=>exact Le.refl _
   |arr sh _ _=>cases sh with
    |none=>exact ih
    |some _=>exact Le.refl _
  |r d x=>cases x with
   |sl _ _=>exact Le.refl _
   |_=>exact ih
  |sub _ _ _=>exact Le.refl _
  |bsl _ _=>exact Le.refl _
  |_=>exact ih
theorem Jz (hh:Ext h h') (t:Ty) (n:Nat) (c:List SV):Le (GC h t n c) (GC h' t n c):=
 (CU hh c).bind λb=>Le.cond ((kW hh t n c).bind λ_=>Le.refl _) ((GK hh t n c).bind λ_=>Le.refl _)
theorem zB (hh:Ext h h') (t:Ty) (v:SV):Le (ra h t v) (ra h' t v):=by
 have ind:∀(v:SV) (p:List Nat× List t.El),v.list h t=some p->ou h' v p.1=ou h v p.1:=λv p hp=>by
  cases v with
  |own i=>
   simp only[SV.list]at hp
   cases hl:look h i with
   |none=>rw[hl]at hp;exact nomatch hp
   |some B=>simp only[ou,hl,hh i B hl]
  |_=>rfl
 have lst:∀v:SV,Le ((v.list h t).bind λp=>cond (oJ t) (some (none,[],p.2)) (some (some (ou h v p.1),[],p.2)):Option (Option (List Nat)× List Nat× List t.El)) ((v.list h' t).bind λp=>cond (oJ t) (some (none,[],p.2)) (some (some (ou h' v p.1),[],p.2))):=λv q hq=>by
  rw[An]at hq⊢;obtain⟨p,hp,hq⟩:=hq;exact⟨p,E0 hh t v p hp,by rw[ind v p hp];exact hq⟩
 cases v with
 |bsl i n=>
  intro p hp;simp only[ra]at hp⊢
  cases hl:look h i with
  |none=>rw[hl]at hp;exact nomatch hp
  |some B=>
   rw[hl]at hp;rw[hh i B hl]
   cases B with
   |box cs=>exact((Jz hh t n cs).bind λ_=>Le.refl _) p hp
   |arr _ _ _=>exact nomatch hp
 |r d x=>exact lst (.r d x)
 |cY=>exact lst .cY
 |oG=>exact lst .oG
 |own i=>exact lst (.own i)
 |sub i o n=>exact lst (.sub i o n)
 |ptr i x o=>exact lst (.ptr i x o)
 |inn i x o=>exact lst (.inn i x o)
 |j3 d x=>exact lst (.j3 d x)
 |agg x=>exact lst (.agg x)
 |tup x=>exact lst (.tup x)
 |fn f a b=>exact lst (.fn f a b)
 |undef=>exact lst .undef
end
end
section
abbrev Cell:=Nat× Nat
def _root_.Go.World.at? (w:World) (p:Cell):Option Value:=w.cell? ⟨p.1,p.2,none⟩
def _root_.Go.World.er (w:World) (p:Cell):Nat× Nat× Nat:=
 match w.heap[p.1]? with
 |some (.cells c _ fr)=>(fr.1,fr.2,c.size)
 |_=>(0,0,0)
def calm (r:Nat× Nat× Nat):Bool:=decide (r.1=r.2.1\/r.2.2<=r.1)
def whole (r:Nat× Nat× Nat) (o n:Nat):Bool:=calm r&&decide (o=0/\r.2.2=n)
theorem pO {r:Nat× Nat× Nat} {o n:Nat} (h:whole r o n=true):calm r=true:=by
 unfold whole at h;rw[Qk]at h;exact h.1
theorem GM {n:Nat}:whole (0,0,n) 0 n=true:=by simp[whole,calm]
theorem kX {w:World} {b o:Nat} {u:Value} (h:w.at? (b,o)=some u) (hc:calm (w.er (b,o))=true):w.frozen? ⟨b,o,none⟩=false:=by
 unfold World.at? World.cell? at h;unfold calm World.er at hc;unfold World.frozen?
 cases hb:w.heap[b]? with
 |none=>rfl
 |some ob=>
  cases ob with
  |cells c t fr=>
   simp only[hb,Re,RA,if_false]at h;simp only[hb,decide_eq_true_eq]at hc;have:=(QH.1 h).1;obtain⟨lo,hi⟩:=fr;simp only at hc⊢;rw[Bool.and_eq_false_iff,decide_eq_false_iff_not,decide_eq_false_iff_not]
   omega
  |_=>rfl
theorem CV (w:World) (a:Addr) (v:Value) (p:Cell):(w.setCell a v).er p=w.er p:=by
 unfold World.er World.setCell;simp only[Array.getElem?_modify];by_cases e:a.block=p.1
 ·rw[if_pos e]
  cases hb:w.heap[p.1]? with
  |none=>rfl
  |some ob=>
   cases ob with
   |cells c t fr=>simp only[Rv];split<;>simp
   |_=>rfl
 ·rw[if_neg e]
theorem fM (b:Nat):∀(vs:List Value) (o:Nat) (w:World) (p:Cell),(w.setCells b o vs).er p=w.er p
 |[],_,_,_=>rfl
 |v::vs,o,w,p=>(fM b vs (o+1) (w.setCell ⟨b,o,none⟩ v) p).trans (CV w _ v p)
def one:Value->Bool
 |.agg _|.tuple _=>false
 |_=>true
class Tok where
 env:Nat->Value
 JA:∀n,one (env n)=true
 JB:env 0=.slice none 0 0
variable [Tok]
def reg (b o n:Nat) (p:Cell):Prop:=p.1=b/\o<=p.2/\p.2<o+n
def ay (t:Ty) (xs:List t.El) (i j:Nat) (r:R):Prop:=∃x,xs[i]? =some x/\(t.cells x)[j]? =some r
theorem aM {t:Ty} {xs:List t.El} {i j:Nat} {r:R} (h:ay t xs i j r):i<xs.length/\j<t.sz:=by
 obtain⟨x,hx,hr⟩:=h;refine⟨(Of.1 hx).1,?_⟩;have:=(Of.1 hr).1;rwa [Ty.ch]at this
theorem dm {t:Ty} {xs:List t.El} {i j:Nat} (hi:i<xs.length) (hj:j<t.sz):∃r,ay t xs i j r:=by
 refine⟨(t.cells xs[i])[j]'(by rw[Ty.ch];exact hj),xs[i],?_,?_⟩<;>simp
theorem oN {i j n s c:Nat} (hi:i<n) (hj:j<s) (h:n<=c):i*s+j<c*s:=by
 have h1:(i+1)*s<=c*s:=QB s (by omega);have:(i+1)*s=i*s+s:=Rw i s;omega
inductive iP (w:World) (ok:Cell->Prop):R->Value->Prop
 |int (k:IntKind) (n:Int):iP w ok (.int k n) (.int k n)
 |bool (b:Bool):iP w ok (.bool b) (.bool b)
 |str (l:List UInt8):iP w ok (.str l) (.string ⟨l.toArray⟩)
 |sl (t:Ty) (xs:List t.El) (a:Option Addr) (cap b o:Nat) (vs:Nat->Nat->Value)
   (gX:xs.length<=cap) (ha:xs=[]\/a=some ⟨b,o,none⟩)
   (hc:∀i j r,ay t xs i j r->ok (b,o+(i*t.sz+j))/\w.at? (b,o+(i*t.sz+j))=some (vs i j))
   (hr:∀i j r,ay t xs i j r->iP w ok r (vs i j)):iP w ok (.sl t xs) (.slice a xs.length cap)
 |tok (n:Nat):iP w ok (.tok n) (Tok.env n)
 |lz (v:Value) (h:one v=true):iP w ok .lz v
theorem iP.frame {w w':World} {ok ok':Cell->Prop} {r:R} {v:Value} (h:iP w ok r v)
  (hf:∀p u,ok p->w.at? p=some u->ok' p/\w'.at? p=some u):iP w' ok' r v:=by
 induction h with
 |int=>exact .int _ _
 |bool=>exact .bool _
 |str=>exact .str _
 |tok=>exact .tok _
 |lz v h=>exact .lz v h
 |sl t xs a cap b o vs gX ha hc _ ih=>
  exact .sl t xs a cap b o vs gX ha (λi j r hr=>hf _ _ (hc i j r hr).1 (hc i j r hr).2) ih
structure Row (w:World) (inner:R->Value->(Cell->Prop)->Prop) (t:Ty) (xs:List t.El) (hdr:Value) (fp:Cell->Prop) where
 a:Option Addr
 cap:Nat
 b:Nat
 o:Nat
 vs:Nat->Nat->Value
 fs:Nat->Nat->Cell->Prop
 wB:hdr=.slice a xs.length cap
 gX:xs.length<=cap
 ha:cap=0\/a=some ⟨b,o,none⟩
 j4:∀j,j<cap*t.sz->(∃v,w.at? (b,o+j)=some v)/\whole (w.er (b,o+j)) o (cap*t.sz)=true
 hc:∀i j r,ay t xs i j r->w.at? (b,o+(i*t.sz+j))=some (vs i j)
 hr:∀i j r,ay t xs i j r->inner r (vs i j) (fs i j)
 hd1:∀i j r p,ay t xs i j r->fs i j p->¬reg b o (cap*t.sz) p
 hd2:∀i j r i' j' r' p,ay t xs i j r->ay t xs i' j' r'->fs i j p->fs i' j' p->i=i'/\j=j'
 hfp:∀p,fp p↔reg b o (cap*t.sz) p\/∃i j r,ay t xs i j r/\fs i j p
inductive fm (w:World):R->Value->(Cell->Prop)->Prop
 |int (k:IntKind) (n:Int):fm w (.int k n) (.int k n) (λ_=>False)
 |bool (b:Bool):fm w (.bool b) (.bool b) (λ_=>False)
 |str (l:List UInt8):fm w (.str l) (.string ⟨l.toArray⟩) (λ_=>False)
 |sl (t:Ty) (xs:List t.El) (a:Option Addr) (cap b o:Nat) (vs:Nat->Nat->Value) (fs:Nat->Nat->Cell->Prop) (fp:Cell->Prop)
   (gX:xs.length<=cap) (ha:cap=0\/a=some ⟨b,o,none⟩)
   (j4:∀j,j<cap*t.sz->(∃v,w.at? (b,o+j)=some v)/\whole (w.er (b,o+j)) o (cap*t.sz)=true)
   (hc:∀i j r,ay t xs i j r->w.at? (b,o+(i*t.sz+j))=some (vs i j))
   (hr:∀i j r,ay t xs i j r->fm w r (vs i j) (fs i j))
   (hd1:∀i j r p,ay t xs i j r->fs i j p->¬reg b o (cap*t.sz) p)
   (hd2:∀i j r i' j' r' p,ay t xs i j r->ay t xs i' j' r'->fs i j p->fs i' j' p->i=i'/\j=j')
   (hfp:∀p,fp p↔reg b o (cap*t.sz) p\/∃i j r,ay t xs i j r/\fs i j p):fm w (.sl t xs) (.slice a xs.length cap) fp
 |tok (n:Nat):fm w (.tok n) (Tok.env n) (λ_=>False)
 |lz (v:Value) (h:one v=true):fm w .lz v (λ_=>False)
theorem fm.row {w:World} {t:Ty} {xs:List t.El} {v:Value} {fp:Cell->Prop} (h:fm w (.sl t xs) v fp):Nonempty (Row w (fm w) t xs v fp):=by
 cases h with
 |sl t xs a cap b o vs fs fp gX ha j4 hc hr hd1 hd2 hfp=>exact⟨⟨a,cap,b,o,vs,fs,rfl,gX,ha,j4,hc,hr,hd1,hd2,hfp⟩⟩
theorem Row.PF {w:World} {t:Ty} {xs:List t.El} {v:Value} {fp:Cell->Prop} (h:Row w (fm w) t xs v fp):fm w (.sl t xs) v fp:=by
 obtain⟨a,cap,b,o,vs,fs,rfl,gX,ha,j4,hc,hr,hd1,hd2,hfp⟩:=h;exact .sl t xs a cap b o vs fs fp gX ha j4 hc hr hd1 hd2 hfp
theorem fm.frame {w w':World} {r:R} {v:Value} {fp:Cell->Prop} (h:fm w r v fp)
  (hf:∀p u,fp p->w.at? p=some u->w'.at? p=some u/\w'.er p=w.er p):fm w' r v fp:=by
 induction h with
 |int=>exact .int _ _
 |bool=>exact .bool _
 |str=>exact .str _
 |tok=>exact .tok _
 |lz v h=>exact .lz v h
 |sl t xs a cap b o vs fs fp gX ha j4 hc _ hd1 hd2 hfp ih=>
  have hin:∀i j r,ay t xs i j r->fp (b,o+(i*t.sz+j)):=λi j r hr=>(hfp _).2 (.inl ⟨rfl,by simp,by
   have:=oN (aM hr).1 (aM hr).2 gX;simp;omega⟩)
  refine .sl t xs a cap b o vs fs fp gX ha (λj hj=>?_) (λi j r hr=>(hf _ _ (hin i j r hr) (hc i j r hr)).1)
   (λi j r hr=>ih i j r hr λp u hp=>hf p u ((hfp p).2 (.inr ⟨i,j,r,hr,hp⟩))) hd1 hd2 hfp
  obtain⟨⟨v,hv⟩,hi⟩:=j4 j hj;have:=hf (b,o+j) v ((hfp _).2 (.inl ⟨rfl,by simp,by simp;omega⟩)) hv;exact⟨⟨v,this.1⟩,by rw[this.2];exact hi⟩
theorem fm.Lz {w:World} {r:R} {v:Value} {fp:Cell->Prop} {ok:Cell->Prop} (h:fm w r v fp) (hok:∀p,fp p->ok p):iP w ok r v:=by
 induction h with
 |int=>exact .int _ _
 |bool=>exact .bool _
 |str=>exact .str _
 |tok=>exact .tok _
 |lz v h=>exact .lz v h
 |sl t xs a cap b o vs fs fp gX ha j4 hc _ hd1 hd2 hfp ih=>
  refine .sl t xs a cap b o vs gX ?_ (λi j r hr=>⟨hok _ ((hfp _).2 (.inl ⟨rfl,by simp,by
   have:=oN (aM hr).1 (aM hr).2 gX;simp;omega⟩)),hc i j r hr⟩)
   (λi j r hr=>ih i j r hr λp hp=>hok p ((hfp p).2 (.inr ⟨i,j,r,hr,hp⟩)))
  rcases ha with rfl|h
  ·exact .inl (Q6.1 (by omega))
  ·exact .inr h
theorem fm.there {w:World} {r:R} {v:Value} {fp:Cell->Prop} (h:fm w r v fp):∀p,fp p->∃u,w.at? p=some u:=by
 induction h with
 |int=>exactλ_ h=>h.elim
 |bool=>exactλ_ h=>h.elim
 |str=>exactλ_ h=>h.elim
 |tok=>exactλ_ h=>h.elim
 |lz=>exactλ_ h=>h.elim
 |sl t xs a cap b o vs fs fp gX ha j4 hc _ hd1 hd2 hfp ih=>
  intro p hp
  rcases(hfp p).1 hp with⟨h1,h2,h3⟩|⟨i,j,r,hr,hp⟩
  ·obtain⟨p1,p2⟩:=p;have h1:p1=b:=h1;simp only at h1 h2 h3;subst h1;have:=(j4 (p2-o) (by omega)).1;rwa [show o+(p2-o)=p2 from by omega]at this
  ·exact ih i j r hr p hp
structure Pl where
 hdr:Nat->Value
 fp:Nat->Cell->Prop
 base:Cell->Prop
def Blk.j5:Blk->Bool
 |.box _=>true
 |.arr _ _ _=>false
def okd (H:aI) (pl:Pl) (d:List Nat) (p:Cell):Prop:=pl.base p/\∀i B,look H i=some B->(mem i d=true->B.j5=true)->¬pl.fp i p
inductive al (w:World) (H:aI) (pl:Pl):SV->Value->Prop
 |r (d:List Nat) (x:R) (v:Value) (h:iP w (okd H pl d) x v):al w H pl (.r d x) v
 |cY:al w H pl .cY (.slice none 0 0)
 |oG:al w H pl .oG (.pointer none)
 |own (i:Nat) (sh:Option (List Nat)) (t:Ty) (xs:List t.El) (h:look H i=some (.arr sh t xs)):al w H pl (.own i) (pl.hdr i)
 |sub (i o n:Nat) (sh:Option (List Nat)) (t:Ty) (xs:List t.El) (a a':Option Addr) (cap cap':Nat) (h:look H i=some (.arr sh t xs))
   (hh:pl.hdr i=.slice a xs.length cap) (hn:o+n<=xs.length) (hc:n<=cap') (hc':o+cap'=cap) (ha:cap'=0\/a'=a.map (·.add (o*t.sz))):
   al w H pl (.sub i o n) (.slice a' n cap')
 |bsl (i n:Nat) (cs:List SV) (a:Addr) (h:look H i=some (.box cs)) (hh:pl.hdr i=.pointer (some a)):al w H pl (.bsl i n) (.slice (some a) n n)
 |tH (i o:Nat) (cs:List SV) (b k:Nat) (h:look H i=some (.box cs)) (hh:pl.hdr i=.pointer (some ⟨b,k,none⟩)):al w H pl (.ptr i 0 o) (.pointer (some ⟨b,k+o,none⟩))
 |rN (i x o:Nat) (sh:Option (List Nat)) (t:Ty) (xs:List t.El) (b k n cap:Nat) (h:look H i=some (.arr sh t xs)) (hx:x<xs.length)
   (hh:pl.hdr i=.slice (some ⟨b,k,none⟩) n cap):al w H pl (.ptr i x o) (.pointer (some ⟨b,k+(x*t.sz+o),none⟩))
 |inn (i x c:Nat) (sh:Option (List Nat)) (t:Ty) (xs:List t.El) (b k n cap:Nat) (v:Value) (h:look H i=some (.arr sh t xs)) (hx:x<xs.length) (hc:c<t.sz)
   (hh:pl.hdr i=.slice (some ⟨b,k,none⟩) n cap) (hok:okd H pl [i] (b,k+(x*t.sz+c))) (hv:w.at? (b,k+(x*t.sz+c))=some v) (h1:one v=true):al w H pl (.inn i x c) v
 |j3 (d:List Nat) (cs:List R) (b o:Nat) (vs:Nat->Value) (hc:∀j r,cs[j]? =some r->okd H pl d (b,o+j)/\w.at? (b,o+j)=some (vs j))
   (hr:∀j r,cs[j]? =some r->iP w (okd H pl d) r (vs j)):al w H pl (.j3 d cs) (.pointer (some ⟨b,o,none⟩))
 |agg (cs:List SV) (vs:Array Value) (hl:cs.length=vs.size) (h1:∀(j:Nat) (v:Value),vs[j]? =some v->one v=true) (h:∀(j:Nat) (x:SV) (v:Value),cs[j]? =some x->vs[j]? =some v->al w H pl x v):al w H pl (.agg cs) (.agg vs)
 |tup (cs:List SV) (vs:Array Value) (hl:cs.length=vs.size) (h:∀(j:Nat) (x:SV) (v:Value),cs[j]? =some x->vs[j]? =some v->al w H pl x v):al w H pl (.tup cs) (.tuple vs)
 |fn (f:Fn) (as bs:List SV) (us vs:Array Value) (hl:as.length=us.size) (h:∀(j:Nat) (x:SV) (v:Value),as[j]? =some x->us[j]? =some v->al w H pl x v)
   (hl':bs.length=vs.size) (h':∀(j:Nat) (x:SV) (v:Value),bs[j]? =some x->vs[j]? =some v->al w H pl x v):al w H pl (.fn f as bs) (.func f us vs)
 |undef (v:Value):al w H pl .undef v
def dR (w:World) (H:aI) (pl:Pl) (i:Nat):Blk->Prop
 |.box cs=>∃b o,pl.hdr i=.pointer (some ⟨b,o,none⟩)/\(∀p,pl.fp i p↔reg b o cs.length p)/\
   ∀j v,cs[j]? =some v->∃u,w.at? (b,o+j)=some u/\calm (w.er (b,o+j))=true/\one u=true/\al w H pl v u
 |.arr none t xs=>Nonempty (Row w (fm w) t xs (pl.hdr i) (pl.fp i))
 |.arr (some d) t xs=>Nonempty (Row w (λr v f=>iP w (okd H pl d) r v/\∀p,¬f p) t xs (pl.hdr i) (pl.fp i))
structure cE (H:aI) (pl:Pl) (w:World):Prop where
 blk:∀i B,look H i=some B->dR w H pl i B
 dis:∀i j B B' p,look H i=some B->look H j=some B'->pl.fp i p->pl.fp j p->i=j
 ob:∀i B p,look H i=some B->pl.fp i p->pl.base p
 nb:∀p,w.at? p=none->pl.base p
end
section
variable [Tok]
section lists
variable {α:Type}
theorem az (k:Nat) (v:α) (l:List (Nat× α)) (n:Nat):look ((k,v)::l) n=if k=n then some v else look l n:=by
 simp only[look];cases h:Nat.beq k n
 ·have:¬k=n:=λe=>by subst e;simp at h
  simp[this]
 ·have:k=n:=Qj h;simp[this]
theorem eC (l:List (Nat× α)) (n m:Nat) (v:α):look (put l n v) m=if n=m then some v else look l m:=by
 induction l with
 |nil=>rw[put,az]
 |cons x l ih=>
  obtain⟨k,u⟩:=x;simp only[put];cases hk:Nat.beq k n
  ·simp only[cond_false,look,ih];cases hm:Nat.beq k m
   ·simp
   ·have h1:k=m:=Qj hm;subst h1
    have:¬n=k:=λe=>by subst e;simp at hk
    simp[this]
  ·have h1:k=n:=Qj hk;subst h1;simp only[cond_true,look];cases hm:Nat.beq k m
   ·have:¬k=m:=λe=>by subst e;simp at hm
    simp[this]
   ·have:k=m:=Qj hm;simp[this]
theorem aF (l l':List (Nat× α)) (n:Nat):look (l++l') n=(look l n).or (look l' n):=by
 induction l with
 |nil=>simp[look]
 |cons x l ih=>
  obtain⟨k,u⟩:=x;simp only[RB,look];cases Nat.beq k n<;>simp[ih]
theorem mem_iff (i:Nat) (l:List Nat):mem i l=true↔i∈l:=by
 induction l with
 |nil=>simp[mem]
 |cons k l ih=>
  simp only[mem];cases h:Nat.beq k i
  ·have:¬i=k:=λe=>by subst e;simp at h
   simp[ih,this]
  ·have:k=i:=Qj h;simp[this]
theorem fo (T d:List Nat) (h:hit T d=false):∀i,mem i d=true->mem i T=false:=by
 induction d with
 |nil=>intro i hi;simp[mem]at hi
 |cons k l ih=>
  simp only[hit]at h;cases hk:mem k T
  ·rw[hk]at h;intro i hi;rw[mem_iff]at hi
   rcases QG.1 hi with rfl|hi
   ·exact hk
   ·exact ih h i ((mem_iff i l).2 hi)
  ·rw[hk]at h;simp at h
theorem bq (n:Nat) (l:List Blk) (i:Nat):look (aN n l) i=if n<=i then l[i-n]? else none:=by
 induction l generalizing n with
 |nil=>simp[aN,look]
 |cons b l ih=>
  rw[aN,az,ih];by_cases h:n=i
  ·subst h;simp
  ·by_cases h2:n<=i
   ·rw[if_neg h,if_pos (by omega),if_pos h2];rw[show i-n=(i-(n+1))+1 from by omega];rfl
   ·rw[if_neg h,if_neg (by omega),if_neg h2]
theorem CW (u h:aI) (i:Nat):look (qO u h) i=match look u.reverse i with|some b=>some b|none=>look h i:=by
 induction u generalizing h with
 |nil=>simp[qO,look]
 |cons x l ih=>
  obtain⟨k,b⟩:=x;rw[qO,ih,List.reverse_cons,aF,eC,az]
  cases look l.reverse i with
  |some c=>simp
  |none=>by_cases hk:k=i<;>simp[hk,look]
theorem E2 (T:Kil) (s:List (Nat× SV)) (t:Nat):look (Gy T s) t=(look s t).map (SV.aO T):=by
 induction s with
 |nil=>rfl
 |cons x l ih=>
  obtain⟨k,v⟩:=x;rw[Gy,az,az,ih];by_cases h:k=t<;>simp[h]
theorem wC (T:Kil) (h h':aI) (e:wu T h=some h') (i:Nat):
  look h' i=cond (mem i T.1) none ((look h i).bind (Blk.aO T))/\(∀b,look h i=some b->mem i T.1=false->∃b',b.aO T=some b'):=by
 induction h generalizing h' with
 |nil=>simp only[wu,It]at e;subst e;simp[look]
 |cons x l ih=>
  obtain⟨k,b⟩:=x;simp only[wu]at e;cases hk:mem k T.1
  ·simp only[hk,cond_false,An,It]at e;obtain⟨b',hb,l',hl,rfl⟩:=e;rw[az,az];by_cases hi:k=i
   ·subst hi;simp[hk,hb]
   ·simpa[hi]using ih l' hl
  ·simp only[hk,cond_true]at e;have:=ih h' e;rw[az];by_cases hi:k=i
   ·subst hi;simp[hk]at this⊢;exact this
   ·simpa[hi]using this
theorem dV {α:Type} {l:List α} (h:isNil l=true):l=[]:=by cases l with|nil=>rfl|cons _ _=>exact nomatch h
theorem E3 {T:Kil} (h:T.2=[]) (h1:∀i,mem i T.1=true->mem i T.2=true):T=([],[]):=by
 obtain⟨a,b⟩:=T;simp only at h h1;subst h
 cases a with
 |nil=>rfl
 |cons x l=>have:=h1 x (by simp[mem]);exact nomatch this
theorem wD (i:Nat) (a b:List Nat):mem i (a++b)=(mem i a||mem i b):=by
 induction a with
 |nil=>simp[mem]
 |cons x l ih=>simp only[RB,mem,ih];cases Nat.beq x i<;>simp
theorem CR.fG (c:CR):∀i,mem i c.kil.1=true->mem i c.kil.2=true:=λi h=>by
 show mem i (c.gone++c.kV)=true;rw[wD,show mem i c.gone=true from h];rfl
theorem mI (T:Kil) (l:List SV) (j:Nat):(gQ T l)[j]? =(l[j]?).map (SV.aO T):=by
 induction l generalizing j with
 |nil=>rfl
 |cons v l ih=>cases j with
  |zero=>rfl
  |succ j=>simpa[gQ]using ih j
theorem fN (T:Kil) (l:List SV):(gQ T l).length=l.length:=by
 induction l with
 |nil=>rfl
 |cons v l ih=>simp[gQ,ih]
end lists
def Blk.lC:Blk->Blk->Prop
 |.box a,.box b=>a.length=b.length
 |.arr _ t xs,.arr _ t' ys=>t.sz=t'.sz/\xs.length=ys.length
 |_,_=>False
theorem Blk.db (b:Blk):b.lC b:=by cases b<;>simp[Blk.lC]
structure kY (T:Kil) (w:World) (H:aI) (pl:Pl) (w':World) (H':aI) (pl':Pl):Prop where
 k1:∀i B,look H i=some B->mem i T.1=false->∃B',look H' i=some B'/\B.lC B'/\pl'.hdr i=pl.hdr i
 k2:∀d p u,(∀i,mem i d=true->mem i T.2=false)->okd H pl d p->w.at? p=some u->okd H' pl' d p/\w'.at? p=some u
theorem al.bO {T:Kil} {w w':World} {H H':aI} {pl pl':Pl} (hk:kY T w H pl w' H' pl') {v:SV} {u:Value} (h:al w H pl v u):
  al w' H' pl' (v.aO T) u:=by
 induction h with
 |r d x v h=>
  simp only[SV.aO];cases hd:hit T.2 d
  ·exact .r d x v (h.frame λp u hp hu=>hk.k2 d p u (fo T.2 d hd) hp hu)
  ·exact .undef _
 |cY=>exact .cY
 |oG=>exact .oG
 |own i sh t xs h=>
  simp only[SV.aO];cases hi:mem i T.1
  ·obtain⟨B',h1,h2,h3⟩:=hk.k1 i _ h hi
   cases B' with
   |box cs=>exact h2.elim
   |arr sh' t' ys=>rw[<-h3];exact .own i sh' t' ys h1
  ·exact .undef _
 |sub i o n sh t xs a a' cap cap' h hh hn hc hc' ha=>
  simp only[SV.aO];cases hi:mem i T.1
  ·obtain⟨B',h1,h2,h3⟩:=hk.k1 i _ h hi
   cases B' with
   |box cs=>exact h2.elim
   |arr sh' t' ys=>
    obtain⟨hz,hl⟩:=h2;exact .sub i o n sh' t' ys a a' cap cap' h1 (by rw[h3,hh,hl]) (hl▸hn) hc hc' (by rw[<-hz];exact ha)
  ·exact .undef _
 |bsl i n cs a h hh=>
  simp only[SV.aO];cases hi:mem i T.1
  ·obtain⟨B',h1,h2,h3⟩:=hk.k1 i _ h hi
   cases B' with
   |arr _ _ _=>exact h2.elim
   |box ds=>
    exact .bsl i n ds a h1 (h3.trans hh)
  ·exact .undef _
 |tH i o cs b k h hh=>
  simp only[SV.aO];cases hi:mem i T.1
  ·obtain⟨B',h1,h2,h3⟩:=hk.k1 i _ h hi
   cases B' with
   |arr _ _ _=>exact h2.elim
   |box ds=>exact .tH i o ds b k h1 (h3.trans hh)
  ·exact .undef _
 |rN i x o sh t xs b k n cap h hx hh=>
  simp only[SV.aO];cases hi:mem i T.1
  ·obtain⟨B',h1,h2,h3⟩:=hk.k1 i _ h hi
   cases B' with
   |box cs=>exact h2.elim
   |arr sh' t' ys=>
    obtain⟨hz,hl⟩:=h2;rw[hz];exact .rN i x o sh' t' ys b k n cap h1 (hl▸hx) (h3.trans hh)
  ·exact .undef _
 |inn i x c sh t xs b k n cap v h hx hc hh hok hv h1=>
  simp only[SV.aO];cases hi:(mem i T.1||mem i T.2)
  ·rw[Bool.or_eq_false_iff]at hi;obtain⟨B',g1,g2,g3⟩:=hk.k1 i _ h hi.1
   have g4:=hk.k2 [i] _ v (λj hj=>by
    simp only[mem]at hj;cases hb:Nat.beq i j<;>simp only[hb,cond_true,cond_false]at hj
    ·exact nomatch hj
    ·rw[<-Qj hb];exact hi.2) hok hv
   cases B' with
   |box cs=>exact g2.elim
   |arr sh' t' ys=>
    obtain⟨hz,hl⟩:=g2;rw[hz]at g4 hc;exact .inn i x c sh' t' ys b k n cap v g1 (hl▸hx) hc (g3.trans hh) g4.1 g4.2 h1
  ·exact .undef _
 |j3 d cs b o vs hc hr=>
  simp only[SV.aO];cases hd:hit T.2 d
  ·exact .j3 d cs b o vs (λj r hj=>hk.k2 d _ _ (fo T.2 d hd) (hc j r hj).1 (hc j r hj).2)
    λj r hj=>(hr j r hj).frame λp u hp hu=>hk.k2 d p u (fo T.2 d hd) hp hu
  ·exact .undef _
 |agg cs vs hl h1 h ih=>
  refine .agg _ vs (by rw[fN,hl]) h1 λj x v hx hv=>?_;rw[mI]at hx;obtain⟨y,hy,rfl⟩:=Qp.1 hx
  exact ih j y v hy hv
 |tup cs vs hl h ih=>
  refine .tup _ vs (by rw[fN,hl]) λj x v hx hv=>?_;rw[mI]at hx;obtain⟨y,hy,rfl⟩:=Qp.1 hx
  exact ih j y v hy hv
 |fn f as bs us vs hl h hl' h' ih ih'=>
  refine .fn f _ _ us vs (by rw[fN,hl]) (λj x v hx hv=>?_) (by rw[fN,hl']) λj x v hx hv=>?_
  ·rw[mI]at hx;obtain⟨y,hy,rfl⟩:=Qp.1 hx;exact ih j y v hy hv
  ·rw[mI]at hx;obtain⟨y,hy,rfl⟩:=Qp.1 hx
   exact ih' j y v hy hv
 |undef v=>exact .undef _
theorem Ba (d:List Nat):hit [] d=false:=by
 induction d with
 |nil=>rfl
 |cons k l ih=>simpa[hit,mem]using ih
mutual
theorem dc:(v:SV)->v.aO ([],[])=v
 |.r d x=>by simp[SV.aO,Ba]
 |.own j=>by simp[SV.aO,mem]
 |.sub j o n=>by simp[SV.aO,mem]
 |.bsl j n=>by simp[SV.aO,mem]
 |.ptr j x o=>by simp[SV.aO,mem]
 |.inn j x c=>by simp[SV.aO,mem]
 |.j3 d cs=>by simp[SV.aO,Ba]
 |.agg cs=>by simp[SV.aO,iQ cs]
 |.tup cs=>by simp[SV.aO,iQ cs]
 |.fn f a b=>by simp[SV.aO,iQ a,iQ b]
 |.cY=>by simp[SV.aO]
 |.oG=>by simp[SV.aO]
 |.undef=>by simp[SV.aO]
theorem iQ:(l:List SV)->gQ ([],[]) l=l
 |[]=>rfl
 |v::l=>by simp[gQ,dc v,iQ l]
end
theorem al.vw {w w':World} {H H':aI} {pl pl':Pl} (hk:kY ([],[]) w H pl w' H' pl') {v:SV} {u:Value} (h:al w H pl v u):
  al w' H' pl' v u:=by have:=h.bO hk;rwa [dc]at this
end
section
variable [Tok]
section
variable {w:World} {H:aI} {pl:Pl}
theorem iP.scalar {ok:Cell->Prop} {x:R} {v:Value} (h:iP w ok x v) (ok':Cell->Prop) (hs:∀t xs,x≠.sl t xs):iP w ok' x v:=by
 cases h with
 |int=>exact .int _ _
 |bool=>exact .bool _
 |str=>exact .str _
 |tok=>exact .tok _
 |lz v h=>exact .lz v h
 |sl t xs=>exact(hs t xs rfl).elim
theorem wE {d:List Nat} {x:R} {v:Value} (h:iP w (okd H pl d) x v):al w H pl (mkR d x) v:=by
 cases x with
 |sl t xs=>exact .r _ _ _ h
 |_=>exact .r _ _ _ (h.scalar _ (λ_ _ e=>nomatch e))
theorem iP.qG {ok:Cell->Prop} {x:R} {v:Value} (h:iP w ok x v):one v=true:=by cases h<;>first|rfl|exact Tok.JA _|assumption
def gi (w:World) (H:aI) (pl:Pl) (s:List (Nat× SV)) (a:Act):Prop:=∀t v,look s t=some v->al w H pl v (a.tmps.getD t undef)
theorem wF {v:Value} {x:SV} (h:tC v=some x):al w H pl x v:=by
 unfold tC at h
 split at h<;>first|(cases h)|skip
 ·exact .r _ _ _ (.bool _)
 ·exact .r _ _ _ (.int _ _)
 ·exact .r _ _ _ (.str _)
 ·exact .cY
 ·exact .oG
theorem zC:∀{vs:List Value} {l:List SV},zy vs=some l->l.length=vs.length/\∀(j:Nat) (x:SV) (v:Value),l[j]? =some x->vs[j]? =some v->al w H pl x v
 |[],l,h=>by cases h;exact⟨rfl,λj x v hx _=>by simp at hx⟩
 |v::vs,l,h=>by
  simp only[zy,An,It]at h;obtain⟨x,hx,xs,hxs,rfl⟩:=h;obtain⟨h1,h2⟩:=zC hxs;refine⟨by simp[h1],λj y u hy hu=>?_⟩
  cases j with
  |zero=>simp at hy hu;subst hy hu;exact wF hx
  |succ j=>exact h2 j y u (by simpa using hy) (by simpa using hu)
theorem E4 {v:Value} {x:SV} (h:tC v=some x):one v=true:=by
 unfold tC at h
 split at h<;>first|rfl|(cases h)
theorem zD:∀{vs:List Value} {l:List SV},zy vs=some l->∀(j:Nat) (v:Value),vs[j]? =some v->one v=true
 |[],l,_,j,v,hv=>by simp at hv
 |u::vs,l,h,j,v,hv=>by
  simp only[zy,An,It]at h;obtain⟨x,hx,xs,hxs,rfl⟩:=h
  cases j with
  |zero=>simp at hv;subst hv;exact E4 hx
  |succ j=>exact zD hxs j v (by simpa using hv)
theorem tI {v:Value} {x:SV} (h:Gz v=some x):al w H pl x v:=by
 unfold Gz at h;split at h
 ·simp only[An,It]at h;obtain⟨l,hl,rfl⟩:=h;obtain⟨h1,h2⟩:=zC (w:=w) (H:=H) (pl:=pl) hl;refine .agg _ _ (by simpa using h1) (λj v hv=>?_) λj x v hx hv=>h2 j x v hx (by simpa using hv);exact zD hl j v (by simpa using hv)
 ·exact wF h
theorem aT {s:List (Nat× SV)} {a:Act} (hs:gi w H pl s a) {o:Operand} {x:SV} (h:opd s o=some x):al w H pl x (a.eval o):=by
 cases o with
 |tmp t=>exact hs t x h
 |const v=>exact tI h
 |func f=>
  simp only[opd,It]at h;subst h
  exact .fn _ _ _ _ _ rfl (λj x v hx _=>by simp at hx) rfl (λj x v hx _=>by simp at hx)
 |global g=>exact nomatch h
theorem dC {P:Program} {T:TypeId} {i:TypeInfo} (h:P.info? T=some i) (w:World):(sizeOf T).run P w=.ok i.size w:=by
 simp[sizeOf,typeInfo,h]
theorem cD {P:Program} {T:TypeId} {d:TypeDesc} (h:P.underlying T=some d) (w:World):(underlying T).run P w=.ok d w:=by
 simp[underlying,h]
theorem kK {P:Program} {T:TypeId} {d:TypeDesc} (h:P.underlying T=some d) (w:World):(isAgg T).run P w=.ok (wv P T) w:=by
 simp only[isAgg,Sem.run_bind,cD h,Result.andThen_ok,wv,h];cases d<;>rfl
theorem wG (hr:cE H pl w) {p:SV} {u:Value} (hp:al w H pl p u) {cs:List SV} (h:kU H p=some cs):
  ∃b o,u=.pointer (some ⟨b,o,none⟩)/\∀(j:Nat) (x:SV),cs[j]? =some x->∃y,w.at? (b,o+j)=some y/\one y=true/\al w H pl x y:=by
 cases hp with
 |j3 d cs' b o vs hc hr'=>
  simp only[kU,It]at h;subst h;refine⟨b,o,rfl,λj x hx=>?_⟩;rw[QZ]at hx;obtain⟨r,hj,rfl⟩:=Qp.1 hx
  exact⟨vs j,(hc j r hj).2,(hr' j r hj).qG,wE (hr' j r hj)⟩
 |tH i o cs' b k hl hh=>
  simp only[kU,hl,It]at h;subst h;obtain⟨b',o',e,_,hc⟩:=hr.blk i _ hl;rw[hh]at e;cases e;refine⟨b,k+o,rfl,λj x hx=>?_⟩;rw[Qx]at hx;obtain⟨y,h1,_,h3,h4⟩:=hc _ _ hx
  exact⟨y,by rw[Rd];exact h1,h3,h4⟩
 |rN i x o sh t xs b k n cap hl hx hh=>
  simp only[kU,hl,An,It]at h;obtain⟨e,he,rfl⟩:=h;have hb:=hr.blk i _ hl;refine⟨b,k+(x*t.sz+o),rfl,λj y hy=>?_⟩;rw[Qx,QZ]at hy;obtain⟨r,hj,rfl⟩:=Qp.1 hy;have hcell:ay t xs x (o+j) r:=⟨e,he,hj⟩
  cases sh with
  |none=>
   obtain⟨R⟩:=hb;obtain⟨a',cap',b',o',vs,fs,h1,h2,h3,h4,h5,h6,h7,h8,h9⟩:=R;rw[hh]at h1;cases h1
   have hne:cap≠0:=by omega
   have h3:=h3.resolve_left hne;cases h3;refine⟨vs x (o+j),by rw[show k+(x*t.sz+o)+j=k+(x*t.sz+(o+j))from by omega];exact h5 _ _ _ hcell,?_,?_⟩
   ·exact((h6 _ _ _ hcell).Lz (ok:=λ_=>True) (λ_ _=>trivial)).qG
   ·refine wE ((h6 _ _ _ hcell).Lz λp hp=>⟨hr.ob i _ p hl ((h9 p).2 (.inr ⟨_,_,_,hcell,hp⟩)),λi' B hB hm hf=>?_⟩);have hp':pl.fp i p:=(h9 p).2 (.inr ⟨_,_,_,hcell,hp⟩);have:=hr.dis i' i _ _ p hB hl hf hp';subst this;have hbx:=hm (by simp[Jo,mem]);rw[hl]at hB;cases hB
    simp[Blk.j5]at hbx
  |some d=>
   obtain⟨R⟩:=hb;obtain⟨a',cap',b',o',vs,fs,h1,h2,h3,h4,h5,h6,h7,h8,h9⟩:=R;rw[hh]at h1;cases h1
   have hne:cap≠0:=by omega
   have h3:=h3.resolve_left hne;cases h3
   exact⟨vs x (o+j),by rw[show k+(x*t.sz+o)+j=k+(x*t.sz+(o+j))from by omega];exact h5 _ _ _ hcell,(h6 _ _ _ hcell).1.qG,wE (h6 _ _ _ hcell).1⟩
 |_=>exact nomatch h
theorem zE {α:Type} {n:Nat} {l m:List α} (h:takeN n l=some m):m.length=n/\∀j,j<n->m[j]? =l[j]? :=by
 unfold takeN at h;cases hn:Nat.ble n l.length
 ·simp[hn]at h
 ·simp only[hn,cond_true,It]at h;subst h;have:=Qw hn;exact⟨by simp[this],λj hj=>by simp[hj]⟩
theorem Bb {P:Program} {T:TypeId} {cs:List SV} {v:SV} (h:hY P T cs=some v) (b o:Nat)
  (hc:∀(j:Nat) (x:SV),cs[j]? =some x->∃y,w.at? (b,o+j)=some y/\one y=true/\al w H pl x y):
  ∃u,(loadVar T ⟨b,o,none⟩).run P w=.ok u w/\al w H pl v u:=by
 simp only[hY,An]at h;obtain⟨d,hd,i,hi,l,hl,h⟩:=h;obtain⟨h1,h2⟩:=zE hl
 have hy:∀j,j<i.size->∃y x,l[j]? =some x/\w.at? (b,o+j)=some y/\al w H pl x y:=λj hj=>by
  have hx:l[j]? =some (l[j]'(by omega)):=On (by omega);obtain⟨y,h3,_,h5⟩:=hc j _ ((h2 j hj)▸hx);exact⟨y,_,hx,h3,h5⟩
 cases ha:wv P T
 ·simp only[ha,cond_false]at h
  match l,h1,hl,h,hy,h2 with
  |[x],h1,hl,h,hy,h2=>
   simp only[It]at h;subst h;have h1:i.size=1:=h1.symm;obtain⟨y,x',h3,h4,h5⟩:=hy 0 (by omega);simp at h3;subst h3;refine⟨y,?_,h5⟩;have h4:w.cell? ⟨b,o,none⟩=some y:=h4;simp[loadVar,kK hd,ha,h4]
 ·simp only[ha,cond_true,It]at h;subst h
  let f:Nat->Value:=λj=>(w.at? (b,o+j)).getD undef
  have hf:∀j,j<i.size->w.cell? (Addr.add ⟨b,o,none⟩ j)=some (f j):=λj hj=>by
   obtain⟨y,x,_,h4,_⟩:=hy j hj
   have e:Addr.add ⟨b,o,none⟩ j=⟨b,o+j,none⟩:=by
    unfold Addr.add;split
    ·rename_i h0;subst h0;rfl
    ·rfl
   rw[e];show w.at? (b,o+j)=some (f j);simp only[f,h4];rfl
  have hone:∀j,j<i.size->one (f j)=true:=λj hj=>by
   have hx:l[j]? =some (l[j]'(by omega)):=On (by omega);obtain⟨y,h3,h4,_⟩:=hc j _ ((h2 j hj)▸hx);simp only[f,h3];exact h4
  refine⟨.agg ((List.range i.size).map f).toArray,?_,?_⟩
  ·simp[loadVar,kK hd,ha,dC hi,run_loadCells (P:=P) w ⟨b,o,none⟩ i.size f hf]
  ·refine .agg _ _ (by simp[h1]) (λj v hv=>by
    by_cases hj:j<i.size
    ·have:v=f j:=by simp[hj]at hv;exact hv.symm
     rw[this];exact hone j hj
    ·simp[hj]at hv) λj x v hx hv=>?_
   have hj:j<i.size:=by have:=(Of.1 hx).1;omega
   obtain⟨y,x',h3,h4,h5⟩:=hy j hj;rw[h3]at hx;cases hx
   have:v=f j:=by simp[hj]at hv;exact hv.symm
   subst this;simp only[f,h4];exact h5
end
end
end Go.Proofs.Ev
