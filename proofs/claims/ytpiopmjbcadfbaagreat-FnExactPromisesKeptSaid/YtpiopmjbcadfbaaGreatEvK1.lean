/- The evaluator over the model's code, and that it is sound: part 1. -/
import Derived.Calls
import Derived.Laws.IdiomCopy
import Derived.Laws.Cells
import Derived.Laws.Sem
set_option linter.unusedVariables false
set_option linter.unusedSimpArgs false
set_option linter.unusedSectionVars false
namespace Go.Proofs.Ev
theorem An:type_of% @Option.bind_eq_some_iff:=@Option.bind_eq_some_iff
theorem It:type_of% @Option.some.injEq:=@Option.some.injEq
theorem Of:type_of% @List.getElem?_eq_some_iff:=@List.getElem?_eq_some_iff
theorem On:type_of% @List.getElem?_eq_getElem:=@List.getElem?_eq_getElem
theorem QW:type_of% @Nat.eq_of_beq_eq_true:=@Nat.eq_of_beq_eq_true
theorem QX:type_of% @Bool.and_eq_true:=@Bool.and_eq_true
theorem QY:type_of% @Int.toNat_natCast:=@Int.toNat_natCast
theorem QZ:type_of% @List.getElem?_append_right:=@List.getElem?_append_right
theorem Q0:type_of% @List.getElem?_append_left:=@List.getElem?_append_left
theorem Q1:type_of% @Option.elim_some:=@Option.elim_some
theorem Q2:type_of% @Option.map_eq_some_iff:=@Option.map_eq_some_iff
theorem Q3:type_of% @Bool.not_true:=@Bool.not_true
theorem Q4:type_of% @List.length_cons:=@List.length_cons
theorem Q5:type_of% @List.length_append:=@List.length_append
theorem Q6:type_of% @Bool.true_and:=@Bool.true_and
theorem Q7:type_of% @List.getElem_mem:=@List.getElem_mem
theorem Q8:type_of% @Nat.zero_add:=@Nat.zero_add
theorem Q9:type_of% @Option.bind_some:=@Option.bind_some
theorem Ra:type_of% @Array.getElem?_eq_getElem:=@Array.getElem?_eq_getElem
theorem Rb:type_of% @Nat.le_of_ble_eq_true:=@Nat.le_of_ble_eq_true
theorem Rc:type_of% @List.getElem?_drop:=@List.getElem?_drop
theorem Rd:type_of% @Nat.le_refl:=@Nat.le_refl
theorem Re:type_of% @List.mem_of_getElem?:=@List.mem_of_getElem?
theorem Rf:type_of% @Array.getD_eq_getD_getElem?:=@Array.getD_eq_getD_getElem?
theorem Rg:type_of% @Nat.mul_le_mul_right:=@Nat.mul_le_mul_right
theorem Rh:type_of% @List.mem_cons_of_mem:=@List.mem_cons_of_mem
theorem Ri:type_of% @Prod.mk.injEq:=@Prod.mk.injEq
theorem Rj:type_of% @List.append_assoc:=@List.append_assoc
theorem Rk:type_of% @List.mem_cons:=@List.mem_cons
theorem Rm:type_of% @Array.getElem?_eq_some_iff:=@Array.getElem?_eq_some_iff
theorem Rn:type_of% @Option.bind_assoc:=@Option.bind_assoc
theorem Ro:type_of% @Bool.not_false:=@Bool.not_false
theorem Rp:type_of% @Nat.add_mul:=@Nat.add_mul
theorem Rq:type_of% @List.getElem?_eq_none:=@List.getElem?_eq_none
theorem Rr:type_of% @List.mem_cons_self:=@List.mem_cons_self
theorem Rs:type_of% @List.length_nil:=@List.length_nil
theorem Rt:type_of% @List.getD_eq_getElem?_getD:=@List.getD_eq_getElem?_getD
theorem Ru:type_of% @Nat.add_sub_cancel_left:=@Nat.add_sub_cancel_left
theorem Rv:type_of% @Nat.zero_le:=@Nat.zero_le
theorem Rw:type_of% @Nat.add_zero:=@Nat.add_zero
theorem Rx:type_of% @Nat.mul_comm:=@Nat.mul_comm
theorem Ry:type_of% @List.getElem?_take:=@List.getElem?_take
theorem Rz:type_of% @List.mem_iff_getElem:=@List.mem_iff_getElem
theorem RA:type_of% @List.append_nil:=@List.append_nil
theorem RB:type_of% @List.map_cons:=@List.map_cons
theorem RC:type_of% @List.length_take:=@List.length_take
theorem RD:type_of% @List.getElem?_map:=@List.getElem?_map
theorem RE:type_of% @Nat.mod_eq_of_lt:=@Nat.mod_eq_of_lt
theorem RF:type_of% @Nat.sub_zero:=@Nat.sub_zero
theorem RG:type_of% @List.length_set:=@List.length_set
theorem RH:type_of% @Nat.mul_le_mul:=@Nat.mul_le_mul
theorem RI:type_of% @Option.bind_none:=@Option.bind_none
theorem RJ:type_of% @Array.getElem?_toList:=@Array.getElem?_toList
theorem RK:type_of% @List.length_eq_zero_iff:=@List.length_eq_zero_iff
theorem RL:type_of% @List.cons.injEq:=@List.cons.injEq
theorem RM:type_of% @List.mem_filter:=@List.mem_filter
theorem RN:type_of% @List.getElem?_of_mem:=@List.getElem?_of_mem
theorem RO:type_of% @List.getElem?_set_self:=@List.getElem?_set_self
theorem RP:type_of% @Bool.false_and:=@Bool.false_and
theorem RQ:type_of% @List.foldl_cons:=@List.foldl_cons
theorem RR:type_of% @List.take_length:=@List.take_length
theorem RS:type_of% @Array.getElem?_append_left:=@Array.getElem?_append_left
theorem RU:type_of% @Int.tdiv_eq_ediv_of_nonneg:=@Int.tdiv_eq_ediv_of_nonneg
theorem RV:type_of% @Nat.add_assoc:=@Nat.add_assoc
theorem RW:type_of% @Option.isSome_none:=@Option.isSome_none
theorem RX:type_of% @Option.or_none:=@Option.or_none
theorem RY:type_of% @Nat.mul_add_mod:=@Nat.mul_add_mod
theorem RZ:type_of% @List.nodup_cons:=@List.nodup_cons
theorem R2:type_of% @List.map_append:=@List.map_append
theorem R3:type_of% @Int.natCast_mul:=@Int.natCast_mul
theorem R4:type_of% @List.findIdx?_eq_some_iff_getElem:=@List.findIdx?_eq_some_iff_getElem
theorem R5:type_of% @List.length_drop:=@List.length_drop
theorem R6:type_of% @List.foldl_append:=@List.foldl_append
theorem R7:type_of% @Nat.div_eq_of_lt:=@Nat.div_eq_of_lt
theorem R8:type_of% @List.filter_eq_self:=@List.filter_eq_self
theorem R9:type_of% @List.take_append_of_le_length:=@List.take_append_of_le_length
theorem Sa:type_of% @List.take_append_drop:=@List.take_append_drop
theorem Sb:type_of% @Nat.ble_eq_true_of_le:=@Nat.ble_eq_true_of_le
theorem Sc:type_of% @Option.map_some:=@Option.map_some
theorem Sd:type_of% @Nat.succ_mul:=@Nat.succ_mul
theorem Se:type_of% @Nat.le_trans:=@Nat.le_trans
theorem Sf:type_of% @Option.some.inj:=@Option.some.inj
theorem Sg:type_of% @List.mem_append:=@List.mem_append
theorem Si:type_of% @List.nil_append:=@List.nil_append
theorem Sj:type_of% @Bool.false_eq_true:=@Bool.false_eq_true
theorem Sl:type_of% @List.cons_append:=@List.cons_append
theorem Sm:type_of% @Option.getD_some:=@Option.getD_some
theorem Sn:type_of% @List.getElem?_set_ne:=@List.getElem?_set_ne
theorem So:type_of% @List.take_of_length_le:=@List.take_of_length_le
theorem Sp:type_of% @Nat.mul_add_div:=@Nat.mul_add_div
theorem Sq:type_of% @List.range_succ:=@List.range_succ
theorem Sr:type_of% @List.findIdx?_eq_none_iff:=@List.findIdx?_eq_none_iff
theorem Ss:type_of% @List.length_filter_le:=@List.length_filter_le
theorem Su:type_of% @List.all_eq_true:=@List.all_eq_true
theorem Sv:type_of% @List.filter_cons:=@List.filter_cons
theorem Sw:type_of% @Bool.or_true:=@Bool.or_true
theorem Sx:type_of% @List.map_nil:=@List.map_nil
theorem Sy:type_of% @List.sum_cons:=@List.sum_cons
theorem SA:type_of% @Bool.and_eq_true_iff:=@Bool.and_eq_true_iff
theorem SB:type_of% @List.getElem?_cons_succ:=@List.getElem?_cons_succ
theorem SC:type_of% @List.any_eq_not_all_not:=@List.any_eq_not_all_not
theorem SD:type_of% @Array.ext':=@Array.ext'
theorem SE:type_of% @Array.getElem?_append_right:=@Array.getElem?_append_right
theorem SF:type_of% @Option.elim_none:=@Option.elim_none
theorem SG:type_of% @Array.append_assoc:=@Array.append_assoc
theorem SI:type_of% @List.filter_append:=@List.filter_append
theorem SJ:type_of% @Option.isSome_some:=@Option.isSome_some
theorem SK:type_of% @List.length_replicate:=@List.length_replicate
theorem SL:type_of% @Bool.or_eq_true:=@Bool.or_eq_true
theorem SM:type_of% @List.sum_append:=@List.sum_append
theorem SN:type_of% @List.getElem?_cons_zero:=@List.getElem?_cons_zero
theorem SP:type_of% @List.drop_length:=@List.drop_length
theorem SQ:type_of% @Int.mul_nonneg:=@Int.mul_nonneg
theorem SR:type_of% @Array.getElem?_eq_none:=@Array.getElem?_eq_none
theorem SS:type_of% @Nat.div_add_mod:=@Nat.div_add_mod
theorem SU:type_of% @Nat.div_lt_iff_lt_mul:=@Nat.div_lt_iff_lt_mul
theorem SW:type_of% @Bool.not_eq_true':=@Bool.not_eq_true'
theorem SX:type_of% @Nat.lt_trichotomy:=@Nat.lt_trichotomy
theorem SZ:type_of% @Bool.and_false:=@Bool.and_false
theorem S0:type_of% @List.mem_of_mem_take:=@List.mem_of_mem_take
theorem S1:type_of% @List.mem_map:=@List.mem_map
theorem S2:type_of% @List.mem_flatMap:=@List.mem_flatMap
theorem S3:type_of% @Int.add_zero:=@Int.add_zero
theorem S6:type_of% @List.flatMap_append:=@List.flatMap_append
theorem S8:type_of% @Bool.and_true:=@Bool.and_true
theorem S9:type_of% @Bool.eq_iff_iff:=@Bool.eq_iff_iff
theorem Ta:type_of% @Nat.min_eq_left:=@Nat.min_eq_left
theorem Tb:type_of% @List.mem_replicate:=@List.mem_replicate
theorem Tc:type_of% @List.findIdx?_cons:=@List.findIdx?_cons
theorem Td:type_of% @List.pairwise_cons:=@List.pairwise_cons
theorem Tf:type_of% @List.drop_zero:=@List.drop_zero
theorem Tg:type_of% @Nat.zero_mul:=@Nat.zero_mul
theorem Ti:type_of% @Bool.not_not:=@Bool.not_not
theorem Tj:type_of% @Nat.le_of_lt:=@Nat.le_of_lt
theorem Tk:type_of% @List.map_id':=@List.map_id'
theorem Tp:type_of% @Nat.mod_lt:=@Nat.mod_lt
theorem Tr:type_of% @Bool.false_or:=@Bool.false_or
theorem Tt:type_of% @List.all_cons:=@List.all_cons
theorem Tu:type_of% @Int.mul_assoc:=@Int.mul_assoc
theorem TL:type_of% @Iff.rfl:=@Iff.rfl
section
structure Shape where
 h:Int
 w:Int
 c:Int
 deriving DecidableEq
structure aA where
 sh:Shape
 data:List Int
 deriving DecidableEq
structure av where
 kind:Int
 out:Int
 size:Int
 step:Int
 mult:Int
 shift:Int
 zero:Int
 weights:List Int
 mT:List Int
 deriving DecidableEq
structure Model where
 inp:Shape
 aB:List av
 deriving DecidableEq
structure Job where
 model:Model
 at_:Int
 act:aA
 iR:Int
 deriving DecidableEq
structure Task where
 id:Int
 ar:List Int
 at_:Int
 due:Int
 born:Int
 deriving DecidableEq
structure aj where
 now:Int
 ag:Int
 age:Int
 tasks:List Task
 run:Int
 left:Int
 turns:Int
 next:Int
 deriving DecidableEq
structure Request where
 id:Int
 model:Int
 job:Job
 due:Int
 deriving DecidableEq
structure Runtime where
 sched:aj
 ak:List Model
 al:List Bool
 ae:List Request
 deriving DecidableEq
structure Step where
 kind:Int
 a:Int
 b:Int
 data:List Int
 input:aA
 deriving DecidableEq
structure Event where
 kind:Int
 a:Int
 b:Int
 out:aA
 deriving DecidableEq
structure Entry where
 id:Int
 model:Model
 input:aA
 at_:Int
 due:Int
 end_:Int
 done:Bool
 deriving DecidableEq
structure NY where
 id:Int
 model:Int
 due:Int
 deriving DecidableEq
structure bZ where
 id:Int
 ar:Nat
 at_:Int
 due:Int
 born:Int
 deriving DecidableEq
structure sg where
 id:Int
 model:Int
 mh:Int
 mw:Int
 mc:Int
 aB:Nat
 jat:Int
 ah:Int
 aw:Int
 ac:Int
 data:Nat
 iR:Int
 due:Int
 deriving DecidableEq
structure Reader where
 b:List Int
 at_:Int
 bad:Bool
 deriving DecidableEq
inductive S where
 |shape|dk|aR|model|task|request|step|event|entry|L4|cO|iq
 deriving DecidableEq
inductive Ty where
 |int (k:IntKind)|bool|str|sl (t:Ty)|st (s:S)|tok
 |ho (s:S)|hl (t:Ty)
 deriving DecidableEq
def S.E:S->Type
 |.shape=>Shape|.dk=>aA|.aR=>av|.model=>Model|.task=>Task|.request=>Request
 |.step=>Step|.event=>Event|.entry=>Entry|.L4=>NY|.cO=>bZ|.iq=>sg
def Ty.El:Ty->Type
 |.int _=>Int
 |.bool=>Bool
 |.str=>List UInt8
 |.sl t=>List t.El
 |.st s=>s.E
 |.tok=>Nat
 |.ho s=>Option s.E
 |.hl t=>Option (List t.El)
inductive R where
 |int (k:IntKind) (n:Int)
 |bool (b:Bool)
 |str (l:List UInt8)
 |sl (t:Ty) (xs:List t.El)
 |tok (n:Nat)
 |lO
abbrev R.i (n:Int):R:=.int .i64 n
abbrev R.ints (xs:List Int):R:=.sl (.int .i64) xs
abbrev R.bytes (xs:List Int):R:=.sl (.int .u8) xs
def JJ (x:Shape):List R:=[.i x.h,.i x.w,.i x.c]
def JK (x:aA):List R:=[.i x.sh.h,.i x.sh.w,.i x.sh.c,.ints x.data]
def NA (x:av):List R:=[.i x.kind,.i x.out,.i x.size,.i x.step,.i x.mult,.i x.shift,.i x.zero,.ints x.weights,.ints x.mT]
def NB (x:Model):List R:=[.i x.inp.h,.i x.inp.w,.i x.inp.c,.sl (.st .aR) x.aB]
def Ma (x:Task):List R:=[.i x.id,.ints x.ar,.i x.at_,.i x.due,.i x.born]
def GR (x:Request):List R:=[.i x.id,.i x.model,.i x.job.model.inp.h,.i x.job.model.inp.w,.i x.job.model.inp.c,.sl (.st .aR) x.job.model.aB,.i x.job.at_,.i x.job.act.sh.h,.i x.job.act.sh.w,.i x.job.act.sh.c,.ints x.job.act.data,.i x.job.iR,.i x.due]
def Mb (x:Step):List R:=[.i x.kind,.i x.a,.i x.b,.bytes x.data,.i x.input.sh.h,.i x.input.sh.w,.i x.input.sh.c,.ints x.input.data]
def NC (x:Event):List R:=[.i x.kind,.i x.a,.i x.b,.i x.out.sh.h,.i x.out.sh.w,.i x.out.sh.c,.ints x.out.data]
def ND (x:Entry):List R:=[.i x.id,.i x.model.inp.h,.i x.model.inp.w,.i x.model.inp.c,.sl (.st .aR) x.model.aB,.i x.input.sh.h,.i x.input.sh.w,.i x.input.sh.c,.ints x.input.data,.i x.at_,.i x.due,.i x.end_,.bool x.done]
def NZ (x:NY):List R:=[.i x.id,.i x.model,.i x.due]
def zO (x:bZ):List R:=[.i x.id,.tok x.ar,.i x.at_,.i x.due,.i x.born]
def wM (x:sg):List R:=[.i x.id,.i x.model,.i x.mh,.i x.mw,.i x.mc,.tok x.aB,.i x.jat,.i x.ah,.i x.aw,.i x.ac,.tok x.data,.i x.iR,.i x.due]
def S.sz:S->Nat
 |.shape=>3|.dk=>4|.aR=>9|.model=>4|.task=>5|.request=>13|.step=>8|.event=>7|.entry=>13|.L4=>3|.cO=>5|.iq=>13
def S.cells:(s:S)->s.E->List R
 |.shape=>JJ|.dk=>JK|.aR=>NA|.model=>NB|.task=>Ma|.request=>GR
 |.step=>Mb|.event=>NC|.entry=>ND|.L4=>NZ|.cO=>zO|.iq=>wM
def Ty.sz:Ty->Nat
 |.st s=>s.sz
 |.ho s=>s.sz
 |_=>1
def Ty.cells:(t:Ty)->t.El->List R
 |.int k,n=>[.int k n]
 |.bool,b=>[.bool b]
 |.str,l=>[.str l]
 |.sl t,xs=>[.sl t xs]
 |.st s,x=>s.cells x
 |.tok,n=>[.tok n]
 |.ho s,x=>match x with
  |some x=>s.cells x
  |none=>List.replicate s.sz .lO
 |.hl t,x=>match x with
  |some xs=>[.sl t xs]
  |none=>[.lO]
theorem S.cp (s:S) (x:s.E):(s.cells x).length=s.sz:=by cases s<;>rfl
theorem Ty.cp (t:Ty) (x:t.El):(t.cells x).length=t.sz:=by
 cases t with
 |st s=>exact s.cp x
 |ho s=>cases x with
  |none=>simp[Ty.cells,Ty.sz]
  |some x=>exact s.cp x
 |hl t=>cases x<;>rfl
 |_=>rfl
theorem Ty.gq (t:Ty):0<t.sz:=by
 cases t with
 |st s=>cases s<;>simp[Ty.sz,S.sz]
 |ho s=>cases s<;>simp[Ty.sz,S.sz]
 |_=>simp[Ty.sz]
def R.asI:R->Option Int
 |.int .i64 n=>some n
 |_=>none
def R.asB:R->Option Bool
 |.bool b=>some b
 |_=>none
def R.asL (t:Ty):R->Option (List t.El)
 |.sl t' xs=>if h:t'=t then some (h▸xs)else none
 |_=>none
def R.asT:R->Option Nat
 |.tok n=>some n
 |_=>none
theorem R.Bj {r:R} {n:Nat} (h:r.asT=some n):r=.tok n:=by
 unfold R.asT at h;split at h
 ·cases h;rfl
 ·cases h
theorem R.az {r:R} {n:Int} (h:r.asI=some n):r=.int .i64 n:=by
 unfold R.asI at h;split at h
 ·cases h;rfl
 ·cases h
theorem R.Mc {r:R} {n:Bool} (h:r.asB=some n):r=.bool n:=by
 unfold R.asB at h;split at h
 ·cases h;rfl
 ·cases h
theorem R.fK {t:Ty} {r:R} {n:List t.El} (h:r.asL t=some n):r=.sl t n:=by
 unfold R.asL at h;split at h
 ·split at h
  ·rename_i e;subst e;cases h;rfl
  ·cases h
 ·cases h
def CY:List R->Option Shape
 |[a',b',c']=>(a'.asI).bind λa=>(b'.asI).bind λb=>(c'.asI).bind λc=>some ⟨a,b,c⟩
 |_=>none
theorem E3 (cs:List R) (x:Shape) (h:CY cs=some x):JJ x=cs:=by
 unfold CY at h;split at h
 ·simp only[An]at h;obtain⟨a,ha,b,hb,c,hc,h⟩:=h;cases h;rw[R.az ha,R.az hb,R.az hc];rfl
 ·cases h
def wN:List R->Option aA
 |[a',b',c',d']=>(a'.asI).bind λa=>(b'.asI).bind λb=>(c'.asI).bind λc=>(d'.asL (.int .i64)).bind λd=>some ⟨⟨a,b,c⟩,d⟩
 |_=>none
theorem CZ (cs:List R) (x:aA) (h:wN cs=some x):JK x=cs:=by
 unfold wN at h;split at h
 ·simp only[An]at h;obtain⟨a,ha,b,hb,c,hc,d,hd,h⟩:=h;cases h;rw[R.az ha,R.az hb,R.az hc,R.fK hd];rfl
 ·cases h
def C0:List R->Option av
 |[a',b',c',d',e',f',g',h',i']=>(a'.asI).bind λa=>(b'.asI).bind λb=>(c'.asI).bind λc=>(d'.asI).bind λd=>(e'.asI).bind λe=>(f'.asI).bind λf=>(g'.asI).bind λg=>(h'.asL (.int .i64)).bind λh=>(i'.asL (.int .i64)).bind λi=>some ⟨a,b,c,d,e,f,g,h,i⟩
 |_=>none
theorem E4 (cs:List R) (x:av) (h:C0 cs=some x):NA x=cs:=by
 unfold C0 at h;split at h
 ·simp only[An]at h;obtain⟨a,ha,b,hb,c,hc,d,hd,e,he,f,hf,g,hg,h,hh,i,hi,h⟩:=h;cases h;rw[R.az ha,R.az hb,R.az hc,R.az hd,R.az he,R.az hf,R.az hg,R.fK hh,R.fK hi];rfl
 ·cases h
def C3:List R->Option Model
 |[a',b',c',d']=>(a'.asI).bind λa=>(b'.asI).bind λb=>(c'.asI).bind λc=>(d'.asL (.st .aR)).bind λd=>some ⟨⟨a,b,c⟩,d⟩
 |_=>none
theorem E5 (cs:List R) (x:Model) (h:C3 cs=some x):NB x=cs:=by
 unfold C3 at h;split at h
 ·simp only[An]at h;obtain⟨a,ha,b,hb,c,hc,d,hd,h⟩:=h;cases h;rw[R.az ha,R.az hb,R.az hc,R.fK hd];rfl
 ·cases h
def JL:List R->Option Task
 |[a',b',c',d',e']=>(a'.asI).bind λa=>(b'.asL (.int .i64)).bind λb=>(c'.asI).bind λc=>(d'.asI).bind λd=>(e'.asI).bind λe=>some ⟨a,b,c,d,e⟩
 |_=>none
theorem H8 (cs:List R) (x:Task) (h:JL cs=some x):Ma x=cs:=by
 unfold JL at h;split at h
 ·simp only[An]at h;obtain⟨a,ha,b,hb,c,hc,d,hd,e,he,h⟩:=h;cases h;rw[R.az ha,R.fK hb,R.az hc,R.az hd,R.az he];rfl
 ·cases h
def si:List R->Option Request
 |[a',b',c',d',e',f',g',h',i',j',k',l',m']=>(a'.asI).bind λa=>(b'.asI).bind λb=>(c'.asI).bind λc=>(d'.asI).bind λd=>(e'.asI).bind λe=>(f'.asL (.st .aR)).bind λf=>(g'.asI).bind λg=>(h'.asI).bind λh=>(i'.asI).bind λi=>(j'.asI).bind λj=>(k'.asL (.int .i64)).bind λk=>(l'.asI).bind λl=>(m'.asI).bind λm=>some ⟨a,b,⟨⟨⟨c,d,e⟩,f⟩,g,⟨⟨h,i,j⟩,k⟩,l⟩,m⟩
 |_=>none
theorem Bl (cs:List R) (x:Request) (h:si cs=some x):GR x=cs:=by
 unfold si at h;split at h
 ·simp only[An]at h;obtain⟨a,ha,b,hb,c,hc,d,hd,e,he,f,hf,g,hg,h,hh,i,hi,j,hj,k,hk,l,hl,m,hm,h⟩:=h;cases h;rw[R.az ha,R.az hb,R.az hc,R.az hd,R.az he,R.fK hf,R.az hg,R.az hh,R.az hi,R.az hj,R.fK hk,R.az hl,R.az hm];rfl
 ·cases h
def JM:List R->Option Step
 |[a',b',c',d',e',f',g',h']=>(a'.asI).bind λa=>(b'.asI).bind λb=>(c'.asI).bind λc=>(d'.asL (.int .u8)).bind λd=>(e'.asI).bind λe=>(f'.asI).bind λf=>(g'.asI).bind λg=>(h'.asL (.int .i64)).bind λh=>some ⟨a,b,c,d,⟨⟨e,f,g⟩,h⟩⟩
 |_=>none
theorem H9 (cs:List R) (x:Step) (h:JM cs=some x):Mb x=cs:=by
 unfold JM at h;split at h
 ·simp only[An]at h;obtain⟨a,ha,b,hb,c,hc,d,hd,e,he,f,hf,g,hg,h,hh,h⟩:=h;cases h;rw[R.az ha,R.az hb,R.az hc,R.fK hd,R.az he,R.az hf,R.az hg,R.fK hh];rfl
 ·cases h
def C4:List R->Option Event
 |[a',b',c',d',e',f',g']=>(a'.asI).bind λa=>(b'.asI).bind λb=>(c'.asI).bind λc=>(d'.asI).bind λd=>(e'.asI).bind λe=>(f'.asI).bind λf=>(g'.asL (.int .i64)).bind λg=>some ⟨a,b,c,⟨⟨d,e,f⟩,g⟩⟩
 |_=>none
theorem E6 (cs:List R) (x:Event) (h:C4 cs=some x):NC x=cs:=by
 unfold C4 at h;split at h
 ·simp only[An]at h;obtain⟨a,ha,b,hb,c,hc,d,hd,e,he,f,hf,g,hg,h⟩:=h;cases h;rw[R.az ha,R.az hb,R.az hc,R.az hd,R.az he,R.az hf,R.fK hg];rfl
 ·cases h
def C5:List R->Option Entry
 |[a',b',c',d',e',f',g',h',i',j',k',l',m']=>(a'.asI).bind λa=>(b'.asI).bind λb=>(c'.asI).bind λc=>(d'.asI).bind λd=>(e'.asL (.st .aR)).bind λe=>(f'.asI).bind λf=>(g'.asI).bind λg=>(h'.asI).bind λh=>(i'.asL (.int .i64)).bind λi=>(j'.asI).bind λj=>(k'.asI).bind λk=>(l'.asI).bind λl=>(m'.asB).bind λm=>some ⟨a,⟨⟨b,c,d⟩,e⟩,⟨⟨f,g,h⟩,i⟩,j,k,l,m⟩
 |_=>none
theorem E7 (cs:List R) (x:Entry) (h:C5 cs=some x):ND x=cs:=by
 unfold C5 at h;split at h
 ·simp only[An]at h;obtain⟨a,ha,b,hb,c,hc,d,hd,e,he,f,hf,g,hg,h,hh,i,hi,j,hj,k,hk,l,hl,m,hm,h⟩:=h;cases h;rw[R.az ha,R.az hb,R.az hc,R.az hd,R.fK he,R.az hf,R.az hg,R.az hh,R.fK hi,R.az hj,R.az hk,R.az hl,R.Mc hm];rfl
 ·cases h
def JN:List R->Option NY
 |[a',b',c']=>(a'.asI).bind λa=>(b'.asI).bind λb=>(c'.asI).bind λc=>some ⟨a,b,c⟩
 |_=>none
theorem Ia (cs:List R) (x:NY) (h:JN cs=some x):NZ x=cs:=by
 unfold JN at h;split at h
 ·simp only[An]at h;obtain⟨a,ha,b,hb,c,hc,h⟩:=h;cases h;rw[R.az ha,R.az hb,R.az hc];rfl
 ·cases h
def GS:List R->Option bZ
 |[a',b',c',d',e']=>(a'.asI).bind λa=>(b'.asT).bind λb=>(c'.asI).bind λc=>(d'.asI).bind λd=>(e'.asI).bind λe=>some ⟨a,b,c,d,e⟩
 |_=>none
theorem E8 (cs:List R) (x:bZ) (hq:GS cs=some x):zO x=cs:=by
 unfold GS at hq;split at hq
 ·simp only[An]at hq;obtain⟨a,ha,b,hb,c,hc,d,hd,e,he,hq⟩:=hq;cases hq;rw[R.az ha,R.Bj hb,R.az hc,R.az hd,R.az he];rfl
 ·cases hq
def sj:List R->Option sg
 |[a',b',c',d',e',f',g',h',i',j',k',l',m']=>(a'.asI).bind λa=>(b'.asI).bind λb=>(c'.asI).bind λc=>(d'.asI).bind λd=>(e'.asI).bind λe=>(f'.asT).bind λf=>(g'.asI).bind λg=>(h'.asI).bind λh=>(i'.asI).bind λi=>(j'.asI).bind λj=>(k'.asT).bind λk=>(l'.asI).bind λl=>(m'.asI).bind λm=>some ⟨a,b,c,d,e,f,g,h,i,j,k,l,m⟩
 |_=>none
theorem zv (cs:List R) (x:sg) (hq:sj cs=some x):wM x=cs:=by
 unfold sj at hq;split at hq
 ·simp only[An]at hq;obtain⟨a,ha,b,hb,c,hc,d,hd,e,he,f,hf,g,hg,h0,hh,i,hi,j,hj,k,hk,l,hl,m,hm,hq⟩:=hq;cases hq;rw[R.az ha,R.az hb,R.az hc,R.az hd,R.az he,R.Bj hf,R.az hg,R.az hh,R.az hi,R.az hj,R.Bj hk,R.az hl,R.az hm];rfl
 ·cases hq
def S.eA:(s:S)->List R->Option s.E
 |.shape=>CY
 |.dk=>wN
 |.aR=>C0
 |.model=>C3
 |.task=>JL
 |.request=>si
 |.step=>JM
 |.event=>C4
 |.entry=>C5
 |.L4=>JN
 |.cO=>GS
 |.iq=>sj
def Ty.vg:(t:Ty)->R->Option t.El
 |.int k,.int k' n=>if k'=k then some n else none
 |.bool,.bool b=>some b
 |.str,.str l=>some l
 |.sl t,.sl t' xs=>if h:t'=t then some (h▸xs)else none
 |.tok,.tok n=>some n
 |.hl t,.sl t' xs=>if h:t'=t then some (some (h▸xs))else none
 |_,_=>none
def Ty.eA:(t:Ty)->List R->Option t.El
 |.st s,cs=>s.eA cs
 |.ho s,cs=>(s.eA cs).bind λx=>some (some x)
 |t,[r]=>t.vg r
 |_,_=>none
theorem Ty.E9 (t:Ty) (r:R) (x:t.El) (h:t.vg r=some x):t.cells x=[r]:=by
 cases t with
 |st s=>cases r<;>exact nomatch h
 |int k=>
  cases r with
  |int k' n=>
   replace h:(if k'=k then some n else none)=some x:=h
   split at h
   ·rename_i e;subst e;cases h;rfl
   ·cases h
  |_=>exact nomatch h
 |bool=>
  cases r with
  |bool b=>cases h;rfl
  |_=>exact nomatch h
 |str=>
  cases r with
  |str b=>cases h;rfl
  |_=>exact nomatch h
 |sl t=>
  cases r with
  |sl t' xs=>
   replace h:(if h:t'=t then some (h▸xs)else none)=some x:=h
   split at h
   ·rename_i e;subst e;cases h;rfl
   ·cases h
  |_=>exact nomatch h
 |tok=>
  cases r with
  |tok n=>cases h;rfl
  |_=>exact nomatch h
 |ho s=>cases r<;>exact nomatch h
 |hl t=>
  cases r with
  |sl t' xs=>
   replace h:(if h:t'=t then some (some (h▸xs))else none)=some x:=h
   split at h
   ·rename_i e;subst e;cases h;rfl
   ·cases h
  |_=>exact nomatch h
theorem S.cD (s:S) (cs:List R) (x:s.E) (h:s.eA cs=some x):s.cells x=cs:=by
 cases s
 ·exact E3 cs x h
 ·exact CZ cs x h
 ·exact E4 cs x h
 ·exact E5 cs x h
 ·exact H8 cs x h
 ·exact Bl cs x h
 ·exact H9 cs x h
 ·exact E6 cs x h
 ·exact E7 cs x h
 ·exact Ia cs x h
 ·exact E8 cs x h
 ·exact zv cs x h
theorem Ty.cD (t:Ty) (cs:List R) (x:t.El) (h:t.eA cs=some x):t.cells x=cs:=by
 cases t with
 |st s=>exact S.cD s cs x h
 |ho s=>
  replace h:(s.eA cs).bind (λx=>some (some x))=some x:=h
  obtain⟨y,hy,e⟩:=An.1 h;cases e
  exact S.cD s cs y hy
 |_=>
  match cs,h with
  |[r],h=>exact Ty.E9 _ r x h
end
section
inductive SV where
 |r (d:List Nat) (x:R)
 |cr
 |oW
 |own (i:Nat)
 |sub (i off len:Nat)
 |bsl (i n:Nat)
 |ptr (i idx off:Nat)
 |inn (i x c:Nat)
 |kh (d:List Nat) (cs:List R)
 |agg (cs:List SV)
 |tup (vs:List SV)
 |fn (f:Fn) (first cap:List SV)
 |undef
abbrev SV.i (n:Int):SV:=.r [] (.int .i64 n)
abbrev SV.b (b:Bool):SV:=.r [] (.bool b)
inductive Blk where
 |box (cs:List SV)
 |arr (sh:Option (List Nat)) (t:Ty) (xs:List t.El)
abbrev aK:=List (Nat× Blk)
structure St where
 bI:List (Nat× SV)
 heap:aK
 nid:Nat
 n:Nat
 gh:List (Option Nat):=[]
def look {α:Type}:List (Nat× α)->Nat->Option α
 |[],_=>none
 |(k,v)::l,n=>cond (Nat.beq k n) (some v) (look l n)
def put {α:Type}:List (Nat× α)->Nat->α->List (Nat× α)
 |[],n,v=>[(n,v)]
 |(k,u)::l,n,v=>cond (Nat.beq k n) ((k,v)::l) ((k,u)::put l n v)
def idx {α:Type} (xs:List α) (i:Int):Option α:=cond (decide (0<=i)) xs[i.toNat]? none
def mem (i:Nat):List Nat->Bool
 |[]=>false
 |k::l=>cond (Nat.beq k i) true (mem i l)
def hit (T:List Nat):List Nat->Bool
 |[]=>false
 |k::l=>cond (mem k T) true (hit T l)
abbrev Kil:=List Nat× List Nat
mutual
def SV.aP (T:Kil):SV->SV
 |.r d x=>cond (hit T.2 d) .undef (.r d x)
 |.own j=>cond (mem j T.1) .undef (.own j)
 |.sub j o n=>cond (mem j T.1) .undef (.sub j o n)
 |.bsl j n=>cond (mem j T.1) .undef (.bsl j n)
 |.ptr j x o=>cond (mem j T.1) .undef (.ptr j x o)
 |.inn j x c=>cond (mem j T.1||mem j T.2) .undef (.inn j x c)
 |.kh d cs=>cond (hit T.2 d) .undef (.kh d cs)
 |.agg cs=>.agg (ia T cs)
 |.tup cs=>.tup (ia T cs)
 |.fn f a b=>.fn f (ia T a) (ia T b)
 |.cr=>.cr
 |.oW=>.oW
 |.undef=>.undef
def ia (T:Kil):List SV->List SV
 |[]=>[]
 |v::l=>v.aP T::ia T l
end
def Blk.aP (T:Kil):Blk->Option Blk
 |.box cs=>some (.box (ia T cs))
 |.arr none t xs=>some (.arr none t xs)
 |.arr (some d) t xs=>cond (hit T.2 d) none (some (.arr (some d) t xs))
def wO (T:Kil):aK->Option aK
 |[]=>some []
 |(k,b)::l=>cond (mem k T.1) (wO T l) ((b.aP T).bind λb=>(wO T l).bind λl=>some ((k,b)::l))
def GU (T:Kil):List (Nat× SV)->List (Nat× SV)
 |[]=>[]
 |(k,v)::l=>(k,v.aP T)::GU T l
def ir (T:Kil) (h:aK):Option aK:=
 match T.2 with
 |[]=>some h
 |_=>wO T h
def nH (T:Kil) (s:List (Nat× SV)):List (Nat× SV):=
 match T.2 with
 |[]=>s
 |_=>GU T s
def SV.list (h:aK) (t:Ty):SV->Option (List Nat× List t.El)
 |.r d x=>(x.asL t).bind λxs=>some (d,xs)
 |.cr=>some ([],[])
 |.own i=>match look h i with
  |some (.arr sh t' xs)=>if e:t'=t then some (i::sh.getD [],e▸xs)else none
  |_=>none
 |.sub i o n=>match look h i with
  |some (.arr sh t' xs)=>if e:t'=t then some (i::sh.getD [],((e▸xs).drop o).take n)else none
  |_=>none
 |_=>none
def SV.asInt (k:IntKind):SV->Option Int
 |.r _ (.int k' n)=>cond (decide (k'=k)) (some n) none
 |_=>none
def SV.asI:SV->Option Int
 |.r _ (.int _ n)=>some n
 |_=>none
def SV.asB:SV->Option Bool
 |.r _ (.bool b)=>some b
 |_=>none
def SV.asR (h:aK) (t:Ty) (v:SV):Option (List Nat× R):=
 match t with
 |.sl t'=>(v.list h t').bind λp=>some (p.1,.sl t' p.2)
 |.st _=>none
 |.tok=>match v with
  |.r d (.tok n)=>some (d,.tok n)
  |.cr=>some ([],.tok 0)
  |_=>none
 |_=>match v with
  |.r d x=>some (d,x)
  |_=>none
def S.tys:S->List Ty
 |.shape=>[.int .i64,.int .i64,.int .i64]
 |.dk=>[.int .i64,.int .i64,.int .i64,.sl (.int .i64)]
 |.aR=>[.int .i64,.int .i64,.int .i64,.int .i64,.int .i64,.int .i64,.int .i64,.sl (.int .i64),.sl (.int .i64)]
 |.model=>[.int .i64,.int .i64,.int .i64,.sl (.st .aR)]
 |.task=>[.int .i64,.sl (.int .i64),.int .i64,.int .i64,.int .i64]
 |.request=>[.int .i64,.int .i64,.int .i64,.int .i64,.int .i64,.sl (.st .aR),.int .i64,.int .i64,.int .i64,.int .i64,.sl (.int .i64),.int .i64,.int .i64]
 |.step=>[.int .i64,.int .i64,.int .i64,.sl (.int .u8),.int .i64,.int .i64,.int .i64,.sl (.int .i64)]
 |.event=>[.int .i64,.int .i64,.int .i64,.int .i64,.int .i64,.int .i64,.sl (.int .i64)]
 |.entry=>[.int .i64,.int .i64,.int .i64,.int .i64,.sl (.st .aR),.int .i64,.int .i64,.int .i64,.sl (.int .i64),.int .i64,.int .i64,.int .i64,.bool]
 |.L4=>[.int .i64,.int .i64,.int .i64]
 |.cO=>[.int .i64,.tok,.int .i64,.int .i64,.int .i64]
 |.iq=>[.int .i64,.int .i64,.int .i64,.int .i64,.int .i64,.tok,.int .i64,.int .i64,.int .i64,.int .i64,.tok,.int .i64,.int .i64]
def Ty.tys:Ty->List Ty
 |.st s=>s.tys
 |.ho s=>s.tys
 |.hl t=>[.sl t]
 |t=>[t]
def JB (h:aK):List Ty->List SV->Option (List Nat× List R)
 |[],[]=>some ([],[])
 |t::ts,v::vs=>(v.asR h t).bind λp=>(JB h ts vs).bind λq=>some (p.1++q.1,p.2::q.2)
 |_,_=>none
def Qd (h:aK) (t:Ty) (vs:List SV):Option (List Nat× t.El):=
 (JB h t.tys vs).bind λp=>(t.eA p.2).bind λx=>some (p.1,x)
def SV.cells:SV->Option (List SV)
 |.agg cs=>some cs
 |.tup _=>none
 |.undef=>none
 |v=>some [v]
mutual
def SV.ids:SV->List Nat
 |.own i=>[i]
 |.sub i _ _=>[i]
 |.bsl i _=>[i]
 |.ptr i _ _=>[i]
 |.agg cs=>Ib cs
 |.tup cs=>Ib cs
 |.fn _ a b=>Ib a++Ib b
 |_=>[]
def Ib:List SV->List Nat
 |[]=>[]
 |v::l=>v.ids++Ib l
end
def oJ:List Nat->List Nat->List Nat
 |acc,[]=>acc
 |acc,i::l=>cond (mem i acc) (oJ acc l) (oJ (acc++[i]) l)
def NG (h:aK):List Nat->List Nat
 |[]=>[]
 |i::l=>(match look h i with
  |some (.box cs)=>Ib cs
  |_=>[])++NG h l
def reach (h:aK):Nat->List Nat->List Nat
 |0,L=>L
 |n+1,L=>reach h n (oJ L (NG h L))
def tR:Value->Option SV
 |.bool b=>some (.b b)
 |.int k n=>some (.r [] (.int k n))
 |.string s=>some (.r [] (.str s.data.toList))
 |.slice none 0 0=>some .cr
 |.pointer none=>some .oW
 |_=>none
def zP:List Value->Option (List SV)
 |[]=>some []
 |v::l=>(tR v).bind λx=>(zP l).bind λxs=>some (x::xs)
def GV:Value->Option SV
 |.agg cs=>(zP cs.toList).bind λl=>some (.agg l)
 |v=>tR v
def opd (bI:List (Nat× SV)):Operand->Option SV
 |.tmp t=>look bI t
 |.const v=>GV v
 |.func f=>some (.fn (.func f) [] [])
 |.global _=>none
def rv (bI:List (Nat× SV)):List Operand->Option (List SV)
 |[]=>some []
 |x::l=>(opd bI x).bind λv=>(rv bI l).bind λvs=>some (v::vs)
end
section
abbrev TT:=TypeId->Option Ty
def aU:Nat:=2^38
def wP (P:Program) (T:TypeId):Bool:=
 match P.underlying T with
 |some (.struct _)=>true
 |some (.array _ _)=>true
 |_=>false
def lP (P:Program) (T:TypeId):Option TypeId:=
 match P.underlying T with
 |some (.slice e)=>some e
 |_=>none
def tS (P:Program) (T:TypeId) (f:Nat):Option Field:=
 match P.underlying T with
 |some (.struct fs)=>(fs[f]?).bind λf=>(P.info? f.type).bind λi=>cond (Nat.beq i.size 0) none (some f)
 |_=>none
def iS (P:Program) (T:TypeId):Option Nat:=(P.info? T).bind λi=>some i.size
def sk (P:Program):List Field->Option (List (Nat× Nat))
 |[]=>some []
 |f::fs=>(iS P f.type).bind λs=>(sk P fs).bind λl=>some ((f.offset,s)::l)
def takeN {α:Type} (n:Nat) (l:List α):Option (List α):=cond (Nat.ble n l.length) (some (l.take n)) none
def iu (P:Program) (T:TypeId) (cs:List SV):Option SV:=
  (P.underlying T).bind λ_=>(P.info? T).bind λi=>(takeN i.size cs).bind λl=>
    cond (wP P T) (some (.agg l)) (match l with|[v]=>some v|_=>none)
def mkR (d:List Nat):R->SV
 |.sl t xs=>.r d (.sl t xs)
 |x=>.r [] x
def JO (i:Nat):Option (List Nat)->List Nat
 |none=>[i]
 |some d=>d
def ld (h:aK):SV->Option (List SV)
 |.kh d cs=>some (cs.map (mkR d))
 |.ptr i x o=>match look h i with
  |some (.box cs)=>some (cs.drop o)
  |some (.arr sh t xs)=>(xs[x]?).bind λe=>some (((t.cells e).map (mkR (JO i sh))).drop o)
  |_=>none
 |_=>none
def gu (P:Program) (T:TypeId):Option (List SV):=
 (P.info? T).bind λi=>i.zero.bind λz=>(GV z).bind λv=>v.cells
def oX (place:Nat->Option (Nat× Nat)):List SV->List (Nat× SV)->Option (List SV)
 |cs,[]=>some cs
 |cs,(k,v)::l=>(place k).bind λp=>v.cells.bind λvs=>
   cond (Nat.beq vs.length p.2) (cond (Nat.ble (p.1+vs.length) cs.length) (oX place (cs.take p.1++vs++cs.drop (p.1+vs.length)) l) none) none
def Pc (op:BinOp) (k:IntKind) (a b:Int):Option R:=
 match op with
 |.add=>some (.int k (k.wrap (a+b)))
 |.sub=>some (.int k (k.wrap (a-b)))
 |.mul=>some (.int k (k.wrap (a*b)))
 |.quo=>cond (decide (b=0)) none (some (.int k (k.wrap (a.tdiv b))))
 |.rem=>cond (decide (b=0)) none (some (.int k (a.tmod b)))
 |.and=>some (.int k (k.wrap (BitVec.ofInt k.bits a&&& BitVec.ofInt k.bits b).toNat))
 |.or=>some (.int k (k.wrap (BitVec.ofInt k.bits a||| BitVec.ofInt k.bits b).toNat))
 |.xor=>some (.int k (k.wrap (BitVec.ofInt k.bits a^^^ BitVec.ofInt k.bits b).toNat))
 |.eql=>some (.bool (a==b))
 |.neq=>some (.bool (a !=b))
 |.lss=>some (.bool (decide (a<b)))
 |.leq=>some (.bool (decide (a<=b)))
 |.gtr=>some (.bool (decide (a>b)))
 |.geq=>some (.bool (decide (a>=b)))
 |_=>none
def C6 (op:BinOp) (k:IntKind) (a b:Int):Option R:=
  cond (decide (b<0)) none
    (match op with
     |.shl=>some (.int k (k.wrap (a*2^(min b.toNat k.bits))))
     |.shr=>some (.int k (a.fdiv (2^(min b.toNat k.bits))))
     |_=>none)
def Pp (op:BinOp) (a b:List UInt8):Option R:=
 match op with
 |.add=>cond (decide (a.length+b.length<=aU)) (some (.str (a++b))) none
 |.eql=>some (.bool (a==b))
 |.neq=>some (.bool (!(a==b)))
 |.lss=>some (.bool (Op.bytesLess a b))
 |.leq=>some (.bool (Op.bytesLess a b||a==b))
 |.gtr=>some (.bool (!(Op.bytesLess a b||a==b)))
 |.geq=>some (.bool (!(Op.bytesLess a b)))
 |_=>none
def Md (P:Program) (xs ys:List SV):List Field->Option Bool
 |[]=>some true
 |f::fs=>cond (decide (f.name= "_")) none (match P.underlying f.type,xs[f.offset]?,ys[f.offset]? with
  |some (.int _),some (.r _ (.int k a)),some (.r _ (.int l b))=>cond (decide (k=l)) ((Md P xs ys fs).bind λt=>some (cond (a==b) t false)) none
  |_,_,_=>none)
def Pq (P:Program) (T:TypeId) (xs ys:List SV):Option Bool:=
 cond (P.stoodInHeld T) none (cond (P.eqGuardType P.depth T) none (match P.underlying T with
  |some (.struct fs)=>Md P xs ys fs.toList
  |_=>none))
def JP:BinOp->Bool
 |.shl|.shr=>true
 |_=>false
def isEq:BinOp->Option Bool
 |.eql=>some true
 |.neq=>some false
 |_=>none
def bin (P:Program) (T:TypeId) (op:BinOp) (x y:SV):Option SV:=
 match x,y with
 |.r _ (.int k a),.r _ (.int l b)=>cond (JP op) ((C6 op k a b).bind λr=>some (.r [] r)) (cond (decide (k=l)) ((Pc op k a b).bind λr=>some (.r [] r)) none)
 |.r _ (.str a),.r _ (.str b)=>(Pp op a b).bind λr=>some (.r [] r)
 |.r _ (.bool a),.r _ (.bool b)=>match P.underlying T with
  |some .bool=>(isEq op).bind λe=>some (.b (cond e (a==b) (!(a==b))))
  |_=>none
 |.agg a,.agg b=>(isEq op).bind λe=>(Pq P T a b).bind λt=>some (.b (cond e t (!t)))
 |_,_=>none
def un (op:UnOp) (x:SV):Option SV:=
 match op,x with
 |.neg,.r _ (.int k n)=>some (.r [] (.int k (k.wrap (0-n))))
 |.not,.r _ (.bool b)=>some (.b (!b))
 |_,_=>none
def lenOf (h:aK):SV->Option Nat
 |.r _ (.str l)=>some l.length
 |.r _ (.sl _ xs)=>some xs.length
 |.cr=>some 0
 |.own i=>match look h i with
  |some (.arr _ _ xs)=>some xs.length
  |_=>none
 |.sub _ _ n=>some n
 |.bsl _ n=>some n
 |_=>none
def Qe (P:Program) (T:TypeId):SV->Bool
 |.r _ (.str _)=>match P.underlying T with
  |some .string=>true
  |_=>false
 |_=>match P.underlying T with
  |some (.slice _)=>true
  |_=>false
def bounds (n:Nat) (lo hi:Option SV):Option (Nat× Nat):=
  (match hi with
   |none=>some n
   |some v=>v.asI.bind λx=>cond (decide (0<=x/\x<=(n:Int))) (some x.toNat) none).bind λh=>
  (match lo with
   |none=>some 0
   |some v=>v.asI.bind λx=>cond (decide (0<=x/\x<=(h:Int))) (some x.toNat) none).bind λl=>some (l,h)
def slT (P:Program) (T:TypeId) (t:Ty):Bool:=
 match P.underlying T with
 |some (.slice e)=>match iS P e with
  |some n=>Nat.beq n t.sz
  |none=>false
 |_=>false
def GW (P:Program) (T:TypeId):Bool:=
 match P.underlying T with
 |some (.slice e)=>(iS P e).isSome
 |_=>false
def isStr (P:Program) (T:TypeId):Bool:=
 match P.underlying T with
 |some .string=>true
 |_=>false
def Qo (n m:Nat):Option SV->Nat
 |none=>n
 |some _=>m
def iY (P:Program) (T:TypeId) (h:aK) (x:SV) (lo hi:Option SV):Option SV:=
 match x with
 |.r d (.str l)=>cond (isStr P T) ((bounds l.length lo hi).bind λb=>some (.r d (.str ((l.take b.2).drop b.1)))) none
 |.r d (.sl t xs)=>cond (slT P T t) ((bounds xs.length lo hi).bind λb=>some (.r d (.sl t ((xs.take b.2).drop b.1)))) none
 |.cr=>cond (GW P T) ((bounds 0 lo hi).bind λ_=>some .cr) none
 |.own i=>match look h i with
  |some (.arr _ t xs)=>cond (slT P T t) ((bounds xs.length lo hi).bind λb=>some (.sub i b.1 (b.2-b.1))) none
  |_=>none
 |.sub i o n=>match look h i with
  |some (.arr _ t xs)=>cond (slT P T t) ((bounds (Qo n (xs.length-o) hi) lo hi).bind λb=>some (.sub i (o+b.1) (b.2-b.1))) none
  |_=>none
 |_=>none
def slN (P:Program) (T:TypeId) (h:aK) (x:SV):Option Nat:=
 match x with
 |.r _ (.sl t xs)=>cond (slT P T t) (some xs.length) none
 |.own i=>match look h i with
  |some (.arr _ t xs)=>cond (slT P T t) (some xs.length) none
  |_=>none
 |_=>none
def vZ (P:Program) (T:TypeId) (h:aK) (x:SV) (lo:Option SV) (hi m:SV):Option SV:=
 (slN P T h x).bind λn=>m.asI.bind λz=>cond (decide (0<=z/\z<=(n:Int))) ((bounds z.toNat lo (some hi)).bind λ_=>some .undef) none
def bT (P:Program) (T:TypeId) (h:aK) (x:SV) (k:Int):Option SV:=
 match x with
 |.r d (.sl t xs)=>cond (slT P T t) ((idx xs k).bind λe=>some (.kh d (t.cells e))) none
 |.own i=>match look h i with
  |some (.arr _ t xs)=>cond (slT P T t) (cond (decide (0<=k/\k<(xs.length:Int))) (some (.ptr i k.toNat 0)) none) none
  |_=>none
 |.sub i o n=>match look h i with
  |some (.arr _ t _)=>cond (slT P T t) (cond (decide (0<=k/\k<(n:Int))) (some (.ptr i (o+k.toNat) 0)) none) none
  |_=>none
 |.bsl i n=>(lP P T).bind λe=>(iS P e).bind λsz=>cond (decide (0<=k/\k<(n:Int))) (some (.ptr i 0 (k.toNat*sz))) none
 |_=>none
def JQ (P:Program) (src dst:TypeId) (x:SV):Option SV:=
 match P.underlying src,P.underlying dst,x with
 |some (.int _),some (.int k),.r _ (.int _ n)=>some (.r [] (.int k (k.wrap n)))
 |some .string,some .string,.r _ (.str l)=>some (.r [] (.str l))
 |_,_,_=>none
def vh (P:Program) (T:TypeId):Bool:=
 match lP P T with
 |some e=>match P.underlying e with
  |some (.int .u8)=>true
  |_=>false
 |none=>false
def bytesOf (l:List Int):List UInt8:=l.map λn=>UInt8.ofNat n.toNat
def L5 (bI:List (Nat× SV)):Option Operand->Option (Option SV)
 |none=>some none
 |some x=>(opd bI x).bind λv=>some (some v)
def ri (bI:List (Nat× SV)):List (Nat× Operand)->Option (List (Nat× SV))
 |[]=>some []
 |(k,x)::l=>(opd bI x).bind λv=>(ri bI l).bind λvs=>some ((k,v)::vs)
def gx (P:Program) (s:List (Nat× SV)) (h:aK) (op:Op):Option SV:=
 match op with
 |.move x|.assign x=>opd s x
 |.pick c a b=>(opd s c).bind λc=>c.asB.bind λc=>cond c (opd s a) (opd s b)
 |.build T parts=>
  match P.underlying T with
  |some (.struct fs)=>(sk P fs.toList).bind λpl=>(gu P T).bind λz=>(ri s parts.toList).bind λps=>
   (oX (λk=>pl[k]?) z ps).bind λcs=>some (.agg cs)
  |_=>none
 |.load T a=>(opd s a).bind λa=>(ld h a).bind λcs=>iu P T cs
 |.nilCheck x=>(opd s x).bind λv=>match v with
  |.ptr i x o=>some (.ptr i x o)
  |.kh d cs=>some (.kh d cs)
  |_=>none
 |.binOp op T x y _=>(opd s x).bind λx=>(opd s y).bind λy=>bin P T op x y
 |.unOp op _ x=>(opd s x).bind λx=>un op x
 |.convert src dst x=>(opd s x).bind λx=>cond (vh P src&&isStr P dst) ((x.list h (.int .u8)).bind λp=>some (.r [] (.str (bytesOf p.2)))) (JQ P src dst x)
 |.makeFunc fn first cap=>(rv s first.toList).bind λa=>(rv s cap.toList).bind λb=>some (.fn fn a b)
 |.slice T x lo hi none=>(opd s x).bind λx=>(L5 s lo).bind λlo=>(L5 s hi).bind λhi=>iY P T h x lo hi
 |.slice T x lo (some hi) (some m)=>(opd s x).bind λx=>(L5 s lo).bind λlo=>(opd s hi).bind λhi=>(opd s m).bind λm=>vZ P T h x lo hi m
 |.fieldAddr T x f=>(opd s x).bind λx=>(tS P T f).bind λf=>match x with
  |.kh d cs=>some (.kh d (cs.drop f.offset))
  |.ptr i k o=>some (.ptr i k (o+f.offset))
  |_=>none
 |.field T x f=>(opd s x).bind λx=>(tS P T f).bind λf=>match x with
  |.agg cs=>iu P f.type (cs.drop f.offset)
  |_=>none
 |.indexAddr T x k=>(opd s x).bind λx=>(opd s k).bind λk=>k.asI.bind λk=>bT P T h x k
 |.index T x k=>(opd s x).bind λx=>(opd s k).bind λk=>k.asI.bind λk=>match x with
  |.r _ (.str l)=>cond (isStr P T) ((idx l k).bind λc=>some (.r [] (.int .u8 c.toNat))) none
  |_=>none
 |.extract x k=>(opd s x).bind λx=>match x with
  |.tup vs=>vs[k]?
  |_=>none
 |.call {callee:=.builtin .len,args,argTypes}=>(rv s args.toList).bind λvs=>match vs,argTypes.toList with
  |[v],T::_=>cond (Qe P T v) ((lenOf h v).bind λn=>some (.i n)) none
  |_,_=>none
 |.call {callee:=.builtin .cap,args,argTypes}=>(rv s args.toList).bind λvs=>match vs,argTypes.toList with
  |[.cr],T::_=>cond (GW P T) (some (.i 0)) none
  |_,_=>none
 |.call {callee:=.builtin .min,args,.. }=>(rv s args.toList).bind λvs=>match vs with
  |[.r _ (.int k a),.r _ (.int _ b)]=>some (.r [] (.int k (if b<a then b else a)))
  |[.r _ (.int k a),.r _ (.int _ b),.r _ (.int _ c)]=>some (.r [] (.int k (if c<(if b<a then b else a)then c else(if b<a then b else a))))
  |_=>none
 |.call {callee:=.builtin .max,args,.. }=>(rv s args.toList).bind λvs=>match vs with
  |[.r _ (.int k a),.r _ (.int _ b)]=>some (.r [] (.int k (if b>a then b else a)))
  |_=>none
 |_=>none
def Bm {α:Type} (h:aK) (v:SV) (K:List SV->Option α):Option α:=
 match v with
 |.kh d cs=>K (cs.map (mkR d))
 |.ptr i x o=>match look h i with
  |some (.box cs)=>K (cs.drop o)
  |some (.arr sh t xs)=>(xs[x]?).bind λe=>K (((t.cells e).map (mkR (JO i sh))).drop o)
  |_=>none
 |_=>none
def N0 {α:Type} (op:BinOp) (k:IntKind) (a b:Int) (K:R->Option α):Option α:=
 match op with
 |.quo=>cond (decide (b=0)) none (K (.int k (k.wrap (a.tdiv b))))
 |.rem=>cond (decide (b=0)) none (K (.int k (a.tmod b)))
 |op=>(Pc op k a b).bind K
def Fa {α:Type} (op:BinOp) (k:IntKind) (a b:Int) (K:R->Option α):Option α:=
  cond (decide (b<0)) none
    (match op with
     |.shl=>K (.int k (k.wrap (a*2^(min b.toNat k.bits))))
     |.shr=>K (.int k (a.fdiv (2^(min b.toNat k.bits))))
     |_=>none)
def N1 {α:Type} (op:BinOp) (a b:List UInt8) (K:R->Option α):Option α:=
 match op with
 |.add=>cond (decide (a.length+b.length<=aU)) (K (.str (a++b))) none
 |op=>(Pp op a b).bind K
def Qp {α:Type} (P:Program) (T:TypeId) (op:BinOp) (x y:SV) (K:SV->Option α):Option α:=
 match x,y with
 |.r _ (.int k a),.r _ (.int l b)=>cond (JP op) (Fa op k a b λr=>K (.r [] r)) (cond (decide (k=l)) (N0 op k a b λr=>K (.r [] r)) none)
 |.r _ (.str a),.r _ (.str b)=>N1 op a b λr=>K (.r [] r)
 |x,y=>(bin P T op x y).bind K
def oY {α:Type} (n:Nat) (lo hi:Option SV) (K:Nat->Nat->Option α):Option α:=
 let lower (h:Nat):Option α:=match lo with
  |none=>K 0 h
  |some v=>v.asI.bind λx=>cond (decide (0<=x/\x<=(h:Int))) (K x.toNat h) none
 match hi with
 |none=>lower n
 |some v=>v.asI.bind λx=>cond (decide (0<=x/\x<=(n:Int))) (lower x.toNat) none
def JR {α:Type} (P:Program) (T:TypeId) (h:aK) (x:SV) (lo hi:Option SV) (K:SV->Option α):Option α:=
 match x with
 |.r d (.str l)=>cond (isStr P T) (oY l.length lo hi λa b=>K (.r d (.str ((l.take b).drop a)))) none
 |.r d (.sl t xs)=>cond (slT P T t) (oY xs.length lo hi λa b=>K (.r d (.sl t ((xs.take b).drop a)))) none
 |.cr=>cond (GW P T) (oY 0 lo hi λ_ _=>K .cr) none
 |.own i=>match look h i with
  |some (.arr _ t xs)=>cond (slT P T t) (oY xs.length lo hi λa b=>K (.sub i a (b-a))) none
  |_=>none
 |.sub i o n=>match look h i with
  |some (.arr _ t xs)=>cond (slT P T t) (oY (Qo n (xs.length-o) hi) lo hi λa b=>K (.sub i (o+a) (b-a))) none
  |_=>none
 |_=>none
def tT {α:Type} (P:Program) (T:TypeId) (h:aK) (x:SV) (k:Int) (K:SV->Option α):Option α:=
 match x with
 |.r d (.sl t xs)=>cond (slT P T t) ((idx xs k).bind λe=>K (.kh d (t.cells e))) none
 |.own i=>match look h i with
  |some (.arr _ t xs)=>cond (slT P T t) (cond (decide (0<=k/\k<(xs.length:Int))) (K (.ptr i k.toNat 0)) none) none
  |_=>none
 |.sub i o n=>match look h i with
  |some (.arr _ t _)=>cond (slT P T t) (cond (decide (0<=k/\k<(n:Int))) (K (.ptr i (o+k.toNat) 0)) none) none
  |_=>none
 |x=>(bT P T h x k).bind K
def C7 {α:Type} (P:Program) (T:TypeId) (h:aK) (x:SV) (lo:Option SV) (hi m:SV) (K:SV->Option α):Option α:=
 (slN P T h x).bind λn=>m.asI.bind λz=>cond (decide (0<=z/\z<=(n:Int))) (oY z.toNat lo (some hi) λ_ _=>K .undef) none
def nI {α:Type} (P:Program) (s:List (Nat× SV)) (h:aK) (op:Op) (K:SV->Option α):Option α:=
 match op with
 |.load T a=>(opd s a).bind λa=>Bm h a λcs=>(iu P T cs).bind K
 |.binOp op T x y _=>(opd s x).bind λx=>(opd s y).bind λy=>Qp P T op x y K
 |.slice T x lo hi none=>(opd s x).bind λx=>(L5 s lo).bind λlo=>(L5 s hi).bind λhi=>JR P T h x lo hi K
 |.slice T x lo (some hi) (some m)=>(opd s x).bind λx=>(L5 s lo).bind λlo=>(opd s hi).bind λhi=>(opd s m).bind λm=>C7 P T h x lo hi m K
 |.indexAddr T x k=>(opd s x).bind λx=>(opd s k).bind λk=>k.asI.bind λk=>tT P T h x k K
 |.index T x k=>(opd s x).bind λx=>(opd s k).bind λk=>k.asI.bind λk=>match x with
  |.r _ (.str l)=>cond (isStr P T) ((idx l k).bind λc=>K (.r [] (.int .u8 c.toNat))) none
  |_=>none
 |op=>(gx P s h op).bind K
theorem dx {α β:Type} (b:Bool) (x y:Option α) (K:α->Option β):(cond b x y).bind K=cond b (x.bind K) (y.bind K):=by cases b<;>rfl
theorem Fb {α:Type} (h:aK) (v:SV) (K:List SV->Option α):Bm h v K=(ld h v).bind K:=by
 unfold Bm ld;split
 ·rfl
 ·split
  ·rfl
  ·rw[Rn];rfl
  ·rfl
 ·rfl
theorem Me {α:Type} (op:BinOp) (k:IntKind) (a b:Int) (K:R->Option α):N0 op k a b K=(Pc op k a b).bind K:=by
 unfold N0;split
 ·show _=(cond _ none (some _)).bind K;rw[dx];rfl
 ·show _=(cond _ none (some _)).bind K;rw[dx];rfl
 ·rfl
theorem Ic {α:Type} (op:BinOp) (k:IntKind) (a b:Int) (K:R->Option α):Fa op k a b K=(C6 op k a b).bind K:=by
 unfold Fa C6;rw[dx];cases op<;>rfl
theorem Mf {α:Type} (op:BinOp) (a b:List UInt8) (K:R->Option α):N1 op a b K=(Pp op a b).bind K:=by
 unfold N1;split
 ·show _=(cond _ (some _) none).bind K;rw[dx];rfl
 ·rfl
theorem N2 {α:Type} (P:Program) (T:TypeId) (op:BinOp) (x y:SV) (K:SV->Option α):Qp P T op x y K=(bin P T op x y).bind K:=by
 unfold Qp;split
 ·simp only[bin,dx,Ic,Me,Rn,Q9,RI]
 ·simp only[bin,Mf,Rn,Q9]
 ·rfl
theorem kW {α:Type} (n:Nat) (lo hi:Option SV) (K:Nat->Nat->Option α):oY n lo hi K=(bounds n lo hi).bind λb=>K b.1 b.2:=by
 unfold oY bounds;cases hi<;>cases lo<;>simp only[Rn,Q9,dx,RI]
theorem JS {α:Type} (P:Program) (T:TypeId) (h:aK) (x:SV) (lo hi:Option SV) (K:SV->Option α):JR P T h x lo hi K=(iY P T h x lo hi).bind K:=by
 unfold JR iY;split
 ·simp only[dx,kW,Rn,Q9,RI]
 ·simp only[dx,kW,Rn,Q9,RI]
 ·simp only[dx,kW,Rn,Q9,RI]
 ·split
  ·simp only[dx,kW,Rn,Q9,RI]
  ·rfl
 ·split
  ·simp only[dx,kW,Rn,Q9,RI]
  ·rfl
 ·rfl
theorem Bn {α:Type} (P:Program) (T:TypeId) (h:aK) (x:SV) (k:Int) (K:SV->Option α):tT P T h x k K=(bT P T h x k).bind K:=by
 unfold tT;split
 ·simp only[bT,dx,Rn,Q9,RI]
 ·simp only[bT];split
  ·simp only[dx,Q9,RI]
  ·rfl
 ·simp only[bT];split
  ·simp only[dx,Q9,RI]
  ·rfl
 ·rfl
theorem nJ {α:Type} (P:Program) (s:List (Nat× SV)) (h:aK) (op:Op) (K:SV->Option α):nI P s h op K=(gx P s h op).bind K:=by
 unfold nI;split
 ·simp only[gx,Fb,Rn]
 ·simp only[gx,N2,Rn]
 ·simp only[gx,JS,Rn]
 ·simp only[gx,C7,vZ,kW,Rn,dx,Q9,RI]
 ·simp only[gx,Bn,Rn]
 ·simp only[gx,Rn]
  congr 1;funext x;congr 1;funext k;congr 1;funext k
  split
  ·simp only[dx,Rn,Q9,RI]
  ·rfl
 ·rfl
structure CR where
 v:SV
 news:List Blk:=[]
 upd:aK:=[]
 gone:List Nat:=[]
 lf:List Nat:=[]
def CR.kil (c:CR):Kil:=(c.gone,c.gone++c.lf)
abbrev Out:=SV× List Blk
abbrev Orc:=(ρ:Type)->Nat->List SV->aK->(CR->Option ρ)->Option ρ
def Pt:Orc:=λ_ _ _ _ _=>none
def aO:Nat->List Blk->aK
 |_,[]=>[]
 |n,b::l=>(n,b)::aO (n+1) l
inductive Co where
 |oK (sh:Bool) (t:Ty)
 |ro (t:Ty)
 |drop
 |dep (j:Nat)
 |Mg (t j:Nat)
inductive eB where
 |slot (t:Nat)
 |cell (t j:Nat)
 |box (i j:Nat)
 |JC (t j:Nat)
 |gh (k:Nat)
def coV (n:Nat) (h:aK):Co->SV->SV× List Blk
 |.oK sh t,.cr=>(.own n,[.arr (cond sh (some []) none) t []])
 |.ro t,v=>match v.list h t with
  |some p=>(.r p.1 (.sl t p.2),[])
  |none=>(v,[])
 |.drop,_=>(.undef,[])
 |.dep j,.r d x=>(.r (cond (mem j d) d (d++[j])) x,[])
 |_,v=>(v,[])
def Mh (st:St) (i j:Nat) (c:Co):St:=
 match look st.heap i with
 |some (.box cs)=>match cs[j]? with
  |some v=>{st with heap:=put (st.heap++aO st.nid (coV st.nid st.heap c v).2) i (.box (cs.set j (coV st.nid st.heap c v).1)),nid:=st.nid+(coV st.nid st.heap c v).2.length}
  |none=>st
 |_=>st
def C8 (st:St):eB× Co->St
  | (.slot t, c) => match look st.bI t with
    |some v=>{st with bI:=put st.bI t (coV st.nid st.heap c v).1,heap:=st.heap++aO st.nid (coV st.nid st.heap c v).2,nid:=st.nid+(coV st.nid st.heap c v).2.length}
    |none=>st
  | (.cell t j, c) => match look st.bI t with
    | some (.agg cs) => match cs[j]? with
      |some v=>{st with bI:=put st.bI t (.agg (cs.set j (coV st.nid st.heap c v).1)),heap:=st.heap++aO st.nid (coV st.nid st.heap c v).2,nid:=st.nid+(coV st.nid st.heap c v).2.length}
      |none=>st
    |_=>st
  |(.box i j,c)=>Mh st i j c
  | (.JC t j, c) => match look st.bI t with
    |some (.ptr i _ _)=>Mh st i j c
    |_=>st
  |(.gh k,_)=>{st with gh:=st.gh.set k none}
def Qq (st:St):Co->Co
 |.Mg t j=>match look st.bI t with
  |some (.ptr i _ _)=>match look st.heap i with
   |some (.box cs)=>match cs[j]? with
    |some (.own k)=>.dep k
    |_=>.dep 0
   |_=>.dep 0
  |_=>.dep 0
 |c=>c
def Pu (st:St) (x:eB× Co):St:=C8 st (x.1,Qq st x.2)
def JT:List (eB× Co)->St->St
 |[],st=>st
 |x::l,st=>JT l (Pu st x)
structure Env where
 P:Program
 tt:TT
 orc:FuncId->Orc
 wr:FuncId->Bool:=λ_=>false
 wt:Bool:=false
 inn:Bool:=false
 fz:Nat->List (Bool× Nat× List Nat):=λ_=>[]
 wk:Nat->List (eB× Co):=λ_=>[]
 lit:Bool:=false
 tak:Bool:=false
 tkt:List Nat:=[]
 swp:Bool:=false
def rj:aK->aK->aK
 |[],h=>h
 |(k,b)::l,h=>rj l (put h k b)
def Pv (s:List (Nat× SV)) (n:Nat) (dst:Option Tmp) (v:SV):Option (List (Nat× SV)):=
 match dst with
 |some t=>cond (Nat.ble (t+1) n) (some (put s t v)) none
 |none=>some s
def St.take (st:St) (dst:Option Tmp) (c:CR):Option St:=
  (ir c.kil (rj c.upd st.heap)).bind λh=>(Pv (nH c.kil st.bI) st.n dst c.v).bind λs=>
    some {st with bI:=s,heap:=h++aO st.nid c.news,nid:=st.nid+c.news.length}
def setCells (cs:List SV) (o:Nat) (vs:List SV):Option (List SV):=
 cond (Nat.ble (o+vs.length) cs.length) (some (cs.take o++vs++cs.drop (o+vs.length))) none
def oZ:Ty->Bool
 |.sl _=>false
 |.ho _|.hl _=>false
 |.st .shape|.st .L4|.st .cO|.st .iq=>true
 |.st _=>false
 |_=>true
def isNil {α:Type}:List α->Bool
 |[]=>true
 |_=>false
def Ie (h:aK) (t:Ty):Nat->List SV->Option (List Nat× List t.El)
 |0,_=>some ([],[])
 |n+1,cs=>(Qd h t (cs.take t.sz)).bind λp=>(Ie h t n (cs.drop t.sz)).bind λq=>some (p.1++q.1,p.2::q.2)
def SV.JD (h:aK) (t:Ty) (v:SV):Option (List Nat× R):=
 match t with
 |.sl t'=>match v with
  |.cr=>some ([],.sl t' [])
  |.own i=>match look h i with
   |some (.arr none t1 xs)=>if e:t1=t' then some ([i],.sl t' (e▸xs))else none
   |_=>none
  |_=>none
 |.st _=>none
 |.tok=>match v with
  |.r _ (.tok n)=>some ([],.tok n)
  |.cr=>some ([],.tok 0)
  |_=>none
 |_=>match v with
  |.r _ (.int k n)=>some ([],.int k n)
  |.r _ (.bool b)=>some ([],.bool b)
  |.r _ (.str l)=>some ([],.str l)
  |_=>none
def Fc (h:aK):List Ty->List SV->Option (List Nat× List R)
 |[],[]=>some ([],[])
 |t::ts,v::vs=>(v.JD h t).bind λp=>(Fc h ts vs).bind λq=>some (p.1++q.1,p.2::q.2)
 |_,_=>none
def iV (h:aK) (t:Ty):Nat->List SV->Option (List Nat× List t.El)
 |0,_=>some ([],[])
 |n+1,cs=>(Fc h t.tys (cs.take t.sz)).bind λp=>(t.eA p.2).bind λx=>(iV h t n (cs.drop t.sz)).bind λq=>some (p.1++q.1,x::q.2)
def gB:List Nat->Bool
 |[]=>true
 |i::l=>cond (mem i l) false (gB l)
def C9 (h:aK):List SV->Option Bool
 |[]=>some true
 |.own i::l=>(look h i).bind λb=>match b with
  |.arr none _ _=>C9 h l
  |.arr (some _) _ _=>some false
  |.box _=>none
 |.r _ (.sl _ _)::_=>some false
 |.sub _ _ _::_=>some false
 |.bsl _ _::_=>some false
 |_::l=>C9 h l
def GX (h:aK) (t:Ty) (n:Nat) (cs:List SV):Option (Option (List Nat)× List Nat× List t.El):=
 (C9 h cs).bind λb=>cond b ((iV h t n cs).bind λq=>cond (gB q.1) (some (none,q.1,q.2)) none) ((Ie h t n cs).bind λq=>some (some q.1,[],q.2))
def oL (h:aK):SV->List Nat->List Nat
 |.own i,d=>match look h i with
  |some (.arr (some d') _ _)=>d'
  |_=>d
 |_,d=>d
def ry (h:aK) (t:Ty) (v:SV):Option (Option (List Nat)× List Nat× List t.El):=
 match v with
 |.bsl i n=>match look h i with
  |some (.box cs)=>(GX h t n cs).bind λq=>some (q.1,i::q.2.1,q.2.2)
  |_=>none
 |_=>(v.list h t).bind λp=>cond (oZ t) (some (none,[],p.2)) (some (some (oL h v p.1),[],p.2))
def GY (a b:Option (List Nat)):Option (Option (List Nat)):=
 match a,b with
 |none,none=>some none
 |some d,some d'=>some (some (d++d'))
 |some d,none=>some (some d)
 |none,some d=>some (some d)
def o4 (P:Program) (T:TypeId):Bool:=
 match P.info? T with
 |some i=>Nat.ble i.bytes 512
 |none=>false
def Pw (E:Env) (s:List (Nat× SV)) (h:aK) (T:TypeId) (a:Operand):Option SV:=
 cond E.inn (cond (GW E.P T) (match opd s a with
  |some (.ptr i x o)=>match look h i with
   |some (.arr none t _)=>cond (Nat.ble (o+1) t.sz) (some (.inn i x o)) none
   |_=>none
  |_=>none) none) none
def Px {α:Type} (xs:List α) (x:Nat):List (Option α):=(xs.map some).set x none
def Da {α:Type}:List (Option α)->Option (List α)
 |[]=>some []
 |none::_=>none
 |some x::l=>(Da l).bind λl=>some (x::l)
def sn (n:Nat):List R->List SV
 |[]=>[]
 |.sl _ _::l=>.own n::sn (n+1) l
 |r::l=>.r [] r::sn n l
def lQ:List R->List Blk
 |[]=>[]
 |.sl t ys::l=>.arr none t ys::lQ l
 |_::l=>lQ l
def Py (P:Program) (s:List (Nat× SV)) (h:aK) (src dst:TypeId) (x:Operand):Option Nat:=
 cond (Nat.beq src dst&&vh P src) (match opd s x with
  |some (.own i)=>match look h i with
   |some (.arr _ _ (_::_))=>some i
   |_=>none
  |_=>none) none
def Fe (h:aK):SV->Option (Nat× Nat× Nat)
 |.sub i o n=>some (i,o,n)
 |.own i=>match look h i with
  |some (.arr _ _ xs)=>some (i,0,xs.length)
  |_=>none
 |_=>none
variable {ρ:Type}
def v3 (P:Program) (T:TypeId) (h:aK) (i:Nat) (sh:Option (List Nat)) (t:Ty) (ys:List t.El) (k o:Nat) (x:SV) (K:CR->Option ρ):Option ρ:=
 x.cells.bind λxs=>(iS P T).bind λsz=>cond (Nat.beq sz xs.length&&Nat.ble (o+sz) t.sz) (
  match sh with
  |none=>(Fc h ((t.tys.drop o).take sz) xs).bind λp=>cond (gB (i::p.1)) (
    cond (Nat.beq sz t.sz)
     ((t.eA p.2).bind λy=>K {v:=.undef,upd:=[(i,.arr none t (ys.set k y))],gone:=p.1,lf:=[i]})
     ((ys[k]?).bind λe=>(t.eA ((t.cells e).take o++p.2++(t.cells e).drop (o+sz))).bind λy=>K {v:=.undef,upd:=[(i,.arr none t (ys.set k y))],gone:=p.1,lf:=[i]})) none
  |some d=>(JB h ((t.tys.drop o).take sz) xs).bind λp=>cond (mem i p.1) none (
    cond (Nat.beq sz t.sz)
     ((t.eA p.2).bind λy=>K {v:=.undef,upd:=[(i,.arr (some (d++p.1)) t (ys.set k y))],lf:=[i]})
     ((ys[k]?).bind λe=>(t.eA ((t.cells e).take o++p.2++(t.cells e).drop (o+sz))).bind λy=>K {v:=.undef,upd:=[(i,.arr (some (d++p.1)) t (ys.set k y))],lf:=[i]}))) none
def Pz (P:Program) (T:TypeId):Bool:=
 match P.underlying T with
 |some (.int _)=>true
 |_=>false
def QM (E:Env) (h:aK) (nid n sz:Nat) (t:Ty) (cs:List SV) (K:CR->Option ρ):Option ρ:=
 cond (E.lit&&Nat.beq t.sz sz) (match iV h t n cs with
  |some ([],xs)=>K {v:=.own nid,news:=[.arr none t xs]}
  |_=>K {v:=.bsl nid n,news:=[.box cs]}) (K {v:=.bsl nid n,news:=[.box cs]})
def Ff (E:Env) (h:aK) (nid:Nat) (e:TypeId) (sz:Nat) (t:Ty) (T':TypeId) (b x:SV) (K:CR->Option ρ):Option ρ:=
 match b with
 |.cr=>cond (Pz E.P T'&&(o4 E.P e&&Nat.beq t.sz sz)) (x.asI.bind λl=>(gu E.P e).bind λz=>(iV h t 1 z).bind λq=>cond (isNil q.1&&Nat.beq z.length sz) (match q.2 with
   |[y]=>cond (decide (1<=l/\l<=(aU:Int))) (K {v:=.own nid,news:=[.arr none t (List.replicate l.toNat y)]}) none
   |_=>none) none) none
 |_=>none
def Fg (h:aK) (t:Ty) (b x:SV) (K:CR->Option ρ):Option ρ:=
 match b,x with
 |.sub i 0 a,.sub i' o n=>cond (Nat.beq i i') (match look h i with
  |some (.arr (some d) t' xs)=>if he:t'=t then cond (mem i d) none (cond (Nat.ble (a+n) xs.length&&(Nat.ble (o+n) xs.length&&Nat.ble 1 xs.length))
    (K {v:=.sub i 0 (a+n),upd:=[(i,.arr (some d) t ((he▸xs).take a++((he▸xs).drop o).take n++(he▸xs).drop (a+n)))],lf:=[i]}) none)else none
  |_=>none) none
 |_,_=>none
def PA (E:Env) (s:List (Nat× SV)) (h:aK) (nid:Nat) (T:TypeId) (a:Operand) (K:CR->Option ρ) (D:Option ρ):Option ρ:=
 cond E.tak (match opd s a with
  |some (.ptr i x 0)=>match look h i with
   |some (.arr none (.st st) xs)=>cond (oZ (.st st)) D ((xs[x]?).bind λe=>(iu E.P T (sn nid (st.cells e))).bind λv=>
     K {v:=v,news:=lQ (st.cells e),upd:=[(i,.arr none (.ho st) (Px xs x))],lf:=[i]})
   |_=>D
  |_=>D) D
def taken (E:Env):Operand->Bool
 |.tmp t=>mem t E.tkt
 |_=>false
def PB (E:Env) (s:List (Nat× SV)) (h:aK) (nid:Nat) (T:TypeId) (a:Operand) (K:CR->Option ρ) (D:Option ρ):Option ρ:=
  cond (taken E a) (match opd s a with
    | some (.ptr i x 0) => match look h i with
      |some (.arr none (.sl t) xs)=>(xs[x]?).bind λe=>(iu E.P T (sn nid ((Ty.sl t).cells e))).bind λv=>
          K {v:=v,news:=lQ ((Ty.sl t).cells e),upd:=[(i,.arr none (.hl t) (Px xs x))],lf:=[i]}
      |_=>none
    |_=>none) D
def Bo (E:Env) (s:List (Nat× SV)) (h:aK) (nid:Nat) (op:Op) (K:CR->Option ρ):Option ρ:=
  match op with
  |.alloc T=>(gu E.P T).bind λz=>K {v:=.ptr nid 0 0,news:=[.box z]}
  |.box _ x=>(opd s x).bind λv=>v.cells.bind λcs=>K {v:=.ptr nid 0 0,news:=[.box cs]}
  | .buildSlice T n parts =>
    (lP E.P T).bind λe=>(iS E.P e).bind λsz=>(ri s parts.toList).bind λps=>(gu E.P e).bind λz=>
      cond (Nat.ble (n*sz) 16777216&&Nat.beq z.length sz) ((oX (λi=>some (i*sz,sz)) (List.replicate (n*sz) .undef) ps).bind λcs=>
        match E.tt e with
        |none=>K {v:=.bsl nid n,news:=[.box cs]}
        |some t=>cond ((oZ t||Nat.beq n 0)&&Nat.beq t.sz sz) ((iV h t n cs).bind λx=>cond (isNil x.1) (K {v:=.own nid,news:=[.arr none t x.2]}) none) (QM E h nid n sz t cs K)) none
  | .makeSlice T l c =>
    (lP E.P T).bind λe=>(iS E.P e).bind λsz=>(E.tt e).bind λt=>(gu E.P e).bind λz=>(opd s l).bind λl=>(opd s c).bind λc=>l.asI.bind λl=>c.asI.bind λc=>
      cond (o4 E.P e&&Nat.beq t.sz sz) ((iV h t 1 z).bind λx=>cond (isNil x.1&&Nat.beq z.length sz) (match x.2 with
        |[y]=>cond (decide (0<=l/\l<=c/\c<=(aU:Int))) (K {v:=.own nid,news:=[.arr none t (List.replicate l.toNat y)]}) none
        |_=>none) none) none
  | .call { callee := .builtin .append, args, argTypes } => (rv s args.toList).bind λ vs => match vs, argTypes.toList with
    | [b, x], [T, T'] => (lP E.P T).bind λ e => (iS E.P e).bind λ sz => (E.tt e).bind λ t => cond (o4 E.P e && (Nat.beq t.sz sz && Nat.beq T T')) ((gu E.P e).bind λ z => cond (Nat.beq z.length sz)
      ((ry h t x).bind λy=>match b with
        |.cr=>cond (hit y.2.1 (y.1.getD [])) none (cond (Nat.ble y.2.2.length aU) (K {v:=.own nid,news:=[.arr y.1 t y.2.2],gone:=y.2.1}) none)
        | .own i => match look h i with
          | some (.arr sh t' xs) => if he : t' = t then
              (GY sh y.1).bind λsh'=>cond (mem i y.2.1) none (cond (hit (i::y.2.1) (sh'.getD [])) none (cond (Nat.ble (xs.length+y.2.2.length) aU) (K {v:=.own nid,news:=[.arr sh' t ((he▸xs)++y.2.2)],gone:=i::y.2.1}) none))
            else none
          |_=>none
        |b=>Fg h t b x K) none) (Ff E h nid e sz t T' b x K)
    |_,_=>none
  | .call { callee := .builtin .clear, args, argTypes } => (rv s args.toList).bind λ vs => match vs, argTypes.toList with
    | [v], [T] => (lP E.P T).bind λ e => (gu E.P e).bind λ z => (Fe h v).bind λ p => match look h p.1 with
      | some (.arr sh t xs) => cond (Nat.beq z.length t.sz) ((iV h t 1 z).bind λ x => cond (isNil x.1) (match x.2 with
        |[y]=>K {v:=.undef,upd:=[(p.1,.arr sh t (xs.take p.2.1++List.replicate p.2.2 y++xs.drop (p.2.1+p.2.2)))],lf:=[p.1]}
        |_=>none) none) none
      |_=>none
    |_,_=>none
  | .store T a x => (opd s a).bind λ a => (opd s x).bind λ x => match a with
    | .ptr i k o => match look h i with
      |some (.box cs)=>cond (Nat.beq k 0) (x.cells.bind λxs=>(iS E.P T).bind λsz=>cond (Nat.beq sz xs.length) ((setCells cs o xs).bind λcs=>K {v:=.undef,upd:=[(i,.box cs)]}) none) none
      |some (.arr sh t ys)=>v3 E.P T h i sh t ys k o x K
      |_=>none
    |_=>none
  | .call { callee := .value f, args, .. } => (opd s f).bind λ f => (rv s args.toList).bind λ vs => match f with
    |.fn (.func g) first cap=>E.orc g ρ nid (first++vs++cap) h K
    |_=>none
  | .load T a => PB E s h nid T a K (match Pw E s h T a with
    |some v=>K {v:=v}
    |none=>PA E s h nid T a K (nI E.P s h (.load T a) λv=>K {v:=v}))
  | .convert src dst x => match Py E.P s h src dst x with
    |some i=>K {v:=.own i}
    |none=>nI E.P s h (.convert src dst x) λv=>K {v:=v}
  |op=>nI E.P s h op λv=>K {v:=v}
noncomputable def both (x y:Option ρ):Option ρ:=open Classical in if x=y then x else none
def GZ:Op->Option (TypeId× Operand× Bool)
 |.binOp .eql T x (.const (.slice none 0 0)) _=>some (T,x,true)
 |.binOp .neq T x (.const (.slice none 0 0)) _=>some (T,x,false)
 |_=>none
noncomputable def Qr (h:aK) (v:SV) (K:Bool->Option ρ):Option ρ:=
 match v with
 |.cr=>K true
 |.r _ (.sl _ xs)=>cond (isNil xs) (both (K true) (K false)) (K false)
 |.own i=>match look h i with
  |some (.arr _ _ xs)=>cond (isNil xs) (both (K true) (K false)) (K false)
  |_=>none
 |_=>none
noncomputable def Pf (E:Env) (o:Oper) (st:St) (K:St->Option ρ):Option ρ:=
 match GZ o.op with
 |some (T,x,e)=>cond (GW E.P T) ((opd st.bI x).bind λv=>Qr st.heap v λb=>(st.take o.dst {v:=.b (cond b e (!e))}).bind K) none
 |none=>Bo E st.bI st.heap st.nid o.op λc=>(st.take o.dst c).bind K
def N3 (ops:List Oper) (j:Nat):Option Tmp:=(ops[j]?).bind (·.dst)
def Db (o:Oper) (st:St) (K:St->Option ρ):Option ρ:=
 (Pv st.bI st.n o.dst (.tup [])).bind λs=>K {st with bI:=s}
noncomputable def Bp (E:Env) (all:List Oper):List Oper->St->(St->Option ρ)->Option ρ
  |[],st,K=>K st
  | o :: rest, st, K =>
    match o.guard with
    |none=>Pf E o st λst=>Bp E all rest st K
    | some (j, want) => (N3 all j).bind λ t => (look st.bI t).bind λ v => match v with
      |.tup []=>Db o st λst=>Bp E all rest st K
      | v => v.asB.bind λ b =>
        cond b
          (cond want (Pf E o {st with bI:=put st.bI t (.b true)} λst=>Bp E all rest st K)
            (Db o {st with bI:=put st.bI t (.b true)} λst=>Bp E all rest st K))
          (cond want (Db o {st with bI:=put st.bI t (.b false)} λst=>Bp E all rest st K)
            (Pf E o {st with bI:=put st.bI t (.b false)} λst=>Bp E all rest st K))
def after (H:aK) (nid:Nat) (c:CR):Option aK:=
 (ir c.kil (rj c.upd H)).bind λh=>some (h++aO nid c.news)
structure DR where
 dst:Option Tmp
 n0:Nat
 c:CR
 see:List Nat
 Mi:List SV:=[]
 len:Bool:=false
abbrev SH:=List (Nat× SV)× aK
def G1 (s:List (Nat× SV)) (dst:Option Tmp) (v:SV):List (Nat× SV):=
 match dst with
 |some t=>put s t v
 |none=>s
def Ig:aK->Nat->Blk->aK
 |[],_,_=>[]
 |(k,u)::l,n,b=>cond (Nat.beq k n) ((k,b)::l) ((k,u)::Ig l n b)
def iZ:aK->aK->aK
 |[],h=>h
 |(k,b)::l,h=>iZ l (Ig h k b)
def DR.app (r:DR) (x:SH):Option SH:=
 (ir r.c.kil (iZ r.c.upd x.2)).bind λh=>some (G1 (nH r.c.kil x.1) r.dst r.c.v,h++aO r.n0 r.c.news)
def replay (p:Nat->Bool):Nat->List DR->SH->Option SH
 |_,[],x=>some x
 |j,r::l,x=>cond (p j) ((r.app x).bind λx=>replay p (j+1) l x) (replay p (j+1) l x)
def tU (n:Nat):List Edge->Bool
 |[]=>true
 |e::l=>cond (Region.binds .any e) (cond (Nat.ble (e.on+1) n) (tU n l) false) (tU n l)
def Dc (masks:List Nat):List Edge->Nat
 |[]=>0
 |e::l=>cond (Region.binds .any e) ((masks.getD e.on 0||| 2^e.on)||| Dc masks l) (Dc masks l)
def wQ:List Nat->List Oper->Option (List Nat)
 |acc,[]=>some acc
 |acc,o::l=>cond (tU acc.length o.after.toList) (wQ (acc++[Dc acc o.after.toList]) l) none
def iW:List Oper->List Nat
 |[]=>[]
 |o::l=>match o.dst with
  |some t=>t::iW l
  |none=>iW l
def Mj (masks:List Nat) (i:Nat):Nat->List Oper->List Nat
 |_,[]=>[]
 |j,o::l=>cond ((masks.getD j 0).testBit i) (Mj masks i (j+1) l) (match o.dst with
  |some t=>t::Mj masks i (j+1) l
  |none=>Mj masks i (j+1) l)
def Ih (n:Nat):List Nat->Bool
 |[]=>true
 |i::l=>cond (Nat.ble (i+1) n) (Ih n l) false
def eL:List Operand->List Nat
 |[]=>[]
 |.tmp t::l=>t::eL l
 |_::l=>eL l
def mU (T:List Nat) (s:List (Nat× SV)):List Nat->List (Nat× SV)
 |[]=>[]
 |t::l=>cond (mem t T) (mU T s l) (match look s t with
  |some v=>(t,v)::mU T s l
  |none=>mU T s l)
def lT (E:Env):Op->Bool
 |.store _ _ _=>true
 |.load _ _=>E.tak
 |.call {callee:=.builtin .len,.. }|.call {callee:=.builtin .cap,.. }|.call {callee:=.builtin .min,.. }|.call {callee:=.builtin .max,.. }=>false
 |.call {callee:=.builtin _,.. }=>true
 |.call {callee:=.value (.func g),.. }=>E.wr g
 |.call {callee:=.value _,.. }=>E.wt
 |.call _=>false
 |_=>false
def PC (masks:List Nat) (i j:Nat):Bool:=Nat.beq i j||((masks.getD i 0).testBit j||(masks.getD j 0).testBit i)
def vi (E:Env) (masks:List Nat) (i:Nat):Nat->List Oper->Bool
 |_,[]=>false
 |j,o::l=>cond (lT E o.op) (cond (PC masks i j) (vi E masks i (j+1) l) true) (vi E masks i (j+1) l)
def Bq (s:List (Nat× SV)):List Nat->List SV
 |[]=>[]
 |t::l=>match look s t with
  |some v=>v::Bq s l
  |none=>Bq s l
def vj (h:aK):List Nat->aK
 |[]=>[]
 |i::l=>match look h i with
  |some b=>(i,b)::vj h l
  |none=>vj h l
def N4:Op->Bool
 |.move _=>true
 |.assign _=>true
 |.extract _ _=>true
 |.nilCheck _=>true
 |.fieldAddr _ _ _=>true
 |_=>false
def PD:Op->Bool
 |.load _ _=>true
 |_=>false
def Qs (E:Env) (masks:List Nat) (i:Nat) (ops:List Oper) (x:SH) (o:Oper):List Nat:=
 cond (vi E masks i 0 ops&&!N4 o.op) (reach x.2 (cond (PD o.op) 0 3) (oJ [] (Ib (Bq x.1 (eL o.op.operands.toList))))) []
def Ii (E:Env) (masks:List Nat) (i:Nat) (ops:List Oper) (x:SH) (o:Oper):aK:=
 cond (vi E masks i 0 ops) (vj x.2 (Qs E masks i ops x o)) x.2
def Mk (L:List Nat):aK->Bool
 |[]=>false
 |(k,_)::l=>cond (mem k L) true (Mk L l)
def okW (E:Env) (op:Op) (c:CR):Bool:=cond (lT E op) true (isNil c.kil.2&&isNil c.upd)
mutual
def SV.JE (T:Kil):SV->Bool
 |.r d _=>!hit T.2 d
 |.own i=>!mem i T.1
 |.sub i _ _=>!mem i T.1
 |.bsl i _=>!mem i T.1
 |.ptr i _ _=>!mem i T.1
 |.inn i _ _=>!(mem i T.1||mem i T.2)
 |.kh d _=>!hit T.2 d
 |.agg cs=>wR T cs
 |.tup cs=>wR T cs
 |.fn _ a b=>wR T a&&wR T b
 |.cr=>true
 |.oW=>true
 |.undef=>true
def wR (T:Kil):List SV->Bool
 |[]=>true
 |v::l=>v.JE T&&wR T l
end
def Blk.JE (T:Kil):Blk->Bool
 |.box cs=>wR T cs
 |.arr (some d) _ _=>!hit T.2 d
 |.arr none _ _=>true
def JU (k:Nat) (B:Blk):List DR->Bool
 |[]=>true
 |r::l=>cond ((look r.c.upd k).isNone&&(!mem k r.c.kil.1&&B.JE r.c.kil)) (JU k B l) false
def Qf (h:aK) (rs:List DR):List Nat->Bool
 |[]=>true
 |k::l=>match look h k with
  |some B=>cond (JU k B rs) (Qf h rs l) false
  |none=>false
def fN (cm:DR->Bool) (r:DR):Bool:=isNil r.c.kil.2&&(isNil r.c.upd&&(isNil r.c.news&&cm r))
def Ij (b a:DR):Bool:=a.c.v.JE b.c.kil&&wR b.c.kil a.Mi
def PE (b:DR):aK->Bool
 |[]=>true
 |(k,_)::l=>cond (Nat.ble (k+1) b.n0||Nat.ble (b.n0+b.c.news.length) k) (PE b l) false
def Fh (a b:DR):Bool:=(isNil a.c.kil.2&&isNil b.c.kil.2)&&((isNil b.c.upd&&PE b a.c.upd)||(isNil a.c.upd&&PE a b.c.upd))&&(!(Mk b.see a.c.upd)&&!(Mk a.see b.c.upd))
def qZ (cm:DR->Bool) (a b:DR):Bool:=Fh a b||((Ij b a&&fN cm a)||(Ij a b&&fN cm b))
def wS (cm:DR->Bool) (masks:List Nat) (i:Nat) (r:DR):Nat->List DR->Bool
 |_,[]=>true
 |j,b::l=>cond ((masks.getD j 0).testBit i) (wS cm masks i r (j+1) l) (cond (qZ cm r b) (wS cm masks i r (j+1) l) false)
def zQ (cm:DR->Bool) (masks:List Nat):Nat->List DR->Bool
 |_,[]=>true
 |i,r::l=>cond (wS cm masks i r (i+1) l) (zQ cm masks (i+1) l) false
def N5:List DR->Nat->SV->List DR
 |[],_,_=>[]
 |r::l,0,v=>{r with c:={r.c with v:=v}}::l
 |r::l,n+1,v=>r::N5 l n v
def PF:Op->Bool
 |.indexAddr _ _ _=>true
 |_=>false
def PH (h:aK):List Nat->Bool
 |[]=>true
 |i::l=>cond (look h i).isSome (PH h l) false
def Dd (x:SH) (o:Oper):List Nat:=oJ [] (Ib (Bq x.1 (eL o.op.operands.toList)))
def JV (E:Env) (h0:aK) (x:SH) (o:Oper):Bool:=E.swp&&(PF o.op&&PH h0 (Dd x o))
def JW (E:Env) (masks:List Nat) (i:Nat) (ops:List Oper) (h0:aK) (x:SH) (o:Oper):aK:=cond (JV E h0 x o) (vj h0 (Dd x o)) (Ii E masks i ops x o)
def Qg (E:Env) (masks:List Nat) (i:Nat) (ops:List Oper) (h0:aK) (x:SH) (o:Oper):List Nat:=cond (JV E h0 x o) (Dd x o) (Qs E masks i ops x o)
def N6 (E:Env) (masks:List Nat) (i:Nat) (ops:List Oper) (h0:aK) (x:SH) (o:Oper) (nid:Nat) (c:CR):DR:=⟨o.dst,nid,c,Qg E masks i ops h0 x o,Bq x.1 (eL o.op.operands.toList),JV E h0 x o⟩
def oN (E:Env) (ops:List Oper) (masks dsts:List Nat) (s0:List (Nat× SV)) (h0:aK):Nat->List Oper->Nat->List DR->(List DR->Nat->Option ρ)->Option ρ
  |_,[],nid,rs,K=>K rs nid
  | i, o :: rest, nid, rs, K =>
    (replay (Nat.testBit (masks.getD i 0)) 0 rs (mU (Mj masks i 0 ops) s0 (eL o.op.operands.toList),h0)).bind λx=>
    match o.guard with
    |none=>Bo E (mU [] x.1 (eL o.op.operands.toList)) (JW E masks i ops h0 x o) nid o.op λc=>cond (okW E o.op c) (oN E ops masks dsts s0 h0 (i+1) rest (nid+c.news.length) (rs++[N6 E masks i ops h0 x o nid c]) K) none
    | some (g, want) => cond (Nat.testBit (masks.getD i 0) g) ((rs[g]?).bind λ r => r.dst.bind λ _ => match r.c.v with
      |.tup []=>oN E ops masks dsts s0 h0 (i+1) rest nid (rs++[⟨o.dst,nid,{v:=.tup []},[],[],false⟩]) K
      | .r [] (.bool b) => cond b
        (cond want
          (Bo E (mU [] x.1 (eL o.op.operands.toList)) (JW E masks i ops h0 x o) nid o.op λc=>cond (okW E o.op c) (oN E ops masks dsts s0 h0 (i+1) rest (nid+c.news.length) (N5 rs g (.b true)++[N6 E masks i ops h0 x o nid c]) K) none)
          (oN E ops masks dsts s0 h0 (i+1) rest nid (N5 rs g (.b true)++[⟨o.dst,nid,{v:=.tup []},[],[],false⟩]) K))
        (cond want
          (oN E ops masks dsts s0 h0 (i+1) rest nid (N5 rs g (.b false)++[⟨o.dst,nid,{v:=.tup []},[],[],false⟩]) K)
          (Bo E (mU [] x.1 (eL o.op.operands.toList)) (JW E masks i ops h0 x o) nid o.op λc=>cond (okW E o.op c) (oN E ops masks dsts s0 h0 (i+1) rest (nid+c.news.length) (N5 rs g (.b false)++[N6 E masks i ops h0 x o nid c]) K) none))
      |_=>none) none
def wT:List Nat->List Nat->Bool
 |[],_=>true
 |i::l,T=>cond (mem i T) false (wT l T)
def Br (L:List Nat):List DR->Bool
 |[]=>true
 |r::l=>cond (wT L r.c.kil.1) (Br L l) false
def zr (h:aK) (rs:List DR) (r:DR):Bool:=cond r.len (Br r.see rs) (Qf h rs r.see)
def zR (cm:DR->Bool):List DR->Bool
 |[]=>true
 |r::l=>cond (!r.len||fN cm r) (zR cm l) false
def Fi (E:Env) (ops:List Oper) (st:St) (K:St->Option ρ):Option ρ:=
  cond (E.P.follows .mixedOrders) ((wQ [] ops).bind λmasks=>
    cond (gB (iW ops)) (cond (Ih st.n (iW ops))
      (oN E ops masks (iW ops) st.bI st.heap 0 ops st.nid [] λrs nid=>cond (zQ (zr st.heap rs) masks 0 rs&&zR (zr st.heap rs) rs)
        ((replay (λ_=>true) 0 rs (st.bI,st.heap)).bind λx=>K {st with bI:=x.1,heap:=x.2,nid:=nid}) none) none) none) none
inductive Ex where
 |normal
 |exit (id:Nat)
 |ret
def refine(c:Operand) (b:Bool) (st:St):St:=
 match c with
 |.tmp t=>{st with bI:=put st.bI t (.b b)}
 |_=>st
abbrev Ev (ρ:Type):=St->(Ex->St->Option ρ)->Option ρ
def inBlock (id:Nat) (K:Ex->St->Option ρ):Ex->St->Option ρ
 |.exit j,st=>cond (Nat.beq j id) (K .normal st) (K (.exit j) st)
 |e,st=>K e st
def L6 (i:Nat):List Nat->List Nat
 |[]=>[]
 |k::l=>cond (Nat.beq k i) (L6 i l) (k::L6 i l)
def G2 (i:Nat) (t:Ty) (h:aK) (v:SV):SV:=
 match v.list h t with
 |some p=>.r (L6 i p.1) (.sl t p.2)
 |none=>.undef
mutual
def SV.frz (i:Nat) (t:Ty) (h:aK):SV->SV
 |.r d x=>.r (L6 i d) x
 |.own j=>cond (Nat.beq j i) (G2 i t h (.own j)) (.own j)
 |.sub j o n=>cond (Nat.beq j i) (G2 i t h (.sub j o n)) (.sub j o n)
 |.bsl j n=>cond (Nat.beq j i) .undef (.bsl j n)
 |.ptr j x o=>cond (Nat.beq j i) .undef (.ptr j x o)
 |.inn j x c=>cond (Nat.beq j i) .undef (.inn j x c)
 |.kh d cs=>.kh (L6 i d) cs
 |.agg cs=>.agg (CW i t h cs)
 |.tup cs=>.tup (CW i t h cs)
 |.fn f a b=>.fn f (CW i t h a) (CW i t h b)
 |.cr=>.cr
 |.oW=>.oW
 |.undef=>.undef
def CW (i:Nat) (t:Ty) (h:aK):List SV->List SV
 |[]=>[]
 |v::l=>v.frz i t h::CW i t h l
end
def Blk.frz (i:Nat) (t:Ty) (h:aK):Blk->Blk
 |.box cs=>.box (CW i t h cs)
 |.arr none t' xs=>.arr none t' xs
 |.arr (some d) t' xs=>.arr (some (L6 i d)) t' xs
def Fj (i:Nat) (t:Ty) (h:aK):aK->aK
 |[]=>[]
 |(k,b)::l=>cond (Nat.beq k i) (Fj i t h l) ((k,b.frz i t h)::Fj i t h l)
def Ik (i:Nat) (t:Ty) (h:aK):List (Nat× SV)->List (Nat× SV)
 |[]=>[]
 |(k,v)::l=>(k,v.frz i t h)::Ik i t h l
def Qt (i:Nat) (st:St):St:=
 match look st.heap i with
 |some (.arr _ t _)=>{st with bI:=Ik i t st.heap st.bI,heap:=Fj i t st.heap st.heap}
 |_=>st
def PI (h:aK):SV->List Nat->Option Nat
 |.own i,[]=>some i
 |.sub i _ _,[]=>some i
 |.agg cs,j::p=>match cs[j]? with
  |some v=>PI h v p
  |none=>none
 |.tup cs,j::p=>match cs[j]? with
  |some v=>PI h v p
  |none=>none
 |.ptr i 0 o,j::p=>match look h i with
  |some (.box cs)=>match cs[o+j]? with
   |some v=>PI h v p
   |none=>none
  |_=>none
 |.bsl i _,j::p=>match look h i with
  |some (.box cs)=>match cs[j]? with
   |some v=>PI h v p
   |none=>none
  |_=>none
 |_,_=>none
termination_by structural _ p=>p
def Qu (i:Nat) (st:St):St:=
 match look st.heap i with
 |some (.arr none t xs)=>{st with heap:=put st.heap i (.arr (some []) t xs)}
 |_=>st
def NH (st:St) (x:Bool× Nat× List Nat):St:=
 match look st.bI x.2.1 with
 |some v=>match PI st.heap v x.2.2 with
  |some i=>cond x.1 (Qu i st) (Qt i st)
  |none=>st
 |none=>st
def G3:List (Bool× Nat× List Nat)->St->St
 |[],st=>st
 |x::l,st=>G3 l (NH st x)
def Blk.JX (b:Blk) (K:Blk->Option ρ):Option ρ:=
 match b with
 |.arr none (.ho s) zs=>(Da zs).bind λxs=>K (.arr none (.st s) xs)
 |.arr none (.hl t) zs=>(Da zs).bind λxs=>K (.arr none (.sl t) xs)
 |b=>K b
def JY:aK->(aK->Option ρ)->Option ρ
 |[],K=>K []
 |(k,b)::l,K=>b.JX λb=>JY l λl=>K ((k,b)::l)
def G4 (E:Env) (K:St->Option ρ) (st:St):Option ρ:=cond E.tak (JY st.heap λh=>K {st with heap:=h}) (K st)
noncomputable def ev (E:Env) (LP:Nat->Ev ρ->Ev ρ) (cb:Nat):Code->Ev ρ
 |.skip,st,K=>K .normal st
 |.label _,st,K=>K .normal st
 |.region id ops false,st,K=>Bp E ops.toList ops.toList (JT (E.wk id) (G3 (E.fz id) st)) (G4 E (K .normal))
 |.region id ops true,st,K=>Fi E ops.toList (JT (E.wk id) (G3 (E.fz id) st)) (G4 E (K .normal))
 |.seq a b,st,K=>ev E LP cb a st λe st=>match e with
  |.normal=>ev E LP cb b st K
  |e=>K e st
 |.cond c t f,st,K=>(opd st.bI c).bind λv=>v.asB.bind λb=>cond b (ev E LP cb t (refine c true st) K) (ev E LP cb f (refine c false st) K)
 |.block id c,st,K=>ev E LP id c st (inBlock id K)
 |.loop c,st,K=>LP cb (λst K=>ev E LP cb c st K) st K
 |.exit id,st,K=>K (.exit id) st
 |.scope c,st,K=>ev E LP cb c st K
 |.ret,st,K=>K .ret st
 |_,_,_=>none
def N7 (body:Ev ρ):Nat->Ev ρ
 |0,_,_=>none
 |n+1,st,K=>body st λe st=>match e with
  |.normal=>N7 body n st K
  |e=>K e st
end
section
def Ext {α:Type} (s s':List (Nat× α)):Prop:=∀t v,look s t=some v->look s' t=some v
theorem Ext.rfl' {α:Type} {s:List (Nat× α)}:Ext s s:=λ_ _ h=>h
def Le {α:Type} (x y:Option α):Prop:=∀a,x=some a->y=some a
theorem Le.refl {α:Type} (x:Option α):Le x x:=λ_ h=>h
theorem Le.bind {α β:Type} {x y:Option α} {f g:α->Option β} (h:Le x y) (hf:∀a,Le (f a) (g a)):Le (x.bind f) (y.bind g):=by
 intro b hb;rw[An]at hb⊢;obtain⟨a,h1,h2⟩:=hb;exact⟨a,h a h1,hf a b h2⟩
theorem Le.cond {α:Type} {b:Bool} {x y x' y':Option α} (h:Le x x') (h':Le y y'):Le (cond b x y) (cond b x' y'):=by cases b<;>assumption
theorem Le.none {α:Type} {y:Option α}:Le Option.none y:=λ_ h=>nomatch h
section
variable {s s':List (Nat× SV)} {h h':aK} {P:Program}
theorem N8 (hh:Ext h h') (i:Nat):Le (look h i) (look h' i):=λ_=>hh i _
theorem c7 (hs:Ext s s') (x:Operand):Le (opd s x) (opd s' x):=by
 cases x with
 |tmp t=>exactλv hv=>hs t v hv
 |_=>exact Le.refl _
theorem ja (hs:Ext s s'):(l:List Operand)->Le (rv s l) (rv s' l)
 |[]=>Le.refl _
 |x::l=>(c7 hs x).bind λ_=>(ja hs l).bind λ_=>Le.refl _
theorem Fk (hs:Ext s s') (x:Option Operand):Le (L5 s x) (L5 s' x):=by
 cases x with
 |none=>exact Le.refl _
 |some x=>exact(c7 hs x).bind λ_=>Le.refl _
theorem o5 (hs:Ext s s'):(l:List (Nat× Operand))->Le (ri s l) (ri s' l)
 |[]=>Le.refl _
 |(_,x)::l=>(c7 hs x).bind λ_=>(o5 hs l).bind λ_=>Le.refl _
theorem Il (hh:Ext h h') (v:SV):Le (ld h v) (ld h' v):=by
 cases v<;>try exact Le.refl _
 rename_i i x o;intro cs hcs;simp only[ld]at hcs⊢
 cases hl:look h i with
 |none=>rw[hl]at hcs;exact nomatch hcs
 |some B=>rw[hl]at hcs;rw[hh i B hl];exact hcs
theorem Ml (hh:Ext h h') (v:SV):Le (lenOf h v) (lenOf h' v):=by
 intro n hn
 cases v with
 |own i=>
  simp only[lenOf]at hn⊢
  cases hl:look h i with
  |none=>rw[hl]at hn;exact nomatch hn
  |some B=>rw[hl]at hn;rw[hh i B hl];exact hn
 |r d x=>cases x<;>exact hn
 |_=>exact hn
theorem Im (hh:Ext h h') (T:TypeId) (v:SV) (lo hi:Option SV):Le (iY P T h v lo hi) (iY P T h' v lo hi):=by
 intro cs hcs
 cases v with
 |own i=>
  simp only[iY]at hcs⊢
  cases hl:look h i with
  |none=>rw[hl]at hcs;exact nomatch hcs
  |some B=>rw[hl]at hcs;rw[hh i B hl];exact hcs
 |sub i o n=>
  simp only[iY]at hcs⊢
  cases hl:look h i with
  |none=>rw[hl]at hcs;exact nomatch hcs
  |some B=>rw[hl]at hcs;rw[hh i B hl];exact hcs
 |r d x=>cases x<;>exact hcs
 |_=>exact hcs
theorem zx (hh:Ext h h') (T:TypeId) (v:SV) (k:Int):Le (bT P T h v k) (bT P T h' v k):=by
 intro cs hcs
 cases v with
 |own i=>
  simp only[bT]at hcs⊢
  cases hl:look h i with
  |none=>rw[hl]at hcs;exact nomatch hcs
  |some B=>rw[hl]at hcs;rw[hh i B hl];exact hcs
 |sub i o n=>
  simp only[bT]at hcs⊢
  cases hl:look h i with
  |none=>rw[hl]at hcs;exact nomatch hcs
  |some B=>rw[hl]at hcs;rw[hh i B hl];exact hcs
 |r d x=>cases x<;>exact hcs
 |_=>exact hcs
theorem Fl (hh:Ext h h') (t:Ty) (v:SV):Le (v.list h t) (v.list h' t):=by
 intro p hp
 cases v<;>try exact hp
 all_goals
  simp only[SV.list]at hp⊢;split at hp
  ·rename_i hl;rw[hh _ _ hl];exact hp
  ·exact nomatch hp
theorem PJ (hh:Ext h h') (T:TypeId) (x:SV):Le (slN P T h x) (slN P T h' x):=by
 intro n hn
 cases x with
 |own i=>
  simp only[slN]at hn⊢
  cases hl:look h i with
  |none=>rw[hl]at hn;exact nomatch hn
  |some B=>rw[hl]at hn;rw[hh i B hl];exact hn
 |r d x=>cases x<;>exact hn
 |_=>exact hn
theorem tV (hs:Ext s s') (hh:Ext h h') (op:Op):Le (gx P s h op) (gx P s' h' op):=by
 intro v hv;unfold gx at hv;split at hv<;>simp only[gx]
 ·exact c7 hs _ v hv
 ·exact c7 hs _ v hv
 ·revert hv;exact((c7 hs _).bind λc=>(Le.refl _).bind λb=>Le.cond (c7 hs _) (c7 hs _)) v
 ·revert hv
  split
  ·exact((Le.refl _).bind λ_=>(Le.refl _).bind λ_=>(o5 hs _).bind λ_=>Le.refl _) v
  ·exactλh=>nomatch h
 ·exact((c7 hs _).bind λa=>(Il hh a).bind λ_=>Le.refl _) v hv
 ·exact((c7 hs _).bind λa=>Le.refl _) v hv
 ·exact((c7 hs _).bind λa=>(c7 hs _).bind λ_=>Le.refl _) v hv
 ·exact((c7 hs _).bind λa=>Le.refl _) v hv
 ·exact((c7 hs _).bind λa=>Le.cond ((Fl hh _ _).bind λ_=>Le.refl _) (Le.refl _)) v hv
 ·exact((ja hs _).bind λa=>(ja hs _).bind λ_=>Le.refl _) v hv
 ·exact((c7 hs _).bind λa=>(Fk hs _).bind λ_=>(Fk hs _).bind λ_=>Im hh _ _ _ _) v hv
 ·exact((c7 hs _).bind λa=>(Fk hs _).bind λ_=>(c7 hs _).bind λ_=>(c7 hs _).bind λ_=>(PJ hh _ _).bind λ_=>Le.refl _) v hv
 ·exact((c7 hs _).bind λa=>Le.refl _) v hv
 ·exact((c7 hs _).bind λa=>Le.refl _) v hv
 ·exact((c7 hs _).bind λa=>(c7 hs _).bind λ_=>(Le.refl _).bind λ_=>zx hh _ _ _) v hv
 ·exact((c7 hs _).bind λa=>(c7 hs _).bind λ_=>Le.refl _) v hv
 ·exact((c7 hs _).bind λa=>Le.refl _) v hv
 ·refine((ja hs _).bind λvs=>?_) v hv;split
  ·exact Le.cond ((Ml hh _).bind λ_=>Le.refl _) (Le.refl _)
  ·exact Le.refl _
 ·exact((ja hs _).bind λa=>Le.refl _) v hv
 ·exact((ja hs _).bind λa=>Le.refl _) v hv
 ·exact((ja hs _).bind λa=>Le.refl _) v hv
 ·exact nomatch hv
theorem De (hh:Ext h h') (t:Ty) (v:SV):Le (v.asR h t) (v.asR h' t):=by
 cases t with
 |sl t=>exact(Fl hh t v).bind λ_=>Le.refl _
 |_=>exact Le.refl _
theorem Fm (hh:Ext h h'):(ts:List Ty)->(vs:List SV)->Le (JB h ts vs) (JB h' ts vs)
 |[],[]=>Le.refl _
 |t::ts,v::vs=>(De hh t v).bind λ_=>(Fm hh ts vs).bind λ_=>Le.refl _
 |[],_::_=>Le.refl _
 |_::_,[]=>Le.refl _
theorem N9 (hh:Ext h h') (t:Ty) (vs:List SV):Le (Qd h t vs) (Qd h' t vs):=(Fm hh _ _).bind λ_=>Le.refl _
theorem G5 (hh:Ext h h') (t:Ty):(n:Nat)->(c:List SV)->Le (Ie h t n c) (Ie h' t n c)
 |0,_=>Le.refl _
 |n+1,_=>(N9 hh t _).bind λ_=>(G5 hh t n _).bind λ_=>Le.refl _
theorem Bs (hh:Ext h h') (t:Ty) (v:SV):Le (v.JD h t) (v.JD h' t):=by
 intro p hp
 cases t with
 |sl t=>
  cases v with
  |own i=>
   simp only[SV.JD]at hp⊢
   cases hl:look h i with
   |none=>rw[hl]at hp;exact nomatch hp
   |some B=>rw[hl]at hp;rw[hh i B hl];exact hp
  |_=>exact hp
 |_=>exact hp
theorem G6 (hh:Ext h h'):(ts:List Ty)->(vs:List SV)->Le (Fc h ts vs) (Fc h' ts vs)
 |[],[]=>Le.refl _
 |t::ts,v::vs=>(Bs hh t v).bind λ_=>(G6 hh ts vs).bind λ_=>Le.refl _
 |[],_::_=>Le.refl _
 |_::_,[]=>Le.refl _
theorem lg (hh:Ext h h') (t:Ty):(n:Nat)->(c:List SV)->Le (iV h t n c) (iV h' t n c)
 |0,_=>Le.refl _
 |n+1,_=>(G6 hh _ _).bind λ_=>(Le.refl _).bind λ_=>(lg hh t n _).bind λ_=>Le.refl _
theorem Df (hh:Ext h h'):(c:List SV)->Le (C9 h c) (C9 h' c)
 |[]=>Le.refl _
 |v::l=>by
  have ih:=Df hh l
  cases v with
  |own i=>
   refine(N8 hh i).bind λb=>?_
   cases b with
   |box _=>exact Le.refl _
   |arr sh _ _=>cases sh with
    |none=>exact ih
    |some _=>exact Le.refl _
  |r d x=>cases x with
   |sl _ _=>exact Le.refl _
   |_=>exact ih
  |sub _ _ _=>exact Le.refl _
  |bsl _ _=>exact Le.refl _
  |_=>exact ih
theorem JZ (hh:Ext h h') (t:Ty) (n:Nat) (c:List SV):Le (GX h t n c) (GX h' t n c):=
 (Df hh c).bind λb=>Le.cond ((lg hh t n c).bind λ_=>Le.refl _) ((G5 hh t n c).bind λ_=>Le.refl _)
theorem zS (hh:Ext h h') (t:Ty) (v:SV):Le (ry h t v) (ry h' t v):=by
 have ind:∀(v:SV) (p:List Nat× List t.El),v.list h t=some p->oL h' v p.1=oL h v p.1:=λv p hp=>by
  cases v with
  |own i=>
   simp only[SV.list]at hp
   cases hl:look h i with
   |none=>rw[hl]at hp;exact nomatch hp
   |some B=>simp only[oL,hl,hh i B hl]
  |_=>rfl
 have lst:∀v:SV,Le ((v.list h t).bind λp=>cond (oZ t) (some (none,[],p.2)) (some (some (oL h v p.1),[],p.2)):Option (Option (List Nat)× List Nat× List t.El)) ((v.list h' t).bind λp=>cond (oZ t) (some (none,[],p.2)) (some (some (oL h' v p.1),[],p.2))):=λv q hq=>by
  rw[An]at hq⊢;obtain⟨p,hp,hq⟩:=hq;exact⟨p,Fl hh t v p hp,by rw[ind v p hp];exact hq⟩
 cases v with
 |bsl i n=>
  intro p hp;simp only[ry]at hp⊢
  cases hl:look h i with
  |none=>rw[hl]at hp;exact nomatch hp
  |some B=>
   rw[hl]at hp;rw[hh i B hl]
   cases B with
   |box cs=>exact((JZ hh t n cs).bind λ_=>Le.refl _) p hp
   |arr _ _ _=>exact nomatch hp
 |r d x=>exact lst (.r d x)
 |cr=>exact lst .cr
 |oW=>exact lst .oW
 |own i=>exact lst (.own i)
 |sub i o n=>exact lst (.sub i o n)
 |ptr i x o=>exact lst (.ptr i x o)
 |inn i x o=>exact lst (.inn i x o)
 |kh d x=>exact lst (.kh d x)
 |agg x=>exact lst (.agg x)
 |tup x=>exact lst (.tup x)
 |fn f a b=>exact lst (.fn f a b)
 |undef=>exact lst .undef
end
end
section
abbrev Cell:=Nat× Nat
def _root_.Go.World.at? (w:World) (p:Cell):Option Value:=w.cell? ⟨p.1,p.2,none⟩
def _root_.Go.World.eC (w:World) (p:Cell):Nat× Nat× Nat:=
 match w.heap[p.1]? with
 |some (.cells c _ fr)=>(fr.1,fr.2,c.size)
 |_=>(0,0,0)
def calm (r:Nat× Nat× Nat):Bool:=decide (r.1=r.2.1\/r.2.2<=r.1)
def whole (r:Nat× Nat× Nat) (o n:Nat):Bool:=calm r&&decide (o=0/\r.2.2=n)
theorem qb {r:Nat× Nat× Nat} {o n:Nat} (h:whole r o n=true):calm r=true:=by
 unfold whole at h;rw[QX]at h;exact h.1
theorem G7 {n:Nat}:whole (0,0,n) 0 n=true:=by simp[whole,calm]
theorem lh {w:World} {b o:Nat} {u:Value} (h:w.at? (b,o)=some u) (hc:calm (w.eC (b,o))=true):w.frozen? ⟨b,o,none⟩=false:=by
 unfold World.at? World.cell? at h;unfold calm World.eC at hc;unfold World.frozen?
 cases hb:w.heap[b]? with
 |none=>rfl
 |some ob=>
  cases ob with
  |cells c t fr=>
   simp only[hb,RW,Sj,if_false]at h;simp only[hb,decide_eq_true_eq]at hc;have:=(Rm.1 h).1;obtain⟨lo,hi⟩:=fr;simp only at hc⊢;rw[Bool.and_eq_false_iff,decide_eq_false_iff_not,decide_eq_false_iff_not]
   omega
  |_=>rfl
theorem Dg (w:World) (a:Addr) (v:Value) (p:Cell):(w.setCell a v).eC p=w.eC p:=by
 unfold World.eC World.setCell;simp only[Array.getElem?_modify];by_cases e:a.block=p.1
 ·rw[if_pos e]
  cases hb:w.heap[p.1]? with
  |none=>rfl
  |some ob=>
   cases ob with
   |cells c t fr=>simp only[Sc];split<;>simp
   |_=>rfl
 ·rw[if_neg e]
theorem fW (b:Nat):∀(vs:List Value) (o:Nat) (w:World) (p:Cell),(w.setCells b o vs).eC p=w.eC p
 |[],_,_,_=>rfl
 |v::vs,o,w,p=>(fW b vs (o+1) (w.setCell ⟨b,o,none⟩ v) p).trans (Dg w _ v p)
def one:Value->Bool
 |.agg _|.tuple _=>false
 |_=>true
class Tok where
 env:Nat->Value
 J0:∀n,one (env n)=true
 J1:env 0=.slice none 0 0
variable [Tok]
def reg (b o n:Nat) (p:Cell):Prop:=p.1=b/\o<=p.2/\p.2<o+n
def ax (t:Ty) (xs:List t.El) (i j:Nat) (r:R):Prop:=∃x,xs[i]? =some x/\(t.cells x)[j]? =some r
theorem aN {t:Ty} {xs:List t.El} {i j:Nat} {r:R} (h:ax t xs i j r):i<xs.length/\j<t.sz:=by
 obtain⟨x,hx,hr⟩:=h;refine⟨(Of.1 hx).1,?_⟩;have:=(Of.1 hr).1;rwa [Ty.cp]at this
theorem dy {t:Ty} {xs:List t.El} {i j:Nat} (hi:i<xs.length) (hj:j<t.sz):∃r,ax t xs i j r:=by
 refine⟨(t.cells xs[i])[j]'(by rw[Ty.cp];exact hj),xs[i],?_,?_⟩<;>simp
theorem o6 {i j n s c:Nat} (hi:i<n) (hj:j<s) (h:n<=c):i*s+j<c*s:=by
 have h1:(i+1)*s<=c*s:=Rg s (by omega);have:(i+1)*s=i*s+s:=Sd i s;omega
inductive jb (w:World) (ok:Cell->Prop):R->Value->Prop
 |int (k:IntKind) (n:Int):jb w ok (.int k n) (.int k n)
 |bool (b:Bool):jb w ok (.bool b) (.bool b)
 |str (l:List UInt8):jb w ok (.str l) (.string ⟨l.toArray⟩)
 |sl (t:Ty) (xs:List t.El) (a:Option Addr) (cap b o:Nat) (vs:Nat->Nat->Value)
   (il:xs.length<=cap) (ha:xs=[]\/a=some ⟨b,o,none⟩)
   (hc:∀i j r,ax t xs i j r->ok (b,o+(i*t.sz+j))/\w.at? (b,o+(i*t.sz+j))=some (vs i j))
   (hr:∀i j r,ax t xs i j r->jb w ok r (vs i j)):jb w ok (.sl t xs) (.slice a xs.length cap)
 |tok (n:Nat):jb w ok (.tok n) (Tok.env n)
 |lO (v:Value) (h:one v=true):jb w ok .lO v
theorem jb.frame {w w':World} {ok ok':Cell->Prop} {r:R} {v:Value} (h:jb w ok r v)
  (hf:∀p u,ok p->w.at? p=some u->ok' p/\w'.at? p=some u):jb w' ok' r v:=by
 induction h with
 |int=>exact .int _ _
 |bool=>exact .bool _
 |str=>exact .str _
 |tok=>exact .tok _
 |lO v h=>exact .lO v h
 |sl t xs a cap b o vs il ha hc _ ih=>
  exact .sl t xs a cap b o vs il ha (λi j r hr=>hf _ _ (hc i j r hr).1 (hc i j r hr).2) ih
structure Row (w:World) (inner:R->Value->(Cell->Prop)->Prop) (t:Ty) (xs:List t.El) (hdr:Value) (fp:Cell->Prop) where
 a:Option Addr
 cap:Nat
 b:Nat
 o:Nat
 vs:Nat->Nat->Value
 fs:Nat->Nat->Cell->Prop
 wU:hdr=.slice a xs.length cap
 il:xs.length<=cap
 ha:cap=0\/a=some ⟨b,o,none⟩
 ki:∀j,j<cap*t.sz->(∃v,w.at? (b,o+j)=some v)/\whole (w.eC (b,o+j)) o (cap*t.sz)=true
 hc:∀i j r,ax t xs i j r->w.at? (b,o+(i*t.sz+j))=some (vs i j)
 hr:∀i j r,ax t xs i j r->inner r (vs i j) (fs i j)
 hd1:∀i j r p,ax t xs i j r->fs i j p->¬reg b o (cap*t.sz) p
 hd2:∀i j r i' j' r' p,ax t xs i j r->ax t xs i' j' r'->fs i j p->fs i' j' p->i=i'/\j=j'
 hfp:∀p,fp p↔reg b o (cap*t.sz) p\/∃i j r,ax t xs i j r/\fs i j p
inductive fx (w:World):R->Value->(Cell->Prop)->Prop
 |int (k:IntKind) (n:Int):fx w (.int k n) (.int k n) (λ_=>False)
 |bool (b:Bool):fx w (.bool b) (.bool b) (λ_=>False)
 |str (l:List UInt8):fx w (.str l) (.string ⟨l.toArray⟩) (λ_=>False)
 |sl (t:Ty) (xs:List t.El) (a:Option Addr) (cap b o:Nat) (vs:Nat->Nat->Value) (fs:Nat->Nat->Cell->Prop) (fp:Cell->Prop)
   (il:xs.length<=cap) (ha:cap=0\/a=some ⟨b,o,none⟩)
   (ki:∀j,j<cap*t.sz->(∃v,w.at? (b,o+j)=some v)/\whole (w.eC (b,o+j)) o (cap*t.sz)=true)
   (hc:∀i j r,ax t xs i j r->w.at? (b,o+(i*t.sz+j))=some (vs i j))
   (hr:∀i j r,ax t xs i j r->fx w r (vs i j) (fs i j))
   (hd1:∀i j r p,ax t xs i j r->fs i j p->¬reg b o (cap*t.sz) p)
   (hd2:∀i j r i' j' r' p,ax t xs i j r->ax t xs i' j' r'->fs i j p->fs i' j' p->i=i'/\j=j')
   (hfp:∀p,fp p↔reg b o (cap*t.sz) p\/∃i j r,ax t xs i j r/\fs i j p):fx w (.sl t xs) (.slice a xs.length cap) fp
 |tok (n:Nat):fx w (.tok n) (Tok.env n) (λ_=>False)
 |lO (v:Value) (h:one v=true):fx w .lO v (λ_=>False)
theorem fx.row {w:World} {t:Ty} {xs:List t.El} {v:Value} {fp:Cell->Prop} (h:fx w (.sl t xs) v fp):Nonempty (Row w (fx w) t xs v fp):=by
 cases h with
 |sl t xs a cap b o vs fs fp il ha ki hc hr hd1 hd2 hfp=>exact⟨⟨a,cap,b,o,vs,fs,rfl,il,ha,ki,hc,hr,hd1,hd2,hfp⟩⟩
theorem Row.Qh {w:World} {t:Ty} {xs:List t.El} {v:Value} {fp:Cell->Prop} (h:Row w (fx w) t xs v fp):fx w (.sl t xs) v fp:=by
 obtain⟨a,cap,b,o,vs,fs,rfl,il,ha,ki,hc,hr,hd1,hd2,hfp⟩:=h;exact .sl t xs a cap b o vs fs fp il ha ki hc hr hd1 hd2 hfp
theorem fx.frame {w w':World} {r:R} {v:Value} {fp:Cell->Prop} (h:fx w r v fp)
  (hf:∀p u,fp p->w.at? p=some u->w'.at? p=some u/\w'.eC p=w.eC p):fx w' r v fp:=by
 induction h with
 |int=>exact .int _ _
 |bool=>exact .bool _
 |str=>exact .str _
 |tok=>exact .tok _
 |lO v h=>exact .lO v h
 |sl t xs a cap b o vs fs fp il ha ki hc _ hd1 hd2 hfp ih=>
  have hin:∀i j r,ax t xs i j r->fp (b,o+(i*t.sz+j)):=λi j r hr=>(hfp _).2 (.inl ⟨rfl,by simp,by
   have:=o6 (aN hr).1 (aN hr).2 il;simp;omega⟩)
  refine .sl t xs a cap b o vs fs fp il ha (λj hj=>?_) (λi j r hr=>(hf _ _ (hin i j r hr) (hc i j r hr)).1)
   (λi j r hr=>ih i j r hr λp u hp=>hf p u ((hfp p).2 (.inr ⟨i,j,r,hr,hp⟩))) hd1 hd2 hfp
  obtain⟨⟨v,hv⟩,hi⟩:=ki j hj;have:=hf (b,o+j) v ((hfp _).2 (.inl ⟨rfl,by simp,by simp;omega⟩)) hv;exact⟨⟨v,this.1⟩,by rw[this.2];exact hi⟩
theorem fx.L7 {w:World} {r:R} {v:Value} {fp:Cell->Prop} {ok:Cell->Prop} (h:fx w r v fp) (hok:∀p,fp p->ok p):jb w ok r v:=by
 induction h with
 |int=>exact .int _ _
 |bool=>exact .bool _
 |str=>exact .str _
 |tok=>exact .tok _
 |lO v h=>exact .lO v h
 |sl t xs a cap b o vs fs fp il ha ki hc _ hd1 hd2 hfp ih=>
  refine .sl t xs a cap b o vs il ?_ (λi j r hr=>⟨hok _ ((hfp _).2 (.inl ⟨rfl,by simp,by
   have:=o6 (aN hr).1 (aN hr).2 il;simp;omega⟩)),hc i j r hr⟩)
   (λi j r hr=>ih i j r hr λp hp=>hok p ((hfp p).2 (.inr ⟨i,j,r,hr,hp⟩)))
  rcases ha with rfl|h
  ·exact .inl (RK.1 (by omega))
  ·exact .inr h
theorem fx.there {w:World} {r:R} {v:Value} {fp:Cell->Prop} (h:fx w r v fp):∀p,fp p->∃u,w.at? p=some u:=by
 induction h with
 |int=>exactλ_ h=>h.elim
 |bool=>exactλ_ h=>h.elim
 |str=>exactλ_ h=>h.elim
 |tok=>exactλ_ h=>h.elim
 |lO=>exactλ_ h=>h.elim
 |sl t xs a cap b o vs fs fp il ha ki hc _ hd1 hd2 hfp ih=>
  intro p hp
  rcases(hfp p).1 hp with⟨h1,h2,h3⟩|⟨i,j,r,hr,hp⟩
  ·obtain⟨p1,p2⟩:=p;have h1:p1=b:=h1;simp only at h1 h2 h3;subst h1;have:=(ki (p2-o) (by omega)).1;rwa [show o+(p2-o)=p2 from by omega]at this
  ·exact ih i j r hr p hp
structure Pl where
 hdr:Nat->Value
 fp:Nat->Cell->Prop
 base:Cell->Prop
def Blk.kj:Blk->Bool
 |.box _=>true
 |.arr _ _ _=>false
def okd (H:aK) (pl:Pl) (d:List Nat) (p:Cell):Prop:=pl.base p/\∀i B,look H i=some B->(mem i d=true->B.kj=true)->¬pl.fp i p
inductive aq (w:World) (H:aK) (pl:Pl):SV->Value->Prop
 |r (d:List Nat) (x:R) (v:Value) (h:jb w (okd H pl d) x v):aq w H pl (.r d x) v
 |cr:aq w H pl .cr (.slice none 0 0)
 |oW:aq w H pl .oW (.pointer none)
 |own (i:Nat) (sh:Option (List Nat)) (t:Ty) (xs:List t.El) (h:look H i=some (.arr sh t xs)):aq w H pl (.own i) (pl.hdr i)
 |sub (i o n:Nat) (sh:Option (List Nat)) (t:Ty) (xs:List t.El) (a a':Option Addr) (cap cap':Nat) (h:look H i=some (.arr sh t xs))
   (hh:pl.hdr i=.slice a xs.length cap) (hn:o+n<=xs.length) (hc:n<=cap') (hc':o+cap'=cap) (ha:cap'=0\/a'=a.map (·.add (o*t.sz))):
   aq w H pl (.sub i o n) (.slice a' n cap')
 |bsl (i n:Nat) (cs:List SV) (a:Addr) (h:look H i=some (.box cs)) (hh:pl.hdr i=.pointer (some a)):aq w H pl (.bsl i n) (.slice (some a) n n)
 |tW (i o:Nat) (cs:List SV) (b k:Nat) (h:look H i=some (.box cs)) (hh:pl.hdr i=.pointer (some ⟨b,k,none⟩)):aq w H pl (.ptr i 0 o) (.pointer (some ⟨b,k+o,none⟩))
 |sf (i x o:Nat) (sh:Option (List Nat)) (t:Ty) (xs:List t.El) (b k n cap:Nat) (h:look H i=some (.arr sh t xs)) (hx:x<xs.length)
   (hh:pl.hdr i=.slice (some ⟨b,k,none⟩) n cap):aq w H pl (.ptr i x o) (.pointer (some ⟨b,k+(x*t.sz+o),none⟩))
 |inn (i x c:Nat) (sh:Option (List Nat)) (t:Ty) (xs:List t.El) (b k n cap:Nat) (v:Value) (h:look H i=some (.arr sh t xs)) (hx:x<xs.length) (hc:c<t.sz)
   (hh:pl.hdr i=.slice (some ⟨b,k,none⟩) n cap) (hok:okd H pl [i] (b,k+(x*t.sz+c))) (hv:w.at? (b,k+(x*t.sz+c))=some v) (h1:one v=true):aq w H pl (.inn i x c) v
 |kh (d:List Nat) (cs:List R) (b o:Nat) (vs:Nat->Value) (hc:∀j r,cs[j]? =some r->okd H pl d (b,o+j)/\w.at? (b,o+j)=some (vs j))
   (hr:∀j r,cs[j]? =some r->jb w (okd H pl d) r (vs j)):aq w H pl (.kh d cs) (.pointer (some ⟨b,o,none⟩))
 |agg (cs:List SV) (vs:Array Value) (hl:cs.length=vs.size) (h1:∀(j:Nat) (v:Value),vs[j]? =some v->one v=true) (h:∀(j:Nat) (x:SV) (v:Value),cs[j]? =some x->vs[j]? =some v->aq w H pl x v):aq w H pl (.agg cs) (.agg vs)
 |tup (cs:List SV) (vs:Array Value) (hl:cs.length=vs.size) (h:∀(j:Nat) (x:SV) (v:Value),cs[j]? =some x->vs[j]? =some v->aq w H pl x v):aq w H pl (.tup cs) (.tuple vs)
 |fn (f:Fn) (as bs:List SV) (us vs:Array Value) (hl:as.length=us.size) (h:∀(j:Nat) (x:SV) (v:Value),as[j]? =some x->us[j]? =some v->aq w H pl x v)
   (hl':bs.length=vs.size) (h':∀(j:Nat) (x:SV) (v:Value),bs[j]? =some x->vs[j]? =some v->aq w H pl x v):aq w H pl (.fn f as bs) (.func f us vs)
 |undef (v:Value):aq w H pl .undef v
def dX (w:World) (H:aK) (pl:Pl) (i:Nat):Blk->Prop
 |.box cs=>∃b o,pl.hdr i=.pointer (some ⟨b,o,none⟩)/\(∀p,pl.fp i p↔reg b o cs.length p)/\
   ∀j v,cs[j]? =some v->∃u,w.at? (b,o+j)=some u/\calm (w.eC (b,o+j))=true/\one u=true/\aq w H pl v u
 |.arr none t xs=>Nonempty (Row w (fx w) t xs (pl.hdr i) (pl.fp i))
 |.arr (some d) t xs=>Nonempty (Row w (λr v f=>jb w (okd H pl d) r v/\∀p,¬f p) t xs (pl.hdr i) (pl.fp i))
structure cN (H:aK) (pl:Pl) (w:World):Prop where
 blk:∀i B,look H i=some B->dX w H pl i B
 dis:∀i j B B' p,look H i=some B->look H j=some B'->pl.fp i p->pl.fp j p->i=j
 ob:∀i B p,look H i=some B->pl.fp i p->pl.base p
 nb:∀p,w.at? p=none->pl.base p
end
section
variable [Tok]
section lists
variable {α:Type}
theorem ay (k:Nat) (v:α) (l:List (Nat× α)) (n:Nat):look ((k,v)::l) n=if k=n then some v else look l n:=by
 simp only[look];cases h:Nat.beq k n
 ·have:¬k=n:=λe=>by subst e;simp at h
  simp[this]
 ·have:k=n:=QW h;simp[this]
theorem eI (l:List (Nat× α)) (n m:Nat) (v:α):look (put l n v) m=if n=m then some v else look l m:=by
 induction l with
 |nil=>rw[put,ay]
 |cons x l ih=>
  obtain⟨k,u⟩:=x;simp only[put];cases hk:Nat.beq k n
  ·simp only[cond_false,look,ih];cases hm:Nat.beq k m
   ·simp
   ·have h1:k=m:=QW hm;subst h1
    have:¬n=k:=λe=>by subst e;simp at hk
    simp[this]
  ·have h1:k=n:=QW hk;subst h1;simp only[cond_true,look];cases hm:Nat.beq k m
   ·have:¬k=m:=λe=>by subst e;simp at hm
    simp[this]
   ·have:k=m:=QW hm;simp[this]
theorem aG (l l':List (Nat× α)) (n:Nat):look (l++l') n=(look l n).or (look l' n):=by
 induction l with
 |nil=>simp[look]
 |cons x l ih=>
  obtain⟨k,u⟩:=x;simp only[Sl,look];cases Nat.beq k n<;>simp[ih]
theorem mem_iff (i:Nat) (l:List Nat):mem i l=true↔i∈l:=by
 induction l with
 |nil=>simp[mem]
 |cons k l ih=>
  simp only[mem];cases h:Nat.beq k i
  ·have:¬i=k:=λe=>by subst e;simp at h
   simp[ih,this]
  ·have:k=i:=QW h;simp[this]
theorem fy (T d:List Nat) (h:hit T d=false):∀i,mem i d=true->mem i T=false:=by
 induction d with
 |nil=>intro i hi;simp[mem]at hi
 |cons k l ih=>
  simp only[hit]at h;cases hk:mem k T
  ·rw[hk]at h;intro i hi;rw[mem_iff]at hi
   rcases Rk.1 hi with rfl|hi
   ·exact hk
   ·exact ih h i ((mem_iff i l).2 hi)
  ·rw[hk]at h;simp at h
theorem bp (n:Nat) (l:List Blk) (i:Nat):look (aO n l) i=if n<=i then l[i-n]? else none:=by
 induction l generalizing n with
 |nil=>simp[aO,look]
 |cons b l ih=>
  rw[aO,ay,ih];by_cases h:n=i
  ·subst h;simp
  ·by_cases h2:n<=i
   ·rw[if_neg h,if_pos (by omega),if_pos h2];rw[show i-n=(i-(n+1))+1 from by omega];rfl
   ·rw[if_neg h,if_neg (by omega),if_neg h2]
theorem Dh (u h:aK) (i:Nat):look (rj u h) i=match look u.reverse i with|some b=>some b|none=>look h i:=by
 induction u generalizing h with
 |nil=>simp[rj,look]
 |cons x l ih=>
  obtain⟨k,b⟩:=x;rw[rj,ih,List.reverse_cons,aG,eI,ay]
  cases look l.reverse i with
  |some c=>simp
  |none=>by_cases hk:k=i<;>simp[hk,look]
theorem Fo (T:Kil) (s:List (Nat× SV)) (t:Nat):look (GU T s) t=(look s t).map (SV.aP T):=by
 induction s with
 |nil=>rfl
 |cons x l ih=>
  obtain⟨k,v⟩:=x;rw[GU,ay,ay,ih];by_cases h:k=t<;>simp[h]
theorem wV (T:Kil) (h h':aK) (e:wO T h=some h') (i:Nat):
  look h' i=cond (mem i T.1) none ((look h i).bind (Blk.aP T))/\(∀b,look h i=some b->mem i T.1=false->∃b',b.aP T=some b'):=by
 induction h generalizing h' with
 |nil=>simp only[wO,It]at e;subst e;simp[look]
 |cons x l ih=>
  obtain⟨k,b⟩:=x;simp only[wO]at e;cases hk:mem k T.1
  ·simp only[hk,cond_false,An,It]at e;obtain⟨b',hb,l',hl,rfl⟩:=e;rw[ay,ay];by_cases hi:k=i
   ·subst hi;simp[hk,hb]
   ·simpa[hi]using ih l' hl
  ·simp only[hk,cond_true]at e;have:=ih h' e;rw[ay];by_cases hi:k=i
   ·subst hi;simp[hk]at this⊢;exact this
   ·simpa[hi]using this
theorem ek {α:Type} {l:List α} (h:isNil l=true):l=[]:=by cases l with|nil=>rfl|cons _ _=>exact nomatch h
theorem Fp {T:Kil} (h:T.2=[]) (h1:∀i,mem i T.1=true->mem i T.2=true):T=([],[]):=by
 obtain⟨a,b⟩:=T;simp only at h h1;subst h
 cases a with
 |nil=>rfl
 |cons x l=>have:=h1 x (by simp[mem]);exact nomatch this
theorem wW (i:Nat) (a b:List Nat):mem i (a++b)=(mem i a||mem i b):=by
 induction a with
 |nil=>simp[mem]
 |cons x l ih=>simp only[Sl,mem,ih];cases Nat.beq x i<;>simp
theorem CR.fO (c:CR):∀i,mem i c.kil.1=true->mem i c.kil.2=true:=λi h=>by
 show mem i (c.gone++c.lf)=true;rw[wW,show mem i c.gone=true from h];rfl
theorem mV (T:Kil) (l:List SV) (j:Nat):(ia T l)[j]? =(l[j]?).map (SV.aP T):=by
 induction l generalizing j with
 |nil=>rfl
 |cons v l ih=>cases j with
  |zero=>rfl
  |succ j=>simpa[ia]using ih j
theorem fX (T:Kil) (l:List SV):(ia T l).length=l.length:=by
 induction l with
 |nil=>rfl
 |cons v l ih=>simp[ia,ih]
end lists
def Blk.lR:Blk->Blk->Prop
 |.box a,.box b=>a.length=b.length
 |.arr _ t xs,.arr _ t' ys=>t.sz=t'.sz/\xs.length=ys.length
 |_,_=>False
theorem Blk.dm (b:Blk):b.lR b:=by cases b<;>simp[Blk.lR]
structure lj (T:Kil) (w:World) (H:aK) (pl:Pl) (w':World) (H':aK) (pl':Pl):Prop where
 k1:∀i B,look H i=some B->mem i T.1=false->∃B',look H' i=some B'/\B.lR B'/\pl'.hdr i=pl.hdr i
 k2:∀d p u,(∀i,mem i d=true->mem i T.2=false)->okd H pl d p->w.at? p=some u->okd H' pl' d p/\w'.at? p=some u
theorem aq.bR {T:Kil} {w w':World} {H H':aK} {pl pl':Pl} (hk:lj T w H pl w' H' pl') {v:SV} {u:Value} (h:aq w H pl v u):
  aq w' H' pl' (v.aP T) u:=by
 induction h with
 |r d x v h=>
  simp only[SV.aP];cases hd:hit T.2 d
  ·exact .r d x v (h.frame λp u hp hu=>hk.k2 d p u (fy T.2 d hd) hp hu)
  ·exact .undef _
 |cr=>exact .cr
 |oW=>exact .oW
 |own i sh t xs h=>
  simp only[SV.aP];cases hi:mem i T.1
  ·obtain⟨B',h1,h2,h3⟩:=hk.k1 i _ h hi
   cases B' with
   |box cs=>exact h2.elim
   |arr sh' t' ys=>rw[<-h3];exact .own i sh' t' ys h1
  ·exact .undef _
 |sub i o n sh t xs a a' cap cap' h hh hn hc hc' ha=>
  simp only[SV.aP];cases hi:mem i T.1
  ·obtain⟨B',h1,h2,h3⟩:=hk.k1 i _ h hi
   cases B' with
   |box cs=>exact h2.elim
   |arr sh' t' ys=>
    obtain⟨hz,hl⟩:=h2;exact .sub i o n sh' t' ys a a' cap cap' h1 (by rw[h3,hh,hl]) (hl▸hn) hc hc' (by rw[<-hz];exact ha)
  ·exact .undef _
 |bsl i n cs a h hh=>
  simp only[SV.aP];cases hi:mem i T.1
  ·obtain⟨B',h1,h2,h3⟩:=hk.k1 i _ h hi
   cases B' with
   |arr _ _ _=>exact h2.elim
   |box ds=>
    exact .bsl i n ds a h1 (h3.trans hh)
  ·exact .undef _
 |tW i o cs b k h hh=>
  simp only[SV.aP];cases hi:mem i T.1
  ·obtain⟨B',h1,h2,h3⟩:=hk.k1 i _ h hi
   cases B' with
   |arr _ _ _=>exact h2.elim
   |box ds=>exact .tW i o ds b k h1 (h3.trans hh)
  ·exact .undef _
 |sf i x o sh t xs b k n cap h hx hh=>
  simp only[SV.aP];cases hi:mem i T.1
  ·obtain⟨B',h1,h2,h3⟩:=hk.k1 i _ h hi
   cases B' with
   |box cs=>exact h2.elim
   |arr sh' t' ys=>
    obtain⟨hz,hl⟩:=h2;rw[hz];exact .sf i x o sh' t' ys b k n cap h1 (hl▸hx) (h3.trans hh)
  ·exact .undef _
 |inn i x c sh t xs b k n cap v h hx hc hh hok hv h1=>
  simp only[SV.aP];cases hi:(mem i T.1||mem i T.2)
  ·rw[Bool.or_eq_false_iff]at hi;obtain⟨B',g1,g2,g3⟩:=hk.k1 i _ h hi.1
   have g4:=hk.k2 [i] _ v (λj hj=>by
    simp only[mem]at hj;cases hb:Nat.beq i j<;>simp only[hb,cond_true,cond_false]at hj
    ·exact nomatch hj
    ·rw[<-QW hb];exact hi.2) hok hv
   cases B' with
   |box cs=>exact g2.elim
   |arr sh' t' ys=>
    obtain⟨hz,hl⟩:=g2;rw[hz]at g4 hc;exact .inn i x c sh' t' ys b k n cap v g1 (hl▸hx) hc (g3.trans hh) g4.1 g4.2 h1
  ·exact .undef _
 |kh d cs b o vs hc hr=>
  simp only[SV.aP];cases hd:hit T.2 d
  ·exact .kh d cs b o vs (λj r hj=>hk.k2 d _ _ (fy T.2 d hd) (hc j r hj).1 (hc j r hj).2)
    λj r hj=>(hr j r hj).frame λp u hp hu=>hk.k2 d p u (fy T.2 d hd) hp hu
  ·exact .undef _
 |agg cs vs hl h1 h ih=>
  refine .agg _ vs (by rw[fX,hl]) h1 λj x v hx hv=>?_;rw[mV]at hx;obtain⟨y,hy,rfl⟩:=Q2.1 hx
  exact ih j y v hy hv
 |tup cs vs hl h ih=>
  refine .tup _ vs (by rw[fX,hl]) λj x v hx hv=>?_;rw[mV]at hx;obtain⟨y,hy,rfl⟩:=Q2.1 hx
  exact ih j y v hy hv
 |fn f as bs us vs hl h hl' h' ih ih'=>
  refine .fn f _ _ us vs (by rw[fX,hl]) (λj x v hx hv=>?_) (by rw[fX,hl']) λj x v hx hv=>?_
  ·rw[mV]at hx;obtain⟨y,hy,rfl⟩:=Q2.1 hx;exact ih j y v hy hv
  ·rw[mV]at hx;obtain⟨y,hy,rfl⟩:=Q2.1 hx
   exact ih' j y v hy hv
 |undef v=>exact .undef _
theorem Bt (d:List Nat):hit [] d=false:=by
 induction d with
 |nil=>rfl
 |cons k l ih=>simpa[hit,mem]using ih
mutual
theorem dn:(v:SV)->v.aP ([],[])=v
 |.r d x=>by simp[SV.aP,Bt]
 |.own j=>by simp[SV.aP,mem]
 |.sub j o n=>by simp[SV.aP,mem]
 |.bsl j n=>by simp[SV.aP,mem]
 |.ptr j x o=>by simp[SV.aP,mem]
 |.inn j x c=>by simp[SV.aP,mem]
 |.kh d cs=>by simp[SV.aP,Bt]
 |.agg cs=>by simp[SV.aP,jc cs]
 |.tup cs=>by simp[SV.aP,jc cs]
 |.fn f a b=>by simp[SV.aP,jc a,jc b]
 |.cr=>by simp[SV.aP]
 |.oW=>by simp[SV.aP]
 |.undef=>by simp[SV.aP]
theorem jc:(l:List SV)->ia ([],[]) l=l
 |[]=>rfl
 |v::l=>by simp[ia,dn v,jc l]
end
theorem aq.vM {w w':World} {H H':aK} {pl pl':Pl} (hk:lj ([],[]) w H pl w' H' pl') {v:SV} {u:Value} (h:aq w H pl v u):
  aq w' H' pl' v u:=by have:=h.bR hk;rwa [dn]at this
end
section
variable [Tok]
section
variable {w:World} {H:aK} {pl:Pl}
theorem jb.scalar {ok:Cell->Prop} {x:R} {v:Value} (h:jb w ok x v) (ok':Cell->Prop) (hs:∀t xs,x≠.sl t xs):jb w ok' x v:=by
 cases h with
 |int=>exact .int _ _
 |bool=>exact .bool _
 |str=>exact .str _
 |tok=>exact .tok _
 |lO v h=>exact .lO v h
 |sl t xs=>exact(hs t xs rfl).elim
theorem wX {d:List Nat} {x:R} {v:Value} (h:jb w (okd H pl d) x v):aq w H pl (mkR d x) v:=by
 cases x with
 |sl t xs=>exact .r _ _ _ h
 |_=>exact .r _ _ _ (h.scalar _ (λ_ _ e=>nomatch e))
theorem jb.ra {ok:Cell->Prop} {x:R} {v:Value} (h:jb w ok x v):one v=true:=by cases h<;>first|rfl|exact Tok.J0 _|assumption
def gy (w:World) (H:aK) (pl:Pl) (s:List (Nat× SV)) (a:Act):Prop:=∀t v,look s t=some v->aq w H pl v (a.tmps.getD t undef)
theorem wY {v:Value} {x:SV} (h:tR v=some x):aq w H pl x v:=by
 unfold tR at h
 split at h<;>first|(cases h)|skip
 ·exact .r _ _ _ (.bool _)
 ·exact .r _ _ _ (.int _ _)
 ·exact .r _ _ _ (.str _)
 ·exact .cr
 ·exact .oW
theorem zT:∀{vs:List Value} {l:List SV},zP vs=some l->l.length=vs.length/\∀(j:Nat) (x:SV) (v:Value),l[j]? =some x->vs[j]? =some v->aq w H pl x v
 |[],l,h=>by cases h;exact⟨rfl,λj x v hx _=>by simp at hx⟩
 |v::vs,l,h=>by
  simp only[zP,An,It]at h;obtain⟨x,hx,xs,hxs,rfl⟩:=h;obtain⟨h1,h2⟩:=zT hxs;refine⟨by simp[h1],λj y u hy hu=>?_⟩
  cases j with
  |zero=>simp at hy hu;subst hy hu;exact wY hx
  |succ j=>exact h2 j y u (by simpa using hy) (by simpa using hu)
theorem Fq {v:Value} {x:SV} (h:tR v=some x):one v=true:=by
 unfold tR at h
 split at h<;>first|rfl|(cases h)
theorem zU:∀{vs:List Value} {l:List SV},zP vs=some l->∀(j:Nat) (v:Value),vs[j]? =some v->one v=true
 |[],l,_,j,v,hv=>by simp at hv
 |u::vs,l,h,j,v,hv=>by
  simp only[zP,An,It]at h;obtain⟨x,hx,xs,hxs,rfl⟩:=h
  cases j with
  |zero=>simp at hv;subst hv;exact Fq hx
  |succ j=>exact zU hxs j v (by simpa using hv)
theorem tX {v:Value} {x:SV} (h:GV v=some x):aq w H pl x v:=by
 unfold GV at h;split at h
 ·simp only[An,It]at h;obtain⟨l,hl,rfl⟩:=h;obtain⟨h1,h2⟩:=zT (w:=w) (H:=H) (pl:=pl) hl;refine .agg _ _ (by simpa using h1) (λj v hv=>?_) λj x v hx hv=>h2 j x v hx (by simpa using hv);exact zU hl j v (by simpa using hv)
 ·exact wY h
theorem aT {s:List (Nat× SV)} {a:Act} (hs:gy w H pl s a) {o:Operand} {x:SV} (h:opd s o=some x):aq w H pl x (a.eval o):=by
 cases o with
 |tmp t=>exact hs t x h
 |const v=>exact tX h
 |func f=>
  simp only[opd,It]at h;subst h
  exact .fn _ _ _ _ _ rfl (λj x v hx _=>by simp at hx) rfl (λj x v hx _=>by simp at hx)
 |global g=>exact nomatch h
theorem dM {P:Program} {T:TypeId} {i:TypeInfo} (h:P.info? T=some i) (w:World):(sizeOf T).run P w=.ok i.size w:=by
 simp[sizeOf,typeInfo,h]
theorem cJ {P:Program} {T:TypeId} {d:TypeDesc} (h:P.underlying T=some d) (w:World):(underlying T).run P w=.ok d w:=by
 simp[underlying,h]
theorem kX {P:Program} {T:TypeId} {d:TypeDesc} (h:P.underlying T=some d) (w:World):(isAgg T).run P w=.ok (wP P T) w:=by
 simp only[isAgg,Sem.run_bind,cJ h,Result.andThen_ok,wP,h];cases d<;>rfl
theorem wZ (hr:cN H pl w) {p:SV} {u:Value} (hp:aq w H pl p u) {cs:List SV} (h:ld H p=some cs):
  ∃b o,u=.pointer (some ⟨b,o,none⟩)/\∀(j:Nat) (x:SV),cs[j]? =some x->∃y,w.at? (b,o+j)=some y/\one y=true/\aq w H pl x y:=by
 cases hp with
 |kh d cs' b o vs hc hr'=>
  simp only[ld,It]at h;subst h;refine⟨b,o,rfl,λj x hx=>?_⟩;rw[RD]at hx;obtain⟨r,hj,rfl⟩:=Q2.1 hx
  exact⟨vs j,(hc j r hj).2,(hr' j r hj).ra,wX (hr' j r hj)⟩
 |tW i o cs' b k hl hh=>
  simp only[ld,hl,It]at h;subst h;obtain⟨b',o',e,_,hc⟩:=hr.blk i _ hl;rw[hh]at e;cases e;refine⟨b,k+o,rfl,λj x hx=>?_⟩;rw[Rc]at hx;obtain⟨y,h1,_,h3,h4⟩:=hc _ _ hx
  exact⟨y,by rw[RV];exact h1,h3,h4⟩
 |sf i x o sh t xs b k n cap hl hx hh=>
  simp only[ld,hl,An,It]at h;obtain⟨e,he,rfl⟩:=h;have hb:=hr.blk i _ hl;refine⟨b,k+(x*t.sz+o),rfl,λj y hy=>?_⟩;rw[Rc,RD]at hy;obtain⟨r,hj,rfl⟩:=Q2.1 hy;have hcell:ax t xs x (o+j) r:=⟨e,he,hj⟩
  cases sh with
  |none=>
   obtain⟨R⟩:=hb;obtain⟨a',cap',b',o',vs,fs,h1,h2,h3,h4,h5,h6,h7,h8,h9⟩:=R;rw[hh]at h1;cases h1
   have hne:cap≠0:=by omega
   have h3:=h3.resolve_left hne;cases h3;refine⟨vs x (o+j),by rw[show k+(x*t.sz+o)+j=k+(x*t.sz+(o+j))from by omega];exact h5 _ _ _ hcell,?_,?_⟩
   ·exact((h6 _ _ _ hcell).L7 (ok:=λ_=>True) (λ_ _=>trivial)).ra
   ·refine wX ((h6 _ _ _ hcell).L7 λp hp=>⟨hr.ob i _ p hl ((h9 p).2 (.inr ⟨_,_,_,hcell,hp⟩)),λi' B hB hm hf=>?_⟩);have hp':pl.fp i p:=(h9 p).2 (.inr ⟨_,_,_,hcell,hp⟩);have:=hr.dis i' i _ _ p hB hl hf hp';subst this;have hbx:=hm (by simp[JO,mem]);rw[hl]at hB;cases hB
    simp[Blk.kj]at hbx
  |some d=>
   obtain⟨R⟩:=hb;obtain⟨a',cap',b',o',vs,fs,h1,h2,h3,h4,h5,h6,h7,h8,h9⟩:=R;rw[hh]at h1;cases h1
   have hne:cap≠0:=by omega
   have h3:=h3.resolve_left hne;cases h3
   exact⟨vs x (o+j),by rw[show k+(x*t.sz+o)+j=k+(x*t.sz+(o+j))from by omega];exact h5 _ _ _ hcell,(h6 _ _ _ hcell).1.ra,wX (h6 _ _ _ hcell).1⟩
 |_=>exact nomatch h
theorem zV {α:Type} {n:Nat} {l m:List α} (h:takeN n l=some m):m.length=n/\∀j,j<n->m[j]? =l[j]? :=by
 unfold takeN at h;cases hn:Nat.ble n l.length
 ·simp[hn]at h
 ·simp only[hn,cond_true,It]at h;subst h;have:=Rb hn;exact⟨by simp[this],λj hj=>by simp[hj]⟩
theorem Bu {P:Program} {T:TypeId} {cs:List SV} {v:SV} (h:iu P T cs=some v) (b o:Nat)
  (hc:∀(j:Nat) (x:SV),cs[j]? =some x->∃y,w.at? (b,o+j)=some y/\one y=true/\aq w H pl x y):
  ∃u,(loadVar T ⟨b,o,none⟩).run P w=.ok u w/\aq w H pl v u:=by
 simp only[iu,An]at h;obtain⟨d,hd,i,hi,l,hl,h⟩:=h;obtain⟨h1,h2⟩:=zV hl
 have hy:∀j,j<i.size->∃y x,l[j]? =some x/\w.at? (b,o+j)=some y/\aq w H pl x y:=λj hj=>by
  have hx:l[j]? =some (l[j]'(by omega)):=On (by omega);obtain⟨y,h3,_,h5⟩:=hc j _ ((h2 j hj)▸hx);exact⟨y,_,hx,h3,h5⟩
 cases ha:wP P T
 ·simp only[ha,cond_false]at h
  match l,h1,hl,h,hy,h2 with
  |[x],h1,hl,h,hy,h2=>
   simp only[It]at h;subst h;have h1:i.size=1:=h1.symm;obtain⟨y,x',h3,h4,h5⟩:=hy 0 (by omega);simp at h3;subst h3;refine⟨y,?_,h5⟩;have h4:w.cell? ⟨b,o,none⟩=some y:=h4;simp[loadVar,kX hd,ha,h4]
 ·simp only[ha,cond_true,It]at h;subst h
  let f:Nat->Value:=λj=>(w.at? (b,o+j)).getD undef
  have hf:∀j,j<i.size->w.cell? (Addr.add ⟨b,o,none⟩ j)=some (f j):=λj hj=>by
   obtain⟨y,x,_,h4,_⟩:=hy j hj
   have e:Addr.add ⟨b,o,none⟩ j=⟨b,o+j,none⟩:=by
    unfold Addr.add;split
    ·rename_i h0;subst h0;rfl
    ·rfl
   rw[e];show w.at? (b,o+j)=some (f j);simp only[f,h4];rfl
  have hone:∀j,j<i.size->one (f j)=true:=λj hj=>by
   have hx:l[j]? =some (l[j]'(by omega)):=On (by omega);obtain⟨y,h3,h4,_⟩:=hc j _ ((h2 j hj)▸hx);simp only[f,h3];exact h4
  refine⟨.agg ((List.range i.size).map f).toArray,?_,?_⟩
  ·simp[loadVar,kX hd,ha,dM hi,run_loadCells (P:=P) w ⟨b,o,none⟩ i.size f hf]
  ·refine .agg _ _ (by simp[h1]) (λj v hv=>by
    by_cases hj:j<i.size
    ·have:v=f j:=by simp[hj]at hv;exact hv.symm
     rw[this];exact hone j hj
    ·simp[hj]at hv) λj x v hx hv=>?_
   have hj:j<i.size:=by have:=(Of.1 hx).1;omega
   obtain⟨y,x',h3,h4,h5⟩:=hy j hj;rw[h3]at hx;cases hx
   have:v=f j:=by simp[hj]at hv;exact hv.symm
   subst this;simp only[f,h4];exact h5
end
end
end Go.Proofs.Ev
