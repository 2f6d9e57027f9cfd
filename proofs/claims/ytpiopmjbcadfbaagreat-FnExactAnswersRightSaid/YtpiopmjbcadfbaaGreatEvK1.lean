/- The evaluator over the model's code, and that it is sound: part 1. -/
import Derived.Calls
import Derived.Laws.IdiomCopy
import Derived.Laws.Cells
import Derived.Laws.Sem
set_option linter.unusedVariables false
set_option linter.unusedSimpArgs false
set_option linter.unusedSectionVars false
namespace Go.Proofs.Ev
theorem An:type_of% @Option.bind_eq_some_iff:=@Option.bind_eq_some_iff
theorem It:type_of% @Option.some.injEq:=@Option.some.injEq
theorem Of:type_of% @List.getElem?_eq_some_iff:=@List.getElem?_eq_some_iff
theorem On:type_of% @List.getElem?_eq_getElem:=@List.getElem?_eq_getElem
theorem Rj:type_of% @Nat.eq_of_beq_eq_true:=@Nat.eq_of_beq_eq_true
theorem Rk:type_of% @Bool.and_eq_true:=@Bool.and_eq_true
theorem Rm:type_of% @Int.toNat_natCast:=@Int.toNat_natCast
theorem Rn:type_of% @List.getElem?_append_right:=@List.getElem?_append_right
theorem Ro:type_of% @List.getElem?_append_left:=@List.getElem?_append_left
theorem Rp:type_of% @List.getElem_mem:=@List.getElem_mem
theorem Rq:type_of% @Bool.not_true:=@Bool.not_true
theorem Rr:type_of% @Option.elim_some:=@Option.elim_some
theorem Rs:type_of% @Bool.true_and:=@Bool.true_and
theorem Rt:type_of% @Option.map_eq_some_iff:=@Option.map_eq_some_iff
theorem Ru:type_of% @Nat.zero_add:=@Nat.zero_add
theorem Rv:type_of% @Option.bind_some:=@Option.bind_some
theorem Rw:type_of% @List.length_cons:=@List.length_cons
theorem Rx:type_of% @Array.getElem?_eq_getElem:=@Array.getElem?_eq_getElem
theorem Ry:type_of% @Nat.le_of_ble_eq_true:=@Nat.le_of_ble_eq_true
theorem Rz:type_of% @List.length_append:=@List.length_append
theorem RA:type_of% @List.getElem?_drop:=@List.getElem?_drop
theorem RB:type_of% @List.mem_of_getElem?:=@List.mem_of_getElem?
theorem RC:type_of% @Array.getD_eq_getD_getElem?:=@Array.getD_eq_getD_getElem?
theorem RD:type_of% @Nat.mul_le_mul_right:=@Nat.mul_le_mul_right
theorem RE:type_of% @Nat.le_refl:=@Nat.le_refl
theorem RF:type_of% @List.mem_cons_of_mem:=@List.mem_cons_of_mem
theorem RG:type_of% @Prod.mk.injEq:=@Prod.mk.injEq
theorem RH:type_of% @List.append_assoc:=@List.append_assoc
theorem RI:type_of% @List.mem_cons:=@List.mem_cons
theorem RJ:type_of% @List.getElem?_eq_none:=@List.getElem?_eq_none
theorem RK:type_of% @Array.getElem?_eq_some_iff:=@Array.getElem?_eq_some_iff
theorem RL:type_of% @Bool.not_false:=@Bool.not_false
theorem RM:type_of% @Nat.add_mul:=@Nat.add_mul
theorem RN:type_of% @List.mem_cons_self:=@List.mem_cons_self
theorem RO:type_of% @List.getD_eq_getElem?_getD:=@List.getD_eq_getElem?_getD
theorem RP:type_of% @Option.bind_assoc:=@Option.bind_assoc
theorem RQ:type_of% @Nat.add_sub_cancel_left:=@Nat.add_sub_cancel_left
theorem RR:type_of% @List.mem_iff_getElem:=@List.mem_iff_getElem
theorem RS:type_of% @Nat.add_zero:=@Nat.add_zero
theorem RU:type_of% @List.append_nil:=@List.append_nil
theorem RV:type_of% @Nat.mul_comm:=@Nat.mul_comm
theorem RW:type_of% @List.getElem?_take:=@List.getElem?_take
theorem RX:type_of% @Nat.zero_le:=@Nat.zero_le
theorem RY:type_of% @List.length_nil:=@List.length_nil
theorem RZ:type_of% @List.map_cons:=@List.map_cons
theorem R2:type_of% @List.length_take:=@List.length_take
theorem R3:type_of% @List.getElem?_map:=@List.getElem?_map
theorem R4:type_of% @Nat.mod_eq_of_lt:=@Nat.mod_eq_of_lt
theorem R5:type_of% @Nat.sub_zero:=@Nat.sub_zero
theorem R6:type_of% @List.length_set:=@List.length_set
theorem R7:type_of% @Nat.mul_le_mul:=@Nat.mul_le_mul
theorem R8:type_of% @Bool.false_and:=@Bool.false_and
theorem R9:type_of% @Option.bind_none:=@Option.bind_none
theorem Sa:type_of% @List.take_length:=@List.take_length
theorem Sb:type_of% @List.mem_append:=@List.mem_append
theorem Sc:type_of% @List.foldl_append:=@List.foldl_append
theorem Sd:type_of% @List.mem_filter:=@List.mem_filter
theorem Se:type_of% @Array.getElem?_toList:=@Array.getElem?_toList
theorem Sf:type_of% @List.length_eq_zero_iff:=@List.length_eq_zero_iff
theorem Sg:type_of% @List.cons.injEq:=@List.cons.injEq
theorem Si:type_of% @List.getElem?_of_mem:=@List.getElem?_of_mem
theorem Sj:type_of% @List.getElem?_set_self:=@List.getElem?_set_self
theorem Sl:type_of% @Bool.and_eq_true_iff:=@Bool.and_eq_true_iff
theorem Sm:type_of% @List.foldl_cons:=@List.foldl_cons
theorem Sn:type_of% @Array.getElem?_append_left:=@Array.getElem?_append_left
theorem So:type_of% @Int.tdiv_eq_ediv_of_nonneg:=@Int.tdiv_eq_ediv_of_nonneg
theorem Sp:type_of% @Nat.add_assoc:=@Nat.add_assoc
theorem Sq:type_of% @Option.isSome_none:=@Option.isSome_none
theorem Sr:type_of% @Option.or_none:=@Option.or_none
theorem Ss:type_of% @Nat.mul_add_mod:=@Nat.mul_add_mod
theorem Su:type_of% @List.nodup_cons:=@List.nodup_cons
theorem Sv:type_of% @List.map_append:=@List.map_append
theorem Sw:type_of% @Int.natCast_mul:=@Int.natCast_mul
theorem Sx:type_of% @List.findIdx?_eq_some_iff_getElem:=@List.findIdx?_eq_some_iff_getElem
theorem Sy:type_of% @List.length_drop:=@List.length_drop
theorem SA:type_of% @Nat.div_eq_of_lt:=@Nat.div_eq_of_lt
theorem SB:type_of% @List.all_eq_true:=@List.all_eq_true
theorem SC:type_of% @List.filter_eq_self:=@List.filter_eq_self
theorem SD:type_of% @List.take_append_of_le_length:=@List.take_append_of_le_length
theorem SE:type_of% @List.take_append_drop:=@List.take_append_drop
theorem SF:type_of% @Nat.ble_eq_true_of_le:=@Nat.ble_eq_true_of_le
theorem SG:type_of% @Option.map_some:=@Option.map_some
theorem SI:type_of% @Nat.succ_mul:=@Nat.succ_mul
theorem SJ:type_of% @Nat.le_trans:=@Nat.le_trans
theorem SK:type_of% @Option.some.inj:=@Option.some.inj
theorem SL:type_of% @List.nil_append:=@List.nil_append
theorem SM:type_of% @Bool.false_eq_true:=@Bool.false_eq_true
theorem SN:type_of% @List.mem_singleton:=@List.mem_singleton
theorem SP:type_of% @List.cons_append:=@List.cons_append
theorem SQ:type_of% @Option.getD_some:=@Option.getD_some
theorem SR:type_of% @List.getElem?_set_ne:=@List.getElem?_set_ne
theorem SS:type_of% @List.take_of_length_le:=@List.take_of_length_le
theorem SU:type_of% @Nat.mul_add_div:=@Nat.mul_add_div
theorem SW:type_of% @List.range_succ:=@List.range_succ
theorem SX:type_of% @List.findIdx?_eq_none_iff:=@List.findIdx?_eq_none_iff
theorem SY:type_of% @List.filter_cons:=@List.filter_cons
theorem SZ:type_of% @Bool.or_true:=@Bool.or_true
theorem S0:type_of% @List.map_nil:=@List.map_nil
theorem S1:type_of% @List.sum_cons:=@List.sum_cons
theorem S2:type_of% @List.getElem?_cons_succ:=@List.getElem?_cons_succ
theorem S3:type_of% @List.any_eq_not_all_not:=@List.any_eq_not_all_not
theorem S4:type_of% @Array.ext':=@Array.ext'
theorem S5:type_of% @Array.getElem?_append_right:=@Array.getElem?_append_right
theorem S6:type_of% @Option.elim_none:=@Option.elim_none
theorem S7:type_of% @Array.append_assoc:=@Array.append_assoc
theorem S8:type_of% @List.filter_append:=@List.filter_append
theorem S9:type_of% @Option.isSome_some:=@Option.isSome_some
theorem Ta:type_of% @List.length_replicate:=@List.length_replicate
theorem Tb:type_of% @List.length_filter_le:=@List.length_filter_le
theorem Tc:type_of% @Bool.or_eq_true:=@Bool.or_eq_true
theorem Td:type_of% @List.sum_append:=@List.sum_append
theorem Te:type_of% @List.getElem?_cons_zero:=@List.getElem?_cons_zero
theorem Tf:type_of% @List.drop_length:=@List.drop_length
theorem Tg:type_of% @Int.mul_nonneg:=@Int.mul_nonneg
theorem Th:type_of% @Array.getElem?_eq_none:=@Array.getElem?_eq_none
theorem Ti:type_of% @Nat.div_add_mod:=@Nat.div_add_mod
theorem Tj:type_of% @Nat.div_lt_iff_lt_mul:=@Nat.div_lt_iff_lt_mul
theorem Tk:type_of% @Bool.not_eq_true':=@Bool.not_eq_true'
theorem Tl:type_of% @Nat.lt_trichotomy:=@Nat.lt_trichotomy
theorem Tn:type_of% @Bool.and_false:=@Bool.and_false
theorem To:type_of% @List.mem_of_mem_take:=@List.mem_of_mem_take
theorem Tp:type_of% @List.mem_map:=@List.mem_map
theorem Tq:type_of% @List.mem_flatMap:=@List.mem_flatMap
theorem Tw:type_of% @List.flatMap_append:=@List.flatMap_append
theorem Tz:type_of% @Bool.and_true:=@Bool.and_true
theorem TA:type_of% @Bool.eq_iff_iff:=@Bool.eq_iff_iff
theorem TB:type_of% @Nat.min_eq_left:=@Nat.min_eq_left
theorem TC:type_of% @List.mem_replicate:=@List.mem_replicate
theorem TD:type_of% @List.findIdx?_cons:=@List.findIdx?_cons
theorem TE:type_of% @List.pairwise_cons:=@List.pairwise_cons
theorem TG:type_of% @List.drop_zero:=@List.drop_zero
theorem TH:type_of% @Nat.zero_mul:=@Nat.zero_mul
theorem TJ:type_of% @Bool.not_not:=@Bool.not_not
theorem TK:type_of% @Nat.le_of_lt:=@Nat.le_of_lt
theorem TL:type_of% @List.map_id':=@List.map_id'
theorem TR:type_of% @Nat.mod_lt:=@Nat.mod_lt
theorem TU:type_of% @Bool.false_or:=@Bool.false_or
theorem TV:type_of% @List.all_cons:=@List.all_cons
theorem TW:type_of% @Int.mul_assoc:=@Int.mul_assoc
theorem Ud:type_of% @Iff.rfl:=@Iff.rfl
section
structure Shape where
 h:Int
 w:Int
 c:Int
 deriving DecidableEq
structure ak where
 sh:Shape
 data:List Int
 deriving DecidableEq
structure ay where
 kind:Int
 out:Int
 size:Int
 step:Int
 mult:Int
 shift:Int
 zero:Int
 weights:List Int
 m8:List Int
 deriving DecidableEq
structure Model where
 inp:Shape
 ar:List ay
 deriving DecidableEq
structure Job where
 model:Model
 at_:Int
 act:ak
 iU:Int
 deriving DecidableEq
structure Task where
 id:Int
 av:List Int
 at_:Int
 due:Int
 born:Int
 deriving DecidableEq
structure aj where
 now:Int
 ai:Int
 age:Int
 tasks:List Task
 run:Int
 left:Int
 turns:Int
 next:Int
 deriving DecidableEq
structure Request where
 id:Int
 model:Int
 job:Job
 due:Int
 deriving DecidableEq
structure Runtime where
 sched:aj
 al:List Model
 ax:List Bool
 ae:List Request
 deriving DecidableEq
structure Step where
 kind:Int
 a:Int
 b:Int
 data:List Int
 input:ak
 deriving DecidableEq
structure Event where
 kind:Int
 a:Int
 b:Int
 out:ak
 deriving DecidableEq
structure Entry where
 id:Int
 model:Model
 input:ak
 at_:Int
 due:Int
 end_:Int
 done:Bool
 deriving DecidableEq
structure Oh where
 id:Int
 model:Int
 due:Int
 deriving DecidableEq
structure dE where
 id:Int
 av:Nat
 at_:Int
 due:Int
 born:Int
 deriving DecidableEq
structure sC where
 id:Int
 model:Int
 mh:Int
 mw:Int
 mc:Int
 ar:Nat
 jat:Int
 ah:Int
 aw:Int
 ac:Int
 data:Nat
 iU:Int
 due:Int
 deriving DecidableEq
structure Reader where
 b:List Int
 at_:Int
 bad:Bool
 deriving DecidableEq
inductive S where
 |shape|cG|aK|model|task|request|step|event|entry|Mn|cY|iu
 deriving DecidableEq
inductive Ty where
 |int (k:IntKind)|bool|str|sl (t:Ty)|st (s:S)|tok
 |ho (s:S)|hl (t:Ty)
 deriving DecidableEq
def S.E:S->Type
 |.shape=>Shape|.cG=>ak|.aK=>ay|.model=>Model|.task=>Task|.request=>Request
 |.step=>Step|.event=>Event|.entry=>Entry|.Mn=>Oh|.cY=>dE|.iu=>sC
def Ty.El:Ty->Type
 |.int _=>Int
 |.bool=>Bool
 |.str=>List UInt8
 |.sl t=>List t.El
 |.st s=>s.E
 |.tok=>Nat
 |.ho s=>Option s.E
 |.hl t=>Option (List t.El)
inductive R where
 |int (k:IntKind) (n:Int)
 |bool (b:Bool)
 |str (l:List UInt8)
 |sl (t:Ty) (xs:List t.El)
 |tok (n:Nat)
 |lS
abbrev R.i (n:Int):R:=.int .i64 n
abbrev R.ints (xs:List Int):R:=.sl (.int .i64) xs
abbrev R.bytes (xs:List Int):R:=.sl (.int .u8) xs
def J3 (x:Shape):List R:=[.i x.h,.i x.w,.i x.c]
def J4 (x:ak):List R:=[.i x.sh.h,.i x.sh.w,.i x.sh.c,.ints x.data]
def NV (x:ay):List R:=[.i x.kind,.i x.out,.i x.size,.i x.step,.i x.mult,.i x.shift,.i x.zero,.ints x.weights,.ints x.m8]
def NW (x:Model):List R:=[.i x.inp.h,.i x.inp.w,.i x.inp.c,.sl (.st .aK) x.ar]
def Ms (x:Task):List R:=[.i x.id,.ints x.av,.i x.at_,.i x.due,.i x.born]
def G8 (x:Request):List R:=[.i x.id,.i x.model,.i x.job.model.inp.h,.i x.job.model.inp.w,.i x.job.model.inp.c,.sl (.st .aK) x.job.model.ar,.i x.job.at_,.i x.job.act.sh.h,.i x.job.act.sh.w,.i x.job.act.sh.c,.ints x.job.act.data,.i x.job.iU,.i x.due]
def Mt (x:Step):List R:=[.i x.kind,.i x.a,.i x.b,.bytes x.data,.i x.input.sh.h,.i x.input.sh.w,.i x.input.sh.c,.ints x.input.data]
def NX (x:Event):List R:=[.i x.kind,.i x.a,.i x.b,.i x.out.sh.h,.i x.out.sh.w,.i x.out.sh.c,.ints x.out.data]
def NY (x:Entry):List R:=[.i x.id,.i x.model.inp.h,.i x.model.inp.w,.i x.model.inp.c,.sl (.st .aK) x.model.ar,.i x.input.sh.h,.i x.input.sh.w,.i x.input.sh.c,.ints x.input.data,.i x.at_,.i x.due,.i x.end_,.bool x.done]
def Oi (x:Oh):List R:=[.i x.id,.i x.model,.i x.due]
def Ab (x:dE):List R:=[.i x.id,.tok x.av,.i x.at_,.i x.due,.i x.born]
def wS (x:sC):List R:=[.i x.id,.i x.model,.i x.mh,.i x.mw,.i x.mc,.tok x.ar,.i x.jat,.i x.ah,.i x.aw,.i x.ac,.tok x.data,.i x.iU,.i x.due]
def S.sz:S->Nat
 |.shape=>3|.cG=>4|.aK=>9|.model=>4|.task=>5|.request=>13|.step=>8|.event=>7|.entry=>13|.Mn=>3|.cY=>5|.iu=>13
def S.cells:(s:S)->s.E->List R
 |.shape=>J3|.cG=>J4|.aK=>NV|.model=>NW|.task=>Ms|.request=>G8
 |.step=>Mt|.event=>NX|.entry=>NY|.Mn=>Oi|.cY=>Ab|.iu=>wS
def Ty.sz:Ty->Nat
 |.st s=>s.sz
 |.ho s=>s.sz
 |_=>1
def Ty.cells:(t:Ty)->t.El->List R
 |.int k,n=>[.int k n]
 |.bool,b=>[.bool b]
 |.str,l=>[.str l]
 |.sl t,xs=>[.sl t xs]
 |.st s,x=>s.cells x
 |.tok,n=>[.tok n]
 |.ho s,x=>match x with
  |some x=>s.cells x
  |none=>List.replicate s.sz .lS
 |.hl t,x=>match x with
  |some xs=>[.sl t xs]
  |none=>[.lS]
theorem S.cp (s:S) (x:s.E):(s.cells x).length=s.sz:=by cases s<;>rfl
theorem Ty.cp (t:Ty) (x:t.El):(t.cells x).length=t.sz:=by
 cases t with
 |st s=>exact s.cp x
 |ho s=>cases x with
  |none=>simp[Ty.cells,Ty.sz]
  |some x=>exact s.cp x
 |hl t=>cases x<;>rfl
 |_=>rfl
theorem Ty.gj (t:Ty):0<t.sz:=by
 cases t with
 |st s=>cases s<;>simp[Ty.sz,S.sz]
 |ho s=>cases s<;>simp[Ty.sz,S.sz]
 |_=>simp[Ty.sz]
def R.asI:R->Option Int
 |.int .i64 n=>some n
 |_=>none
def R.asB:R->Option Bool
 |.bool b=>some b
 |_=>none
def R.asL (t:Ty):R->Option (List t.El)
 |.sl t' xs=>if h:t'=t then some (h▸xs)else none
 |_=>none
def R.asT:R->Option Nat
 |.tok n=>some n
 |_=>none
theorem R.Bv {r:R} {n:Nat} (h:r.asT=some n):r=.tok n:=by
 unfold R.asT at h;split at h
 ·cases h;rfl
 ·cases h
theorem R.aB {r:R} {n:Int} (h:r.asI=some n):r=.int .i64 n:=by
 unfold R.asI at h;split at h
 ·cases h;rfl
 ·cases h
theorem R.Mu {r:R} {n:Bool} (h:r.asB=some n):r=.bool n:=by
 unfold R.asB at h;split at h
 ·cases h;rfl
 ·cases h
theorem R.fB {t:Ty} {r:R} {n:List t.El} (h:r.asL t=some n):r=.sl t n:=by
 unfold R.asL at h;split at h
 ·split at h
  ·rename_i e;subst e;cases h;rfl
  ·cases h
 ·cases h
def C9:List R->Option Shape
 |[a',b',c']=>(a'.asI).bind λa=>(b'.asI).bind λb=>(c'.asI).bind λc=>some ⟨a,b,c⟩
 |_=>none
theorem Fg (cs:List R) (x:Shape) (h:C9 cs=some x):J3 x=cs:=by
 unfold C9 at h;split at h
 ·simp only[An]at h;obtain⟨a,ha,b,hb,c,hc,h⟩:=h;cases h;rw[R.aB ha,R.aB hb,R.aB hc];rfl
 ·cases h
def wT:List R->Option ak
 |[a',b',c',d']=>(a'.asI).bind λa=>(b'.asI).bind λb=>(c'.asI).bind λc=>(d'.asL (.int .i64)).bind λd=>some ⟨⟨a,b,c⟩,d⟩
 |_=>none
theorem Da (cs:List R) (x:ak) (h:wT cs=some x):J4 x=cs:=by
 unfold wT at h;split at h
 ·simp only[An]at h;obtain⟨a,ha,b,hb,c,hc,d,hd,h⟩:=h;cases h;rw[R.aB ha,R.aB hb,R.aB hc,R.fB hd];rfl
 ·cases h
def Db:List R->Option ay
 |[a',b',c',d',e',f',g',h',i']=>(a'.asI).bind λa=>(b'.asI).bind λb=>(c'.asI).bind λc=>(d'.asI).bind λd=>(e'.asI).bind λe=>(f'.asI).bind λf=>(g'.asI).bind λg=>(h'.asL (.int .i64)).bind λh=>(i'.asL (.int .i64)).bind λi=>some ⟨a,b,c,d,e,f,g,h,i⟩
 |_=>none
theorem Fh (cs:List R) (x:ay) (h:Db cs=some x):NV x=cs:=by
 unfold Db at h;split at h
 ·simp only[An]at h;obtain⟨a,ha,b,hb,c,hc,d,hd,e,he,f,hf,g,hg,h,hh,i,hi,h⟩:=h;cases h;rw[R.aB ha,R.aB hb,R.aB hc,R.aB hd,R.aB he,R.aB hf,R.aB hg,R.fB hh,R.fB hi];rfl
 ·cases h
def Dc:List R->Option Model
 |[a',b',c',d']=>(a'.asI).bind λa=>(b'.asI).bind λb=>(c'.asI).bind λc=>(d'.asL (.st .aK)).bind λd=>some ⟨⟨a,b,c⟩,d⟩
 |_=>none
theorem Fi (cs:List R) (x:Model) (h:Dc cs=some x):NW x=cs:=by
 unfold Dc at h;split at h
 ·simp only[An]at h;obtain⟨a,ha,b,hb,c,hc,d,hd,h⟩:=h;cases h;rw[R.aB ha,R.aB hb,R.aB hc,R.fB hd];rfl
 ·cases h
def J5:List R->Option Task
 |[a',b',c',d',e']=>(a'.asI).bind λa=>(b'.asL (.int .i64)).bind λb=>(c'.asI).bind λc=>(d'.asI).bind λd=>(e'.asI).bind λe=>some ⟨a,b,c,d,e⟩
 |_=>none
theorem Iq (cs:List R) (x:Task) (h:J5 cs=some x):Ms x=cs:=by
 unfold J5 at h;split at h
 ·simp only[An]at h;obtain⟨a,ha,b,hb,c,hc,d,hd,e,he,h⟩:=h;cases h;rw[R.aB ha,R.fB hb,R.aB hc,R.aB hd,R.aB he];rfl
 ·cases h
def sD:List R->Option Request
 |[a',b',c',d',e',f',g',h',i',j',k',l',m']=>(a'.asI).bind λa=>(b'.asI).bind λb=>(c'.asI).bind λc=>(d'.asI).bind λd=>(e'.asI).bind λe=>(f'.asL (.st .aK)).bind λf=>(g'.asI).bind λg=>(h'.asI).bind λh=>(i'.asI).bind λi=>(j'.asI).bind λj=>(k'.asL (.int .i64)).bind λk=>(l'.asI).bind λl=>(m'.asI).bind λm=>some ⟨a,b,⟨⟨⟨c,d,e⟩,f⟩,g,⟨⟨h,i,j⟩,k⟩,l⟩,m⟩
 |_=>none
theorem Bw (cs:List R) (x:Request) (h:sD cs=some x):G8 x=cs:=by
 unfold sD at h;split at h
 ·simp only[An]at h;obtain⟨a,ha,b,hb,c,hc,d,hd,e,he,f,hf,g,hg,h,hh,i,hi,j,hj,k,hk,l,hl,m,hm,h⟩:=h;cases h;rw[R.aB ha,R.aB hb,R.aB hc,R.aB hd,R.aB he,R.fB hf,R.aB hg,R.aB hh,R.aB hi,R.aB hj,R.fB hk,R.aB hl,R.aB hm];rfl
 ·cases h
def J6:List R->Option Step
 |[a',b',c',d',e',f',g',h']=>(a'.asI).bind λa=>(b'.asI).bind λb=>(c'.asI).bind λc=>(d'.asL (.int .u8)).bind λd=>(e'.asI).bind λe=>(f'.asI).bind λf=>(g'.asI).bind λg=>(h'.asL (.int .i64)).bind λh=>some ⟨a,b,c,d,⟨⟨e,f,g⟩,h⟩⟩
 |_=>none
theorem Ir (cs:List R) (x:Step) (h:J6 cs=some x):Mt x=cs:=by
 unfold J6 at h;split at h
 ·simp only[An]at h;obtain⟨a,ha,b,hb,c,hc,d,hd,e,he,f,hf,g,hg,h,hh,h⟩:=h;cases h;rw[R.aB ha,R.aB hb,R.aB hc,R.fB hd,R.aB he,R.aB hf,R.aB hg,R.fB hh];rfl
 ·cases h
def Dd:List R->Option Event
 |[a',b',c',d',e',f',g']=>(a'.asI).bind λa=>(b'.asI).bind λb=>(c'.asI).bind λc=>(d'.asI).bind λd=>(e'.asI).bind λe=>(f'.asI).bind λf=>(g'.asL (.int .i64)).bind λg=>some ⟨a,b,c,⟨⟨d,e,f⟩,g⟩⟩
 |_=>none
theorem Fj (cs:List R) (x:Event) (h:Dd cs=some x):NX x=cs:=by
 unfold Dd at h;split at h
 ·simp only[An]at h;obtain⟨a,ha,b,hb,c,hc,d,hd,e,he,f,hf,g,hg,h⟩:=h;cases h;rw[R.aB ha,R.aB hb,R.aB hc,R.aB hd,R.aB he,R.aB hf,R.fB hg];rfl
 ·cases h
def De:List R->Option Entry
 |[a',b',c',d',e',f',g',h',i',j',k',l',m']=>(a'.asI).bind λa=>(b'.asI).bind λb=>(c'.asI).bind λc=>(d'.asI).bind λd=>(e'.asL (.st .aK)).bind λe=>(f'.asI).bind λf=>(g'.asI).bind λg=>(h'.asI).bind λh=>(i'.asL (.int .i64)).bind λi=>(j'.asI).bind λj=>(k'.asI).bind λk=>(l'.asI).bind λl=>(m'.asB).bind λm=>some ⟨a,⟨⟨b,c,d⟩,e⟩,⟨⟨f,g,h⟩,i⟩,j,k,l,m⟩
 |_=>none
theorem Fk (cs:List R) (x:Entry) (h:De cs=some x):NY x=cs:=by
 unfold De at h;split at h
 ·simp only[An]at h;obtain⟨a,ha,b,hb,c,hc,d,hd,e,he,f,hf,g,hg,h,hh,i,hi,j,hj,k,hk,l,hl,m,hm,h⟩:=h;cases h;rw[R.aB ha,R.aB hb,R.aB hc,R.aB hd,R.fB he,R.aB hf,R.aB hg,R.aB hh,R.fB hi,R.aB hj,R.aB hk,R.aB hl,R.Mu hm];rfl
 ·cases h
def J7:List R->Option Oh
 |[a',b',c']=>(a'.asI).bind λa=>(b'.asI).bind λb=>(c'.asI).bind λc=>some ⟨a,b,c⟩
 |_=>none
theorem Is (cs:List R) (x:Oh) (h:J7 cs=some x):Oi x=cs:=by
 unfold J7 at h;split at h
 ·simp only[An]at h;obtain⟨a,ha,b,hb,c,hc,h⟩:=h;cases h;rw[R.aB ha,R.aB hb,R.aB hc];rfl
 ·cases h
def G9:List R->Option dE
 |[a',b',c',d',e']=>(a'.asI).bind λa=>(b'.asT).bind λb=>(c'.asI).bind λc=>(d'.asI).bind λd=>(e'.asI).bind λe=>some ⟨a,b,c,d,e⟩
 |_=>none
theorem Fl (cs:List R) (x:dE) (hq:G9 cs=some x):Ab x=cs:=by
 unfold G9 at hq;split at hq
 ·simp only[An]at hq;obtain⟨a,ha,b,hb,c,hc,d,hd,e,he,hq⟩:=hq;cases hq;rw[R.aB ha,R.Bv hb,R.aB hc,R.aB hd,R.aB he];rfl
 ·cases hq
def sE:List R->Option sC
 |[a',b',c',d',e',f',g',h',i',j',k',l',m']=>(a'.asI).bind λa=>(b'.asI).bind λb=>(c'.asI).bind λc=>(d'.asI).bind λd=>(e'.asI).bind λe=>(f'.asT).bind λf=>(g'.asI).bind λg=>(h'.asI).bind λh=>(i'.asI).bind λi=>(j'.asI).bind λj=>(k'.asT).bind λk=>(l'.asI).bind λl=>(m'.asI).bind λm=>some ⟨a,b,c,d,e,f,g,h,i,j,k,l,m⟩
 |_=>none
theorem zF (cs:List R) (x:sC) (hq:sE cs=some x):wS x=cs:=by
 unfold sE at hq;split at hq
 ·simp only[An]at hq;obtain⟨a,ha,b,hb,c,hc,d,hd,e,he,f,hf,g,hg,h0,hh,i,hi,j,hj,k,hk,l,hl,m,hm,hq⟩:=hq;cases hq;rw[R.aB ha,R.aB hb,R.aB hc,R.aB hd,R.aB he,R.Bv hf,R.aB hg,R.aB hh,R.aB hi,R.aB hj,R.Bv hk,R.aB hl,R.aB hm];rfl
 ·cases hq
def S.eA:(s:S)->List R->Option s.E
 |.shape=>C9
 |.cG=>wT
 |.aK=>Db
 |.model=>Dc
 |.task=>J5
 |.request=>sD
 |.step=>J6
 |.event=>Dd
 |.entry=>De
 |.Mn=>J7
 |.cY=>G9
 |.iu=>sE
def Ty.vx:(t:Ty)->R->Option t.El
 |.int k,.int k' n=>if k'=k then some n else none
 |.bool,.bool b=>some b
 |.str,.str l=>some l
 |.sl t,.sl t' xs=>if h:t'=t then some (h▸xs)else none
 |.tok,.tok n=>some n
 |.hl t,.sl t' xs=>if h:t'=t then some (some (h▸xs))else none
 |_,_=>none
def Ty.eA:(t:Ty)->List R->Option t.El
 |.st s,cs=>s.eA cs
 |.ho s,cs=>(s.eA cs).bind λx=>some (some x)
 |t,[r]=>t.vx r
 |_,_=>none
theorem Ty.Fm (t:Ty) (r:R) (x:t.El) (h:t.vx r=some x):t.cells x=[r]:=by
 cases t with
 |st s=>cases r<;>exact nomatch h
 |int k=>
  cases r with
  |int k' n=>
   replace h:(if k'=k then some n else none)=some x:=h
   split at h
   ·rename_i e;subst e;cases h;rfl
   ·cases h
  |_=>exact nomatch h
 |bool=>
  cases r with
  |bool b=>cases h;rfl
  |_=>exact nomatch h
 |str=>
  cases r with
  |str b=>cases h;rfl
  |_=>exact nomatch h
 |sl t=>
  cases r with
  |sl t' xs=>
   replace h:(if h:t'=t then some (h▸xs)else none)=some x:=h
   split at h
   ·rename_i e;subst e;cases h;rfl
   ·cases h
  |_=>exact nomatch h
 |tok=>
  cases r with
  |tok n=>cases h;rfl
  |_=>exact nomatch h
 |ho s=>cases r<;>exact nomatch h
 |hl t=>
  cases r with
  |sl t' xs=>
   replace h:(if h:t'=t then some (some (h▸xs))else none)=some x:=h
   split at h
   ·rename_i e;subst e;cases h;rfl
   ·cases h
  |_=>exact nomatch h
theorem S.cD (s:S) (cs:List R) (x:s.E) (h:s.eA cs=some x):s.cells x=cs:=by
 cases s
 ·exact Fg cs x h
 ·exact Da cs x h
 ·exact Fh cs x h
 ·exact Fi cs x h
 ·exact Iq cs x h
 ·exact Bw cs x h
 ·exact Ir cs x h
 ·exact Fj cs x h
 ·exact Fk cs x h
 ·exact Is cs x h
 ·exact Fl cs x h
 ·exact zF cs x h
theorem Ty.cD (t:Ty) (cs:List R) (x:t.El) (h:t.eA cs=some x):t.cells x=cs:=by
 cases t with
 |st s=>exact S.cD s cs x h
 |ho s=>
  replace h:(s.eA cs).bind (λx=>some (some x))=some x:=h
  obtain⟨y,hy,e⟩:=An.1 h;cases e
  exact S.cD s cs y hy
 |_=>
  match cs,h with
  |[r],h=>exact Ty.Fm _ r x h
end
section
inductive SV where
 |r (d:List Nat) (x:R)
 |ch
 |pd
 |own (i:Nat)
 |sub (i off len:Nat)
 |bsl (i n:Nat)
 |ptr (i idx off:Nat)
 |inn (i x c:Nat)
 |kt (d:List Nat) (cs:List R)
 |agg (cs:List SV)
 |tup (vs:List SV)
 |fn (f:Fn) (first cap:List SV)
 |undef
abbrev SV.i (n:Int):SV:=.r [] (.int .i64 n)
abbrev SV.b (b:Bool):SV:=.r [] (.bool b)
inductive Blk where
 |box (cs:List SV)
 |arr (sh:Option (List Nat)) (t:Ty) (xs:List t.El)
abbrev aF:=List (Nat× Blk)
structure St where
 cy:List (Nat× SV)
 heap:aF
 nid:Nat
 n:Nat
 gh:List (Option Nat):=[]
def look {α:Type}:List (Nat× α)->Nat->Option α
 |[],_=>none
 |(k,v)::l,n=>cond (Nat.beq k n) (some v) (look l n)
def put {α:Type}:List (Nat× α)->Nat->α->List (Nat× α)
 |[],n,v=>[(n,v)]
 |(k,u)::l,n,v=>cond (Nat.beq k n) ((k,v)::l) ((k,u)::put l n v)
def idx {α:Type} (xs:List α) (i:Int):Option α:=cond (decide (0<=i)) xs[i.toNat]? none
def mem (i:Nat):List Nat->Bool
 |[]=>false
 |k::l=>cond (Nat.beq k i) true (mem i l)
def hit (T:List Nat):List Nat->Bool
 |[]=>false
 |k::l=>cond (mem k T) true (hit T l)
abbrev Kil:=List Nat× List Nat
mutual
def SV.aL (T:Kil):SV->SV
 |.r d x=>cond (hit T.2 d) .undef (.r d x)
 |.own j=>cond (mem j T.1) .undef (.own j)
 |.sub j o n=>cond (mem j T.1) .undef (.sub j o n)
 |.bsl j n=>cond (mem j T.1) .undef (.bsl j n)
 |.ptr j x o=>cond (mem j T.1) .undef (.ptr j x o)
 |.inn j x c=>cond (mem j T.1||mem j T.2) .undef (.inn j x c)
 |.kt d cs=>cond (hit T.2 d) .undef (.kt d cs)
 |.agg cs=>.agg (ib T cs)
 |.tup cs=>.tup (ib T cs)
 |.fn f a b=>.fn f (ib T a) (ib T b)
 |.ch=>.ch
 |.pd=>.pd
 |.undef=>.undef
def ib (T:Kil):List SV->List SV
 |[]=>[]
 |v::l=>v.aL T::ib T l
end
def Blk.aL (T:Kil):Blk->Option Blk
 |.box cs=>some (.box (ib T cs))
 |.arr none t xs=>some (.arr none t xs)
 |.arr (some d) t xs=>cond (hit T.2 d) none (some (.arr (some d) t xs))
def wU (T:Kil):aF->Option aF
 |[]=>some []
 |(k,b)::l=>cond (mem k T.1) (wU T l) ((b.aL T).bind λb=>(wU T l).bind λl=>some ((k,b)::l))
def Ha (T:Kil):List (Nat× SV)->List (Nat× SV)
 |[]=>[]
 |(k,v)::l=>(k,v.aL T)::Ha T l
def iv (T:Kil) (h:aF):Option aF:=
 match T.2 with
 |[]=>some h
 |_=>wU T h
def nO (T:Kil) (s:List (Nat× SV)):List (Nat× SV):=
 match T.2 with
 |[]=>s
 |_=>Ha T s
def SV.list (h:aF) (t:Ty):SV->Option (List Nat× List t.El)
 |.r d x=>(x.asL t).bind λxs=>some (d,xs)
 |.ch=>some ([],[])
 |.own i=>match look h i with
  |some (.arr sh t' xs)=>if e:t'=t then some (i::sh.getD [],e▸xs)else none
  |_=>none
 |.sub i o n=>match look h i with
  |some (.arr sh t' xs)=>if e:t'=t then some (i::sh.getD [],((e▸xs).drop o).take n)else none
  |_=>none
 |_=>none
def SV.asInt (k:IntKind):SV->Option Int
 |.r _ (.int k' n)=>cond (decide (k'=k)) (some n) none
 |_=>none
def SV.asI:SV->Option Int
 |.r _ (.int _ n)=>some n
 |_=>none
def SV.asB:SV->Option Bool
 |.r _ (.bool b)=>some b
 |_=>none
def SV.asR (h:aF) (t:Ty) (v:SV):Option (List Nat× R):=
 match t with
 |.sl t'=>(v.list h t').bind λp=>some (p.1,.sl t' p.2)
 |.st _=>none
 |.tok=>match v with
  |.r d (.tok n)=>some (d,.tok n)
  |.ch=>some ([],.tok 0)
  |_=>none
 |_=>match v with
  |.r d x=>some (d,x)
  |_=>none
def S.tys:S->List Ty
 |.shape=>[.int .i64,.int .i64,.int .i64]
 |.cG=>[.int .i64,.int .i64,.int .i64,.sl (.int .i64)]
 |.aK=>[.int .i64,.int .i64,.int .i64,.int .i64,.int .i64,.int .i64,.int .i64,.sl (.int .i64),.sl (.int .i64)]
 |.model=>[.int .i64,.int .i64,.int .i64,.sl (.st .aK)]
 |.task=>[.int .i64,.sl (.int .i64),.int .i64,.int .i64,.int .i64]
 |.request=>[.int .i64,.int .i64,.int .i64,.int .i64,.int .i64,.sl (.st .aK),.int .i64,.int .i64,.int .i64,.int .i64,.sl (.int .i64),.int .i64,.int .i64]
 |.step=>[.int .i64,.int .i64,.int .i64,.sl (.int .u8),.int .i64,.int .i64,.int .i64,.sl (.int .i64)]
 |.event=>[.int .i64,.int .i64,.int .i64,.int .i64,.int .i64,.int .i64,.sl (.int .i64)]
 |.entry=>[.int .i64,.int .i64,.int .i64,.int .i64,.sl (.st .aK),.int .i64,.int .i64,.int .i64,.sl (.int .i64),.int .i64,.int .i64,.int .i64,.bool]
 |.Mn=>[.int .i64,.int .i64,.int .i64]
 |.cY=>[.int .i64,.tok,.int .i64,.int .i64,.int .i64]
 |.iu=>[.int .i64,.int .i64,.int .i64,.int .i64,.int .i64,.tok,.int .i64,.int .i64,.int .i64,.int .i64,.tok,.int .i64,.int .i64]
def Ty.tys:Ty->List Ty
 |.st s=>s.tys
 |.ho s=>s.tys
 |.hl t=>[.sl t]
 |t=>[t]
def JW (h:aF):List Ty->List SV->Option (List Nat× List R)
 |[],[]=>some ([],[])
 |t::ts,v::vs=>(v.asR h t).bind λp=>(JW h ts vs).bind λq=>some (p.1++q.1,p.2::q.2)
 |_,_=>none
def Qw (h:aF) (t:Ty) (vs:List SV):Option (List Nat× t.El):=
 (JW h t.tys vs).bind λp=>(t.eA p.2).bind λx=>some (p.1,x)
def SV.cells:SV->Option (List SV)
 |.agg cs=>some cs
 |.tup _=>none
 |.undef=>none
 |v=>some [v]
mutual
def SV.ids:SV->List Nat
 |.own i=>[i]
 |.sub i _ _=>[i]
 |.bsl i _=>[i]
 |.ptr i _ _=>[i]
 |.agg cs=>Iu cs
 |.tup cs=>Iu cs
 |.fn _ a b=>Iu a++Iu b
 |_=>[]
def Iu:List SV->List Nat
 |[]=>[]
 |v::l=>v.ids++Iu l
end
def oX:List Nat->List Nat->List Nat
 |acc,[]=>acc
 |acc,i::l=>cond (mem i acc) (oX acc l) (oX (acc++[i]) l)
def NZ (h:aF):List Nat->List Nat
 |[]=>[]
 |i::l=>(match look h i with
  |some (.box cs)=>Iu cs
  |_=>[])++NZ h l
def reach (h:aF):Nat->List Nat->List Nat
 |0,L=>L
 |n+1,L=>reach h n (oX L (NZ h L))
def uc:Value->Option SV
 |.bool b=>some (.b b)
 |.int k n=>some (.r [] (.int k n))
 |.string s=>some (.r [] (.str s.data.toList))
 |.slice none 0 0=>some .ch
 |.pointer none=>some .pd
 |_=>none
def Ac:List Value->Option (List SV)
 |[]=>some []
 |v::l=>(uc v).bind λx=>(Ac l).bind λxs=>some (x::xs)
def Hb:Value->Option SV
 |.agg cs=>(Ac cs.toList).bind λl=>some (.agg l)
 |v=>uc v
def opd (cy:List (Nat× SV)):Operand->Option SV
 |.tmp t=>look cy t
 |.const v=>Hb v
 |.func f=>some (.fn (.func f) [] [])
 |.global _=>none
def rG (cy:List (Nat× SV)):List Operand->Option (List SV)
 |[]=>some []
 |x::l=>(opd cy x).bind λv=>(rG cy l).bind λvs=>some (v::vs)
end
section
abbrev TT:=TypeId->Option Ty
def aQ:Nat:=2^38
def wV (P:Program) (T:TypeId):Bool:=
 match P.underlying T with
 |some (.struct _)=>true
 |some (.array _ _)=>true
 |_=>false
def lT (P:Program) (T:TypeId):Option TypeId:=
 match P.underlying T with
 |some (.slice e)=>some e
 |_=>none
def ud (P:Program) (T:TypeId) (f:Nat):Option Field:=
 match P.underlying T with
 |some (.struct fs)=>(fs[f]?).bind λf=>(P.info? f.type).bind λi=>cond (Nat.beq i.size 0) none (some f)
 |_=>none
def iV (P:Program) (T:TypeId):Option Nat:=(P.info? T).bind λi=>some i.size
def sF (P:Program):List Field->Option (List (Nat× Nat))
 |[]=>some []
 |f::fs=>(iV P f.type).bind λs=>(sF P fs).bind λl=>some ((f.offset,s)::l)
def takeN {α:Type} (n:Nat) (l:List α):Option (List α):=cond (Nat.ble n l.length) (some (l.take n)) none
def iw (P:Program) (T:TypeId) (cs:List SV):Option SV:=
  (P.underlying T).bind λ_=>(P.info? T).bind λi=>(takeN i.size cs).bind λl=>
    cond (wV P T) (some (.agg l)) (match l with|[v]=>some v|_=>none)
def mkR (d:List Nat):R->SV
 |.sl t xs=>.r d (.sl t xs)
 |x=>.r [] x
def J8 (i:Nat):Option (List Nat)->List Nat
 |none=>[i]
 |some d=>d
def lq (h:aF):SV->Option (List SV)
 |.kt d cs=>some (cs.map (mkR d))
 |.ptr i x o=>match look h i with
  |some (.box cs)=>some (cs.drop o)
  |some (.arr sh t xs)=>(xs[x]?).bind λe=>some (((t.cells e).map (mkR (J8 i sh))).drop o)
  |_=>none
 |_=>none
def gl (P:Program) (T:TypeId):Option (List SV):=
 (P.info? T).bind λi=>i.zero.bind λz=>(Hb z).bind λv=>v.cells
def pe (place:Nat->Option (Nat× Nat)):List SV->List (Nat× SV)->Option (List SV)
 |cs,[]=>some cs
 |cs,(k,v)::l=>(place k).bind λp=>v.cells.bind λvs=>
   cond (Nat.beq vs.length p.2) (cond (Nat.ble (p.1+vs.length) cs.length) (pe place (cs.take p.1++vs++cs.drop (p.1+vs.length)) l) none) none
def PA (op:BinOp) (k:IntKind) (a b:Int):Option R:=
 match op with
 |.add=>some (.int k (k.wrap (a+b)))
 |.sub=>some (.int k (k.wrap (a-b)))
 |.mul=>some (.int k (k.wrap (a*b)))
 |.quo=>cond (decide (b=0)) none (some (.int k (k.wrap (a.tdiv b))))
 |.rem=>cond (decide (b=0)) none (some (.int k (a.tmod b)))
 |.and=>some (.int k (k.wrap (BitVec.ofInt k.bits a&&& BitVec.ofInt k.bits b).toNat))
 |.or=>some (.int k (k.wrap (BitVec.ofInt k.bits a||| BitVec.ofInt k.bits b).toNat))
 |.xor=>some (.int k (k.wrap (BitVec.ofInt k.bits a^^^ BitVec.ofInt k.bits b).toNat))
 |.eql=>some (.bool (a==b))
 |.neq=>some (.bool (a !=b))
 |.lss=>some (.bool (decide (a<b)))
 |.leq=>some (.bool (decide (a<=b)))
 |.gtr=>some (.bool (decide (a>b)))
 |.geq=>some (.bool (decide (a>=b)))
 |_=>none
def Df (op:BinOp) (k:IntKind) (a b:Int):Option R:=
  cond (decide (b<0)) none
    (match op with
     |.shl=>some (.int k (k.wrap (a*2^(min b.toNat k.bits))))
     |.shr=>some (.int k (a.fdiv (2^(min b.toNat k.bits))))
     |_=>none)
def PI (op:BinOp) (a b:List UInt8):Option R:=
 match op with
 |.add=>cond (decide (a.length+b.length<=aQ)) (some (.str (a++b))) none
 |.eql=>some (.bool (a==b))
 |.neq=>some (.bool (!(a==b)))
 |.lss=>some (.bool (Op.bytesLess a b))
 |.leq=>some (.bool (Op.bytesLess a b||a==b))
 |.gtr=>some (.bool (!(Op.bytesLess a b||a==b)))
 |.geq=>some (.bool (!(Op.bytesLess a b)))
 |_=>none
def Mv (P:Program) (xs ys:List SV):List Field->Option Bool
 |[]=>some true
 |f::fs=>cond (decide (f.name= "_")) none (match P.underlying f.type,xs[f.offset]?,ys[f.offset]? with
  |some (.int _),some (.r _ (.int k a)),some (.r _ (.int l b))=>cond (decide (k=l)) ((Mv P xs ys fs).bind λt=>some (cond (a==b) t false)) none
  |_,_,_=>none)
def PJ (P:Program) (T:TypeId) (xs ys:List SV):Option Bool:=
 cond (P.stoodInHeld T) none (cond (P.eqGuardType P.depth T) none (match P.underlying T with
  |some (.struct fs)=>Mv P xs ys fs.toList
  |_=>none))
def J9:BinOp->Bool
 |.shl|.shr=>true
 |_=>false
def isEq:BinOp->Option Bool
 |.eql=>some true
 |.neq=>some false
 |_=>none
def bin (P:Program) (T:TypeId) (op:BinOp) (x y:SV):Option SV:=
 match x,y with
 |.r _ (.int k a),.r _ (.int l b)=>cond (J9 op) ((Df op k a b).bind λr=>some (.r [] r)) (cond (decide (k=l)) ((PA op k a b).bind λr=>some (.r [] r)) none)
 |.r _ (.str a),.r _ (.str b)=>(PI op a b).bind λr=>some (.r [] r)
 |.r _ (.bool a),.r _ (.bool b)=>match P.underlying T with
  |some .bool=>(isEq op).bind λe=>some (.b (cond e (a==b) (!(a==b))))
  |_=>none
 |.agg a,.agg b=>(isEq op).bind λe=>(PJ P T a b).bind λt=>some (.b (cond e t (!t)))
 |_,_=>none
def un (op:UnOp) (x:SV):Option SV:=
 match op,x with
 |.neg,.r _ (.int k n)=>some (.r [] (.int k (k.wrap (0-n))))
 |.not,.r _ (.bool b)=>some (.b (!b))
 |_,_=>none
def lenOf (h:aF):SV->Option Nat
 |.r _ (.str l)=>some l.length
 |.r _ (.sl _ xs)=>some xs.length
 |.ch=>some 0
 |.own i=>match look h i with
  |some (.arr _ _ xs)=>some xs.length
  |_=>none
 |.sub _ _ n=>some n
 |.bsl _ n=>some n
 |_=>none
def Qx (P:Program) (T:TypeId):SV->Bool
 |.r _ (.str _)=>match P.underlying T with
  |some .string=>true
  |_=>false
 |_=>match P.underlying T with
  |some (.slice _)=>true
  |_=>false
def bounds (n:Nat) (lo hi:Option SV):Option (Nat× Nat):=
  (match hi with
   |none=>some n
   |some v=>v.asI.bind λx=>cond (decide (0<=x/\x<=(n:Int))) (some x.toNat) none).bind λh=>
  (match lo with
   |none=>some 0
   |some v=>v.asI.bind λx=>cond (decide (0<=x/\x<=(h:Int))) (some x.toNat) none).bind λl=>some (l,h)
def slT (P:Program) (T:TypeId) (t:Ty):Bool:=
 match P.underlying T with
 |some (.slice e)=>match iV P e with
  |some n=>Nat.beq n t.sz
  |none=>false
 |_=>false
def Hc (P:Program) (T:TypeId):Bool:=
 match P.underlying T with
 |some (.slice e)=>(iV P e).isSome
 |_=>false
def isStr (P:Program) (T:TypeId):Bool:=
 match P.underlying T with
 |some .string=>true
 |_=>false
def QI (n m:Nat):Option SV->Nat
 |none=>n
 |some _=>m
def ja (P:Program) (T:TypeId) (h:aF) (x:SV) (lo hi:Option SV):Option SV:=
 match x with
 |.r d (.str l)=>cond (isStr P T) ((bounds l.length lo hi).bind λb=>some (.r d (.str ((l.take b.2).drop b.1)))) none
 |.r d (.sl t xs)=>cond (slT P T t) ((bounds xs.length lo hi).bind λb=>some (.r d (.sl t ((xs.take b.2).drop b.1)))) none
 |.ch=>cond (Hc P T) ((bounds 0 lo hi).bind λ_=>some .ch) none
 |.own i=>match look h i with
  |some (.arr _ t xs)=>cond (slT P T t) ((bounds xs.length lo hi).bind λb=>some (.sub i b.1 (b.2-b.1))) none
  |_=>none
 |.sub i o n=>match look h i with
  |some (.arr _ t xs)=>cond (slT P T t) ((bounds (QI n (xs.length-o) hi) lo hi).bind λb=>some (.sub i (o+b.1) (b.2-b.1))) none
  |_=>none
 |_=>none
def slN (P:Program) (T:TypeId) (h:aF) (x:SV):Option Nat:=
 match x with
 |.r _ (.sl t xs)=>cond (slT P T t) (some xs.length) none
 |.own i=>match look h i with
  |some (.arr _ t xs)=>cond (slT P T t) (some xs.length) none
  |_=>none
 |_=>none
def wg (P:Program) (T:TypeId) (h:aF) (x:SV) (lo:Option SV) (hi m:SV):Option SV:=
 (slN P T h x).bind λn=>m.asI.bind λz=>cond (decide (0<=z/\z<=(n:Int))) ((bounds z.toNat lo (some hi)).bind λ_=>some .undef) none
def bP (P:Program) (T:TypeId) (h:aF) (x:SV) (k:Int):Option SV:=
 match x with
 |.r d (.sl t xs)=>cond (slT P T t) ((idx xs k).bind λe=>some (.kt d (t.cells e))) none
 |.own i=>match look h i with
  |some (.arr _ t xs)=>cond (slT P T t) (cond (decide (0<=k/\k<(xs.length:Int))) (some (.ptr i k.toNat 0)) none) none
  |_=>none
 |.sub i o n=>match look h i with
  |some (.arr _ t _)=>cond (slT P T t) (cond (decide (0<=k/\k<(n:Int))) (some (.ptr i (o+k.toNat) 0)) none) none
  |_=>none
 |.bsl i n=>(lT P T).bind λe=>(iV P e).bind λsz=>cond (decide (0<=k/\k<(n:Int))) (some (.ptr i 0 (k.toNat*sz))) none
 |_=>none
def Ka (P:Program) (src dst:TypeId) (x:SV):Option SV:=
 match P.underlying src,P.underlying dst,x with
 |some (.int _),some (.int k),.r _ (.int _ n)=>some (.r [] (.int k (k.wrap n)))
 |some .string,some .string,.r _ (.str l)=>some (.r [] (.str l))
 |_,_,_=>none
def vy (P:Program) (T:TypeId):Bool:=
 match lT P T with
 |some e=>match P.underlying e with
  |some (.int .u8)=>true
  |_=>false
 |none=>false
def bytesOf (l:List Int):List UInt8:=l.map λn=>UInt8.ofNat n.toNat
def Mo (cy:List (Nat× SV)):Option Operand->Option (Option SV)
 |none=>some none
 |some x=>(opd cy x).bind λv=>some (some v)
def rn (cy:List (Nat× SV)):List (Nat× Operand)->Option (List (Nat× SV))
 |[]=>some []
 |(k,x)::l=>(opd cy x).bind λv=>(rn cy l).bind λvs=>some ((k,v)::vs)
def gq (P:Program) (s:List (Nat× SV)) (h:aF) (op:Op):Option SV:=
 match op with
 |.move x|.assign x=>opd s x
 |.pick c a b=>(opd s c).bind λc=>c.asB.bind λc=>cond c (opd s a) (opd s b)
 |.build T parts=>
  match P.underlying T with
  |some (.struct fs)=>(sF P fs.toList).bind λpl=>(gl P T).bind λz=>(rn s parts.toList).bind λps=>
   (pe (λk=>pl[k]?) z ps).bind λcs=>some (.agg cs)
  |_=>none
 |.load T a=>(opd s a).bind λa=>(lq h a).bind λcs=>iw P T cs
 |.nilCheck x=>(opd s x).bind λv=>match v with
  |.ptr i x o=>some (.ptr i x o)
  |.kt d cs=>some (.kt d cs)
  |_=>none
 |.binOp op T x y _=>(opd s x).bind λx=>(opd s y).bind λy=>bin P T op x y
 |.unOp op _ x=>(opd s x).bind λx=>un op x
 |.convert src dst x=>(opd s x).bind λx=>cond (vy P src&&isStr P dst) ((x.list h (.int .u8)).bind λp=>some (.r [] (.str (bytesOf p.2)))) (Ka P src dst x)
 |.makeFunc fn first cap=>(rG s first.toList).bind λa=>(rG s cap.toList).bind λb=>some (.fn fn a b)
 |.slice T x lo hi none=>(opd s x).bind λx=>(Mo s lo).bind λlo=>(Mo s hi).bind λhi=>ja P T h x lo hi
 |.slice T x lo (some hi) (some m)=>(opd s x).bind λx=>(Mo s lo).bind λlo=>(opd s hi).bind λhi=>(opd s m).bind λm=>wg P T h x lo hi m
 |.fieldAddr T x f=>(opd s x).bind λx=>(ud P T f).bind λf=>match x with
  |.kt d cs=>some (.kt d (cs.drop f.offset))
  |.ptr i k o=>some (.ptr i k (o+f.offset))
  |_=>none
 |.field T x f=>(opd s x).bind λx=>(ud P T f).bind λf=>match x with
  |.agg cs=>iw P f.type (cs.drop f.offset)
  |_=>none
 |.indexAddr T x k=>(opd s x).bind λx=>(opd s k).bind λk=>k.asI.bind λk=>bP P T h x k
 |.index T x k=>(opd s x).bind λx=>(opd s k).bind λk=>k.asI.bind λk=>match x with
  |.r _ (.str l)=>cond (isStr P T) ((idx l k).bind λc=>some (.r [] (.int .u8 c.toNat))) none
  |_=>none
 |.extract x k=>(opd s x).bind λx=>match x with
  |.tup vs=>vs[k]?
  |_=>none
 |.call {callee:=.builtin .len,args,argTypes}=>(rG s args.toList).bind λvs=>match vs,argTypes.toList with
  |[v],T::_=>cond (Qx P T v) ((lenOf h v).bind λn=>some (.i n)) none
  |_,_=>none
 |.call {callee:=.builtin .cap,args,argTypes}=>(rG s args.toList).bind λvs=>match vs,argTypes.toList with
  |[.ch],T::_=>cond (Hc P T) (some (.i 0)) none
  |_,_=>none
 |.call {callee:=.builtin .min,args,.. }=>(rG s args.toList).bind λvs=>match vs with
  |[.r _ (.int k a),.r _ (.int _ b)]=>some (.r [] (.int k (if b<a then b else a)))
  |[.r _ (.int k a),.r _ (.int _ b),.r _ (.int _ c)]=>some (.r [] (.int k (if c<(if b<a then b else a)then c else(if b<a then b else a))))
  |_=>none
 |.call {callee:=.builtin .max,args,.. }=>(rG s args.toList).bind λvs=>match vs with
  |[.r _ (.int k a),.r _ (.int _ b)]=>some (.r [] (.int k (if b>a then b else a)))
  |_=>none
 |_=>none
def Bx {α:Type} (h:aF) (v:SV) (K:List SV->Option α):Option α:=
 match v with
 |.kt d cs=>K (cs.map (mkR d))
 |.ptr i x o=>match look h i with
  |some (.box cs)=>K (cs.drop o)
  |some (.arr sh t xs)=>(xs[x]?).bind λe=>K (((t.cells e).map (mkR (J8 i sh))).drop o)
  |_=>none
 |_=>none
def Oj {α:Type} (op:BinOp) (k:IntKind) (a b:Int) (K:R->Option α):Option α:=
 match op with
 |.quo=>cond (decide (b=0)) none (K (.int k (k.wrap (a.tdiv b))))
 |.rem=>cond (decide (b=0)) none (K (.int k (a.tmod b)))
 |op=>(PA op k a b).bind K
def Fo {α:Type} (op:BinOp) (k:IntKind) (a b:Int) (K:R->Option α):Option α:=
  cond (decide (b<0)) none
    (match op with
     |.shl=>K (.int k (k.wrap (a*2^(min b.toNat k.bits))))
     |.shr=>K (.int k (a.fdiv (2^(min b.toNat k.bits))))
     |_=>none)
def Ol {α:Type} (op:BinOp) (a b:List UInt8) (K:R->Option α):Option α:=
 match op with
 |.add=>cond (decide (a.length+b.length<=aQ)) (K (.str (a++b))) none
 |op=>(PI op a b).bind K
def QJ {α:Type} (P:Program) (T:TypeId) (op:BinOp) (x y:SV) (K:SV->Option α):Option α:=
 match x,y with
 |.r _ (.int k a),.r _ (.int l b)=>cond (J9 op) (Fo op k a b λr=>K (.r [] r)) (cond (decide (k=l)) (Oj op k a b λr=>K (.r [] r)) none)
 |.r _ (.str a),.r _ (.str b)=>Ol op a b λr=>K (.r [] r)
 |x,y=>(bin P T op x y).bind K
def pf {α:Type} (n:Nat) (lo hi:Option SV) (K:Nat->Nat->Option α):Option α:=
 let lower (h:Nat):Option α:=match lo with
  |none=>K 0 h
  |some v=>v.asI.bind λx=>cond (decide (0<=x/\x<=(h:Int))) (K x.toNat h) none
 match hi with
 |none=>lower n
 |some v=>v.asI.bind λx=>cond (decide (0<=x/\x<=(n:Int))) (lower x.toNat) none
def Kb {α:Type} (P:Program) (T:TypeId) (h:aF) (x:SV) (lo hi:Option SV) (K:SV->Option α):Option α:=
 match x with
 |.r d (.str l)=>cond (isStr P T) (pf l.length lo hi λa b=>K (.r d (.str ((l.take b).drop a)))) none
 |.r d (.sl t xs)=>cond (slT P T t) (pf xs.length lo hi λa b=>K (.r d (.sl t ((xs.take b).drop a)))) none
 |.ch=>cond (Hc P T) (pf 0 lo hi λ_ _=>K .ch) none
 |.own i=>match look h i with
  |some (.arr _ t xs)=>cond (slT P T t) (pf xs.length lo hi λa b=>K (.sub i a (b-a))) none
  |_=>none
 |.sub i o n=>match look h i with
  |some (.arr _ t xs)=>cond (slT P T t) (pf (QI n (xs.length-o) hi) lo hi λa b=>K (.sub i (o+a) (b-a))) none
  |_=>none
 |_=>none
def ue {α:Type} (P:Program) (T:TypeId) (h:aF) (x:SV) (k:Int) (K:SV->Option α):Option α:=
 match x with
 |.r d (.sl t xs)=>cond (slT P T t) ((idx xs k).bind λe=>K (.kt d (t.cells e))) none
 |.own i=>match look h i with
  |some (.arr _ t xs)=>cond (slT P T t) (cond (decide (0<=k/\k<(xs.length:Int))) (K (.ptr i k.toNat 0)) none) none
  |_=>none
 |.sub i o n=>match look h i with
  |some (.arr _ t _)=>cond (slT P T t) (cond (decide (0<=k/\k<(n:Int))) (K (.ptr i (o+k.toNat) 0)) none) none
  |_=>none
 |x=>(bP P T h x k).bind K
def Dg {α:Type} (P:Program) (T:TypeId) (h:aF) (x:SV) (lo:Option SV) (hi m:SV) (K:SV->Option α):Option α:=
 (slN P T h x).bind λn=>m.asI.bind λz=>cond (decide (0<=z/\z<=(n:Int))) (pf z.toNat lo (some hi) λ_ _=>K .undef) none
def nP {α:Type} (P:Program) (s:List (Nat× SV)) (h:aF) (op:Op) (K:SV->Option α):Option α:=
 match op with
 |.load T a=>(opd s a).bind λa=>Bx h a λcs=>(iw P T cs).bind K
 |.binOp op T x y _=>(opd s x).bind λx=>(opd s y).bind λy=>QJ P T op x y K
 |.slice T x lo hi none=>(opd s x).bind λx=>(Mo s lo).bind λlo=>(Mo s hi).bind λhi=>Kb P T h x lo hi K
 |.slice T x lo (some hi) (some m)=>(opd s x).bind λx=>(Mo s lo).bind λlo=>(opd s hi).bind λhi=>(opd s m).bind λm=>Dg P T h x lo hi m K
 |.indexAddr T x k=>(opd s x).bind λx=>(opd s k).bind λk=>k.asI.bind λk=>ue P T h x k K
 |.index T x k=>(opd s x).bind λx=>(opd s k).bind λk=>k.asI.bind λk=>match x with
  |.r _ (.str l)=>cond (isStr P T) ((idx l k).bind λc=>K (.r [] (.int .u8 c.toNat))) none
  |_=>none
 |op=>(gq P s h op).bind K
theorem dz {α β:Type} (b:Bool) (x y:Option α) (K:α->Option β):(cond b x y).bind K=cond b (x.bind K) (y.bind K):=by cases b<;>rfl
theorem Fp {α:Type} (h:aF) (v:SV) (K:List SV->Option α):Bx h v K=(lq h v).bind K:=by
 unfold Bx lq;split
 ·rfl
 ·split
  ·rfl
  ·rw[RP];rfl
  ·rfl
 ·rfl
theorem Mw {α:Type} (op:BinOp) (k:IntKind) (a b:Int) (K:R->Option α):Oj op k a b K=(PA op k a b).bind K:=by
 unfold Oj;split
 ·show _=(cond _ none (some _)).bind K;rw[dz];rfl
 ·show _=(cond _ none (some _)).bind K;rw[dz];rfl
 ·rfl
theorem Iv {α:Type} (op:BinOp) (k:IntKind) (a b:Int) (K:R->Option α):Fo op k a b K=(Df op k a b).bind K:=by
 unfold Fo Df;rw[dz];cases op<;>rfl
theorem Mx {α:Type} (op:BinOp) (a b:List UInt8) (K:R->Option α):Ol op a b K=(PI op a b).bind K:=by
 unfold Ol;split
 ·show _=(cond _ (some _) none).bind K;rw[dz];rfl
 ·rfl
theorem Om {α:Type} (P:Program) (T:TypeId) (op:BinOp) (x y:SV) (K:SV->Option α):QJ P T op x y K=(bin P T op x y).bind K:=by
 unfold QJ;split
 ·simp only[bin,dz,Iv,Mw,RP,Rv,R9]
 ·simp only[bin,Mx,RP,Rv]
 ·rfl
theorem k7 {α:Type} (n:Nat) (lo hi:Option SV) (K:Nat->Nat->Option α):pf n lo hi K=(bounds n lo hi).bind λb=>K b.1 b.2:=by
 unfold pf bounds;cases hi<;>cases lo<;>simp only[RP,Rv,dz,R9]
theorem Kc {α:Type} (P:Program) (T:TypeId) (h:aF) (x:SV) (lo hi:Option SV) (K:SV->Option α):Kb P T h x lo hi K=(ja P T h x lo hi).bind K:=by
 unfold Kb ja;split
 ·simp only[dz,k7,RP,Rv,R9]
 ·simp only[dz,k7,RP,Rv,R9]
 ·simp only[dz,k7,RP,Rv,R9]
 ·split
  ·simp only[dz,k7,RP,Rv,R9]
  ·rfl
 ·split
  ·simp only[dz,k7,RP,Rv,R9]
  ·rfl
 ·rfl
theorem Bz {α:Type} (P:Program) (T:TypeId) (h:aF) (x:SV) (k:Int) (K:SV->Option α):ue P T h x k K=(bP P T h x k).bind K:=by
 unfold ue;split
 ·simp only[bP,dz,RP,Rv,R9]
 ·simp only[bP];split
  ·simp only[dz,Rv,R9]
  ·rfl
 ·simp only[bP];split
  ·simp only[dz,Rv,R9]
  ·rfl
 ·rfl
theorem nQ {α:Type} (P:Program) (s:List (Nat× SV)) (h:aF) (op:Op) (K:SV->Option α):nP P s h op K=(gq P s h op).bind K:=by
 unfold nP;split
 ·simp only[gq,Fp,RP]
 ·simp only[gq,Om,RP]
 ·simp only[gq,Kc,RP]
 ·simp only[gq,Dg,wg,k7,RP,dz,Rv,R9]
 ·simp only[gq,Bz,RP]
 ·simp only[gq,RP]
  congr 1;funext x;congr 1;funext k;congr 1;funext k
  split
  ·simp only[dz,RP,Rv,R9]
  ·rfl
 ·rfl
structure CR where
 v:SV
 news:List Blk:=[]
 upd:aF:=[]
 gone:List Nat:=[]
 lr:List Nat:=[]
def CR.kil (c:CR):Kil:=(c.gone,c.gone++c.lr)
abbrev Out:=SV× List Blk
abbrev Orc:=(ρ:Type)->Nat->List SV->aF->(CR->Option ρ)->Option ρ
def PK:Orc:=λ_ _ _ _ _=>none
def aJ:Nat->List Blk->aF
 |_,[]=>[]
 |n,b::l=>(n,b)::aJ (n+1) l
inductive Co where
 |oY (sh:Bool) (t:Ty)
 |ro (t:Ty)
 |drop
 |dep (j:Nat)
 |My (t j:Nat)
inductive gS where
 |slot (t:Nat)
 |cell (t j:Nat)
 |box (i j:Nat)
 |JX (t j:Nat)
 |gh (k:Nat)
def coV (n:Nat) (h:aF):Co->SV->SV× List Blk
 |.oY sh t,.ch=>(.own n,[.arr (cond sh (some []) none) t []])
 |.ro t,v=>match v.list h t with
  |some p=>(.r p.1 (.sl t p.2),[])
  |none=>(v,[])
 |.drop,_=>(.undef,[])
 |.dep j,.r d x=>(.r (cond (mem j d) d (d++[j])) x,[])
 |_,v=>(v,[])
def Mz (st:St) (i j:Nat) (c:Co):St:=
 match look st.heap i with
 |some (.box cs)=>match cs[j]? with
  |some v=>{st with heap:=put (st.heap++aJ st.nid (coV st.nid st.heap c v).2) i (.box (cs.set j (coV st.nid st.heap c v).1)),nid:=st.nid+(coV st.nid st.heap c v).2.length}
  |none=>st
 |_=>st
def Dh (st:St):gS× Co->St
  | (.slot t, c) => match look st.cy t with
    |some v=>{st with cy:=put st.cy t (coV st.nid st.heap c v).1,heap:=st.heap++aJ st.nid (coV st.nid st.heap c v).2,nid:=st.nid+(coV st.nid st.heap c v).2.length}
    |none=>st
  | (.cell t j, c) => match look st.cy t with
    | some (.agg cs) => match cs[j]? with
      |some v=>{st with cy:=put st.cy t (.agg (cs.set j (coV st.nid st.heap c v).1)),heap:=st.heap++aJ st.nid (coV st.nid st.heap c v).2,nid:=st.nid+(coV st.nid st.heap c v).2.length}
      |none=>st
    |_=>st
  |(.box i j,c)=>Mz st i j c
  | (.JX t j, c) => match look st.cy t with
    |some (.ptr i _ _)=>Mz st i j c
    |_=>st
  |(.gh k,_)=>{st with gh:=st.gh.set k none}
def QK (st:St):Co->Co
 |.My t j=>match look st.cy t with
  |some (.ptr i _ _)=>match look st.heap i with
   |some (.box cs)=>match cs[j]? with
    |some (.own k)=>.dep k
    |_=>.dep 0
   |_=>.dep 0
  |_=>.dep 0
 |c=>c
def PL (st:St) (x:gS× Co):St:=Dh st (x.1,QK st x.2)
def Kd:List (gS× Co)->St->St
 |[],st=>st
 |x::l,st=>Kd l (PL st x)
structure Env where
 P:Program
 tt:TT
 orc:FuncId->Orc
 wr:FuncId->Bool:=λ_=>false
 wt:Bool:=false
 inn:Bool:=false
 fz:Nat->List (Bool× Nat× List Nat):=λ_=>[]
 wk:Nat->List (gS× Co):=λ_=>[]
 lit:Bool:=false
 tak:Bool:=false
 tkt:List Nat:=[]
 swp:Bool:=false
def rp:aF->aF->aF
 |[],h=>h
 |(k,b)::l,h=>rp l (put h k b)
def PM (s:List (Nat× SV)) (n:Nat) (dst:Option Tmp) (v:SV):Option (List (Nat× SV)):=
 match dst with
 |some t=>cond (Nat.ble (t+1) n) (some (put s t v)) none
 |none=>some s
def St.take (st:St) (dst:Option Tmp) (c:CR):Option St:=
  (iv c.kil (rp c.upd st.heap)).bind λh=>(PM (nO c.kil st.cy) st.n dst c.v).bind λs=>
    some {st with cy:=s,heap:=h++aJ st.nid c.news,nid:=st.nid+c.news.length}
def setCells (cs:List SV) (o:Nat) (vs:List SV):Option (List SV):=
 cond (Nat.ble (o+vs.length) cs.length) (some (cs.take o++vs++cs.drop (o+vs.length))) none
def pg:Ty->Bool
 |.sl _=>false
 |.ho _|.hl _=>false
 |.st .shape|.st .Mn|.st .cY|.st .iu=>true
 |.st _=>false
 |_=>true
def isNil {α:Type}:List α->Bool
 |[]=>true
 |_=>false
def Iw (h:aF) (t:Ty):Nat->List SV->Option (List Nat× List t.El)
 |0,_=>some ([],[])
 |n+1,cs=>(Qw h t (cs.take t.sz)).bind λp=>(Iw h t n (cs.drop t.sz)).bind λq=>some (p.1++q.1,p.2::q.2)
def SV.JY (h:aF) (t:Ty) (v:SV):Option (List Nat× R):=
 match t with
 |.sl t'=>match v with
  |.ch=>some ([],.sl t' [])
  |.own i=>match look h i with
   |some (.arr none t1 xs)=>if e:t1=t' then some ([i],.sl t' (e▸xs))else none
   |_=>none
  |_=>none
 |.st _=>none
 |.tok=>match v with
  |.r _ (.tok n)=>some ([],.tok n)
  |.ch=>some ([],.tok 0)
  |_=>none
 |_=>match v with
  |.r _ (.int k n)=>some ([],.int k n)
  |.r _ (.bool b)=>some ([],.bool b)
  |.r _ (.str l)=>some ([],.str l)
  |_=>none
def Fq (h:aF):List Ty->List SV->Option (List Nat× List R)
 |[],[]=>some ([],[])
 |t::ts,v::vs=>(v.JY h t).bind λp=>(Fq h ts vs).bind λq=>some (p.1++q.1,p.2::q.2)
 |_,_=>none
def iX (h:aF) (t:Ty):Nat->List SV->Option (List Nat× List t.El)
 |0,_=>some ([],[])
 |n+1,cs=>(Fq h t.tys (cs.take t.sz)).bind λp=>(t.eA p.2).bind λx=>(iX h t n (cs.drop t.sz)).bind λq=>some (p.1++q.1,x::q.2)
def gx:List Nat->Bool
 |[]=>true
 |i::l=>cond (mem i l) false (gx l)
def Di (h:aF):List SV->Option Bool
 |[]=>some true
 |.own i::l=>(look h i).bind λb=>match b with
  |.arr none _ _=>Di h l
  |.arr (some _) _ _=>some false
  |.box _=>none
 |.r _ (.sl _ _)::_=>some false
 |.sub _ _ _::_=>some false
 |.bsl _ _::_=>some false
 |_::l=>Di h l
def Hd (h:aF) (t:Ty) (n:Nat) (cs:List SV):Option (Option (List Nat)× List Nat× List t.El):=
 (Di h cs).bind λb=>cond b ((iX h t n cs).bind λq=>cond (gx q.1) (some (none,q.1,q.2)) none) ((Iw h t n cs).bind λq=>some (some q.1,[],q.2))
def oZ (h:aF):SV->List Nat->List Nat
 |.own i,d=>match look h i with
  |some (.arr (some d') _ _)=>d'
  |_=>d
 |_,d=>d
def rH (h:aF) (t:Ty) (v:SV):Option (Option (List Nat)× List Nat× List t.El):=
 match v with
 |.bsl i n=>match look h i with
  |some (.box cs)=>(Hd h t n cs).bind λq=>some (q.1,i::q.2.1,q.2.2)
  |_=>none
 |_=>(v.list h t).bind λp=>cond (pg t) (some (none,[],p.2)) (some (some (oZ h v p.1),[],p.2))
def He (a b:Option (List Nat)):Option (Option (List Nat)):=
 match a,b with
 |none,none=>some none
 |some d,some d'=>some (some (d++d'))
 |some d,none=>some (some d)
 |none,some d=>some (some d)
def ph (P:Program) (T:TypeId):Bool:=
 match P.info? T with
 |some i=>Nat.ble i.bytes 512
 |none=>false
def PN (E:Env) (s:List (Nat× SV)) (h:aF) (T:TypeId) (a:Operand):Option SV:=
 cond E.inn (cond (Hc E.P T) (match opd s a with
  |some (.ptr i x o)=>match look h i with
   |some (.arr none t _)=>cond (Nat.ble (o+1) t.sz) (some (.inn i x o)) none
   |_=>none
  |_=>none) none) none
def PO {α:Type} (xs:List α) (x:Nat):List (Option α):=(xs.map some).set x none
def Dj {α:Type}:List (Option α)->Option (List α)
 |[]=>some []
 |none::_=>none
 |some x::l=>(Dj l).bind λl=>some (x::l)
def sG (n:Nat):List R->List SV
 |[]=>[]
 |.sl _ _::l=>.own n::sG (n+1) l
 |r::l=>.r [] r::sG n l
def lU:List R->List Blk
 |[]=>[]
 |.sl t ys::l=>.arr none t ys::lU l
 |_::l=>lU l
def PQ (P:Program) (s:List (Nat× SV)) (h:aF) (src dst:TypeId) (x:Operand):Option Nat:=
 cond (Nat.beq src dst&&vy P src) (match opd s x with
  |some (.own i)=>match look h i with
   |some (.arr _ _ (_::_))=>some i
   |_=>none
  |_=>none) none
def Fs (h:aF):SV->Option (Nat× Nat× Nat)
 |.sub i o n=>some (i,o,n)
 |.own i=>match look h i with
  |some (.arr _ _ xs)=>some (i,0,xs.length)
  |_=>none
 |_=>none
variable {ρ:Type}
def wi (P:Program) (T:TypeId) (h:aF) (i:Nat) (sh:Option (List Nat)) (t:Ty) (ys:List t.El) (k o:Nat) (x:SV) (K:CR->Option ρ):Option ρ:=
 x.cells.bind λxs=>(iV P T).bind λsz=>cond (Nat.beq sz xs.length&&Nat.ble (o+sz) t.sz) (
  match sh with
  |none=>(Fq h ((t.tys.drop o).take sz) xs).bind λp=>cond (gx (i::p.1)) (
    cond (Nat.beq sz t.sz)
     ((t.eA p.2).bind λy=>K {v:=.undef,upd:=[(i,.arr none t (ys.set k y))],gone:=p.1,lr:=[i]})
     ((ys[k]?).bind λe=>(t.eA ((t.cells e).take o++p.2++(t.cells e).drop (o+sz))).bind λy=>K {v:=.undef,upd:=[(i,.arr none t (ys.set k y))],gone:=p.1,lr:=[i]})) none
  |some d=>(JW h ((t.tys.drop o).take sz) xs).bind λp=>cond (mem i p.1) none (
    cond (Nat.beq sz t.sz)
     ((t.eA p.2).bind λy=>K {v:=.undef,upd:=[(i,.arr (some (d++p.1)) t (ys.set k y))],lr:=[i]})
     ((ys[k]?).bind λe=>(t.eA ((t.cells e).take o++p.2++(t.cells e).drop (o+sz))).bind λy=>K {v:=.undef,upd:=[(i,.arr (some (d++p.1)) t (ys.set k y))],lr:=[i]}))) none
def PR (P:Program) (T:TypeId):Bool:=
 match P.underlying T with
 |some (.int _)=>true
 |_=>false
def Rb (E:Env) (h:aF) (nid n sz:Nat) (t:Ty) (cs:List SV) (K:CR->Option ρ):Option ρ:=
 cond (E.lit&&Nat.beq t.sz sz) (match iX h t n cs with
  |some ([],xs)=>K {v:=.own nid,news:=[.arr none t xs]}
  |_=>K {v:=.bsl nid n,news:=[.box cs]}) (K {v:=.bsl nid n,news:=[.box cs]})
def Ft (E:Env) (h:aF) (nid:Nat) (e:TypeId) (sz:Nat) (t:Ty) (T':TypeId) (b x:SV) (K:CR->Option ρ):Option ρ:=
 match b with
 |.ch=>cond (PR E.P T'&&(ph E.P e&&Nat.beq t.sz sz)) (x.asI.bind λl=>(gl E.P e).bind λz=>(iX h t 1 z).bind λq=>cond (isNil q.1&&Nat.beq z.length sz) (match q.2 with
   |[y]=>cond (decide (1<=l/\l<=(aQ:Int))) (K {v:=.own nid,news:=[.arr none t (List.replicate l.toNat y)]}) none
   |_=>none) none) none
 |_=>none
def Fu (h:aF) (t:Ty) (b x:SV) (K:CR->Option ρ):Option ρ:=
 match b,x with
 |.sub i 0 a,.sub i' o n=>cond (Nat.beq i i') (match look h i with
  |some (.arr (some d) t' xs)=>if he:t'=t then cond (mem i d) none (cond (Nat.ble (a+n) xs.length&&(Nat.ble (o+n) xs.length&&Nat.ble 1 xs.length))
    (K {v:=.sub i 0 (a+n),upd:=[(i,.arr (some d) t ((he▸xs).take a++((he▸xs).drop o).take n++(he▸xs).drop (a+n)))],lr:=[i]}) none)else none
  |_=>none) none
 |_,_=>none
def PS (E:Env) (s:List (Nat× SV)) (h:aF) (nid:Nat) (T:TypeId) (a:Operand) (K:CR->Option ρ) (D:Option ρ):Option ρ:=
 cond E.tak (match opd s a with
  |some (.ptr i x 0)=>match look h i with
   |some (.arr none (.st st) xs)=>cond (pg (.st st)) D ((xs[x]?).bind λe=>(iw E.P T (sG nid (st.cells e))).bind λv=>
     K {v:=v,news:=lU (st.cells e),upd:=[(i,.arr none (.ho st) (PO xs x))],lr:=[i]})
   |_=>D
  |_=>D) D
def taken (E:Env):Operand->Bool
 |.tmp t=>mem t E.tkt
 |_=>false
def PT (E:Env) (s:List (Nat× SV)) (h:aF) (nid:Nat) (T:TypeId) (a:Operand) (K:CR->Option ρ) (D:Option ρ):Option ρ:=
  cond (taken E a) (match opd s a with
    | some (.ptr i x 0) => match look h i with
      |some (.arr none (.sl t) xs)=>(xs[x]?).bind λe=>(iw E.P T (sG nid ((Ty.sl t).cells e))).bind λv=>
          K {v:=v,news:=lU ((Ty.sl t).cells e),upd:=[(i,.arr none (.hl t) (PO xs x))],lr:=[i]}
      |_=>none
    |_=>none) D
def BA (E:Env) (s:List (Nat× SV)) (h:aF) (nid:Nat) (op:Op) (K:CR->Option ρ):Option ρ:=
  match op with
  |.alloc T=>(gl E.P T).bind λz=>K {v:=.ptr nid 0 0,news:=[.box z]}
  |.box _ x=>(opd s x).bind λv=>v.cells.bind λcs=>K {v:=.ptr nid 0 0,news:=[.box cs]}
  | .buildSlice T n parts =>
    (lT E.P T).bind λe=>(iV E.P e).bind λsz=>(rn s parts.toList).bind λps=>(gl E.P e).bind λz=>
      cond (Nat.ble (n*sz) 16777216&&Nat.beq z.length sz) ((pe (λi=>some (i*sz,sz)) (List.replicate (n*sz) .undef) ps).bind λcs=>
        match E.tt e with
        |none=>K {v:=.bsl nid n,news:=[.box cs]}
        |some t=>cond ((pg t||Nat.beq n 0)&&Nat.beq t.sz sz) ((iX h t n cs).bind λx=>cond (isNil x.1) (K {v:=.own nid,news:=[.arr none t x.2]}) none) (Rb E h nid n sz t cs K)) none
  | .makeSlice T l c =>
    (lT E.P T).bind λe=>(iV E.P e).bind λsz=>(E.tt e).bind λt=>(gl E.P e).bind λz=>(opd s l).bind λl=>(opd s c).bind λc=>l.asI.bind λl=>c.asI.bind λc=>
      cond (ph E.P e&&Nat.beq t.sz sz) ((iX h t 1 z).bind λx=>cond (isNil x.1&&Nat.beq z.length sz) (match x.2 with
        |[y]=>cond (decide (0<=l/\l<=c/\c<=(aQ:Int))) (K {v:=.own nid,news:=[.arr none t (List.replicate l.toNat y)]}) none
        |_=>none) none) none
  | .call { callee := .builtin .append, args, argTypes } => (rG s args.toList).bind λ vs => match vs, argTypes.toList with
    | [b, x], [T, T'] => (lT E.P T).bind λ e => (iV E.P e).bind λ sz => (E.tt e).bind λ t => cond (ph E.P e && (Nat.beq t.sz sz && Nat.beq T T')) ((gl E.P e).bind λ z => cond (Nat.beq z.length sz)
      ((rH h t x).bind λy=>match b with
        |.ch=>cond (hit y.2.1 (y.1.getD [])) none (cond (Nat.ble y.2.2.length aQ) (K {v:=.own nid,news:=[.arr y.1 t y.2.2],gone:=y.2.1}) none)
        | .own i => match look h i with
          | some (.arr sh t' xs) => if he : t' = t then
              (He sh y.1).bind λsh'=>cond (mem i y.2.1) none (cond (hit (i::y.2.1) (sh'.getD [])) none (cond (Nat.ble (xs.length+y.2.2.length) aQ) (K {v:=.own nid,news:=[.arr sh' t ((he▸xs)++y.2.2)],gone:=i::y.2.1}) none))
            else none
          |_=>none
        |b=>Fu h t b x K) none) (Ft E h nid e sz t T' b x K)
    |_,_=>none
  | .call { callee := .builtin .clear, args, argTypes } => (rG s args.toList).bind λ vs => match vs, argTypes.toList with
    | [v], [T] => (lT E.P T).bind λ e => (gl E.P e).bind λ z => (Fs h v).bind λ p => match look h p.1 with
      | some (.arr sh t xs) => cond (Nat.beq z.length t.sz) ((iX h t 1 z).bind λ x => cond (isNil x.1) (match x.2 with
        |[y]=>K {v:=.undef,upd:=[(p.1,.arr sh t (xs.take p.2.1++List.replicate p.2.2 y++xs.drop (p.2.1+p.2.2)))],lr:=[p.1]}
        |_=>none) none) none
      |_=>none
    |_,_=>none
  | .store T a x => (opd s a).bind λ a => (opd s x).bind λ x => match a with
    | .ptr i k o => match look h i with
      |some (.box cs)=>cond (Nat.beq k 0) (x.cells.bind λxs=>(iV E.P T).bind λsz=>cond (Nat.beq sz xs.length) ((setCells cs o xs).bind λcs=>K {v:=.undef,upd:=[(i,.box cs)]}) none) none
      |some (.arr sh t ys)=>wi E.P T h i sh t ys k o x K
      |_=>none
    |_=>none
  | .call { callee := .value f, args, .. } => (opd s f).bind λ f => (rG s args.toList).bind λ vs => match f with
    |.fn (.func g) first cap=>E.orc g ρ nid (first++vs++cap) h K
    |_=>none
  | .load T a => PT E s h nid T a K (match PN E s h T a with
    |some v=>K {v:=v}
    |none=>PS E s h nid T a K (nP E.P s h (.load T a) λv=>K {v:=v}))
  | .convert src dst x => match PQ E.P s h src dst x with
    |some i=>K {v:=.own i}
    |none=>nP E.P s h (.convert src dst x) λv=>K {v:=v}
  |op=>nP E.P s h op λv=>K {v:=v}
noncomputable def both (x y:Option ρ):Option ρ:=open Classical in if x=y then x else none
def Hf:Op->Option (TypeId× Operand× Bool)
 |.binOp .eql T x (.const (.slice none 0 0)) _=>some (T,x,true)
 |.binOp .neq T x (.const (.slice none 0 0)) _=>some (T,x,false)
 |_=>none
noncomputable def QL (h:aF) (v:SV) (K:Bool->Option ρ):Option ρ:=
 match v with
 |.ch=>K true
 |.r _ (.sl _ xs)=>cond (isNil xs) (both (K true) (K false)) (K false)
 |.own i=>match look h i with
  |some (.arr _ _ xs)=>cond (isNil xs) (both (K true) (K false)) (K false)
  |_=>none
 |_=>none
noncomputable def PB (E:Env) (o:Oper) (st:St) (K:St->Option ρ):Option ρ:=
 match Hf o.op with
 |some (T,x,e)=>cond (Hc E.P T) ((opd st.cy x).bind λv=>QL st.heap v λb=>(st.take o.dst {v:=.b (cond b e (!e))}).bind K) none
 |none=>BA E st.cy st.heap st.nid o.op λc=>(st.take o.dst c).bind K
def Oo (ops:List Oper) (j:Nat):Option Tmp:=(ops[j]?).bind (·.dst)
def Dk (o:Oper) (st:St) (K:St->Option ρ):Option ρ:=
 (PM st.cy st.n o.dst (.tup [])).bind λs=>K {st with cy:=s}
noncomputable def BB (E:Env) (all:List Oper):List Oper->St->(St->Option ρ)->Option ρ
  |[],st,K=>K st
  | o :: rest, st, K =>
    match o.guard with
    |none=>PB E o st λst=>BB E all rest st K
    | some (j, want) => (Oo all j).bind λ t => (look st.cy t).bind λ v => match v with
      |.tup []=>Dk o st λst=>BB E all rest st K
      | v => v.asB.bind λ b =>
        cond b
          (cond want (PB E o {st with cy:=put st.cy t (.b true)} λst=>BB E all rest st K)
            (Dk o {st with cy:=put st.cy t (.b true)} λst=>BB E all rest st K))
          (cond want (Dk o {st with cy:=put st.cy t (.b false)} λst=>BB E all rest st K)
            (PB E o {st with cy:=put st.cy t (.b false)} λst=>BB E all rest st K))
def after (H:aF) (nid:Nat) (c:CR):Option aF:=
 (iv c.kil (rp c.upd H)).bind λh=>some (h++aJ nid c.news)
structure DR where
 dst:Option Tmp
 n0:Nat
 c:CR
 see:List Nat
 MA:List SV:=[]
 len:Bool:=false
abbrev SH:=List (Nat× SV)× aF
def Hg (s:List (Nat× SV)) (dst:Option Tmp) (v:SV):List (Nat× SV):=
 match dst with
 |some t=>put s t v
 |none=>s
def Ix:aF->Nat->Blk->aF
 |[],_,_=>[]
 |(k,u)::l,n,b=>cond (Nat.beq k n) ((k,b)::l) ((k,u)::Ix l n b)
def jb:aF->aF->aF
 |[],h=>h
 |(k,b)::l,h=>jb l (Ix h k b)
def DR.app (r:DR) (x:SH):Option SH:=
 (iv r.c.kil (jb r.c.upd x.2)).bind λh=>some (Hg (nO r.c.kil x.1) r.dst r.c.v,h++aJ r.n0 r.c.news)
def replay (p:Nat->Bool):Nat->List DR->SH->Option SH
 |_,[],x=>some x
 |j,r::l,x=>cond (p j) ((r.app x).bind λx=>replay p (j+1) l x) (replay p (j+1) l x)
def uf (n:Nat):List Edge->Bool
 |[]=>true
 |e::l=>cond (Region.binds .any e) (cond (Nat.ble (e.on+1) n) (uf n l) false) (uf n l)
def Dl (masks:List Nat):List Edge->Nat
 |[]=>0
 |e::l=>cond (Region.binds .any e) ((masks.getD e.on 0||| 2^e.on)||| Dl masks l) (Dl masks l)
def wW:List Nat->List Oper->Option (List Nat)
 |acc,[]=>some acc
 |acc,o::l=>cond (uf acc.length o.after.toList) (wW (acc++[Dl acc o.after.toList]) l) none
def iY:List Oper->List Nat
 |[]=>[]
 |o::l=>match o.dst with
  |some t=>t::iY l
  |none=>iY l
def MB (masks:List Nat) (i:Nat):Nat->List Oper->List Nat
 |_,[]=>[]
 |j,o::l=>cond ((masks.getD j 0).testBit i) (MB masks i (j+1) l) (match o.dst with
  |some t=>t::MB masks i (j+1) l
  |none=>MB masks i (j+1) l)
def Iy (n:Nat):List Nat->Bool
 |[]=>true
 |i::l=>cond (Nat.ble (i+1) n) (Iy n l) false
def eJ:List Operand->List Nat
 |[]=>[]
 |.tmp t::l=>t::eJ l
 |_::l=>eJ l
def m9 (T:List Nat) (s:List (Nat× SV)):List Nat->List (Nat× SV)
 |[]=>[]
 |t::l=>cond (mem t T) (m9 T s l) (match look s t with
  |some v=>(t,v)::m9 T s l
  |none=>m9 T s l)
def lX (E:Env):Op->Bool
 |.store _ _ _=>true
 |.load _ _=>E.tak
 |.call {callee:=.builtin .len,.. }|.call {callee:=.builtin .cap,.. }|.call {callee:=.builtin .min,.. }|.call {callee:=.builtin .max,.. }=>false
 |.call {callee:=.builtin _,.. }=>true
 |.call {callee:=.value (.func g),.. }=>E.wr g
 |.call {callee:=.value _,.. }=>E.wt
 |.call _=>false
 |_=>false
def PU (masks:List Nat) (i j:Nat):Bool:=Nat.beq i j||((masks.getD i 0).testBit j||(masks.getD j 0).testBit i)
def vz (E:Env) (masks:List Nat) (i:Nat):Nat->List Oper->Bool
 |_,[]=>false
 |j,o::l=>cond (lX E o.op) (cond (PU masks i j) (vz E masks i (j+1) l) true) (vz E masks i (j+1) l)
def BC (s:List (Nat× SV)):List Nat->List SV
 |[]=>[]
 |t::l=>match look s t with
  |some v=>v::BC s l
  |none=>BC s l
def vA (h:aF):List Nat->aF
 |[]=>[]
 |i::l=>match look h i with
  |some b=>(i,b)::vA h l
  |none=>vA h l
def Oq:Op->Bool
 |.move _=>true
 |.assign _=>true
 |.extract _ _=>true
 |.nilCheck _=>true
 |.fieldAddr _ _ _=>true
 |_=>false
def PV:Op->Bool
 |.load _ _=>true
 |_=>false
def QM (E:Env) (masks:List Nat) (i:Nat) (ops:List Oper) (x:SH) (o:Oper):List Nat:=
 cond (vz E masks i 0 ops&&!Oq o.op) (reach x.2 (cond (PV o.op) 0 3) (oX [] (Iu (BC x.1 (eJ o.op.operands.toList))))) []
def Iz (E:Env) (masks:List Nat) (i:Nat) (ops:List Oper) (x:SH) (o:Oper):aF:=
 cond (vz E masks i 0 ops) (vA x.2 (QM E masks i ops x o)) x.2
def MC (L:List Nat):aF->Bool
 |[]=>false
 |(k,_)::l=>cond (mem k L) true (MC L l)
def okW (E:Env) (op:Op) (c:CR):Bool:=cond (lX E op) true (isNil c.kil.2&&isNil c.upd)
mutual
def SV.JZ (T:Kil):SV->Bool
 |.r d _=>!hit T.2 d
 |.own i=>!mem i T.1
 |.sub i _ _=>!mem i T.1
 |.bsl i _=>!mem i T.1
 |.ptr i _ _=>!mem i T.1
 |.inn i _ _=>!(mem i T.1||mem i T.2)
 |.kt d _=>!hit T.2 d
 |.agg cs=>wX T cs
 |.tup cs=>wX T cs
 |.fn _ a b=>wX T a&&wX T b
 |.ch=>true
 |.pd=>true
 |.undef=>true
def wX (T:Kil):List SV->Bool
 |[]=>true
 |v::l=>v.JZ T&&wX T l
end
def Blk.JZ (T:Kil):Blk->Bool
 |.box cs=>wX T cs
 |.arr (some d) _ _=>!hit T.2 d
 |.arr none _ _=>true
def Ke (k:Nat) (B:Blk):List DR->Bool
 |[]=>true
 |r::l=>cond ((look r.c.upd k).isNone&&(!mem k r.c.kil.1&&B.JZ r.c.kil)) (Ke k B l) false
def Qy (h:aF) (rs:List DR):List Nat->Bool
 |[]=>true
 |k::l=>match look h k with
  |some B=>cond (Ke k B rs) (Qy h rs l) false
  |none=>false
def fD (cm:DR->Bool) (r:DR):Bool:=isNil r.c.kil.2&&(isNil r.c.upd&&(isNil r.c.news&&cm r))
def IA (b a:DR):Bool:=a.c.v.JZ b.c.kil&&wX b.c.kil a.MA
def PW (b:DR):aF->Bool
 |[]=>true
 |(k,_)::l=>cond (Nat.ble (k+1) b.n0||Nat.ble (b.n0+b.c.news.length) k) (PW b l) false
def Fv (a b:DR):Bool:=(isNil a.c.kil.2&&isNil b.c.kil.2)&&((isNil b.c.upd&&PW b a.c.upd)||(isNil a.c.upd&&PW a b.c.upd))&&(!(MC b.see a.c.upd)&&!(MC a.see b.c.upd))
def rh (cm:DR->Bool) (a b:DR):Bool:=Fv a b||((IA b a&&fD cm a)||(IA a b&&fD cm b))
def wY (cm:DR->Bool) (masks:List Nat) (i:Nat) (r:DR):Nat->List DR->Bool
 |_,[]=>true
 |j,b::l=>cond ((masks.getD j 0).testBit i) (wY cm masks i r (j+1) l) (cond (rh cm r b) (wY cm masks i r (j+1) l) false)
def Ad (cm:DR->Bool) (masks:List Nat):Nat->List DR->Bool
 |_,[]=>true
 |i,r::l=>cond (wY cm masks i r (i+1) l) (Ad cm masks (i+1) l) false
def Ot:List DR->Nat->SV->List DR
 |[],_,_=>[]
 |r::l,0,v=>{r with c:={r.c with v:=v}}::l
 |r::l,n+1,v=>r::Ot l n v
def PX:Op->Bool
 |.indexAddr _ _ _=>true
 |_=>false
def PY (h:aF):List Nat->Bool
 |[]=>true
 |i::l=>cond (look h i).isSome (PY h l) false
def Dm (x:SH) (o:Oper):List Nat:=oX [] (Iu (BC x.1 (eJ o.op.operands.toList)))
def Kf (E:Env) (h0:aF) (x:SH) (o:Oper):Bool:=E.swp&&(PX o.op&&PY h0 (Dm x o))
def Kg (E:Env) (masks:List Nat) (i:Nat) (ops:List Oper) (h0:aF) (x:SH) (o:Oper):aF:=cond (Kf E h0 x o) (vA h0 (Dm x o)) (Iz E masks i ops x o)
def Qz (E:Env) (masks:List Nat) (i:Nat) (ops:List Oper) (h0:aF) (x:SH) (o:Oper):List Nat:=cond (Kf E h0 x o) (Dm x o) (QM E masks i ops x o)
def Ou (E:Env) (masks:List Nat) (i:Nat) (ops:List Oper) (h0:aF) (x:SH) (o:Oper) (nid:Nat) (c:CR):DR:=⟨o.dst,nid,c,Qz E masks i ops h0 x o,BC x.1 (eJ o.op.operands.toList),Kf E h0 x o⟩
def o4 (E:Env) (ops:List Oper) (masks dsts:List Nat) (s0:List (Nat× SV)) (h0:aF):Nat->List Oper->Nat->List DR->(List DR->Nat->Option ρ)->Option ρ
  |_,[],nid,rs,K=>K rs nid
  | i, o :: rest, nid, rs, K =>
    (replay (Nat.testBit (masks.getD i 0)) 0 rs (m9 (MB masks i 0 ops) s0 (eJ o.op.operands.toList),h0)).bind λx=>
    match o.guard with
    |none=>BA E (m9 [] x.1 (eJ o.op.operands.toList)) (Kg E masks i ops h0 x o) nid o.op λc=>cond (okW E o.op c) (o4 E ops masks dsts s0 h0 (i+1) rest (nid+c.news.length) (rs++[Ou E masks i ops h0 x o nid c]) K) none
    | some (g, want) => cond (Nat.testBit (masks.getD i 0) g) ((rs[g]?).bind λ r => r.dst.bind λ _ => match r.c.v with
      |.tup []=>o4 E ops masks dsts s0 h0 (i+1) rest nid (rs++[⟨o.dst,nid,{v:=.tup []},[],[],false⟩]) K
      | .r [] (.bool b) => cond b
        (cond want
          (BA E (m9 [] x.1 (eJ o.op.operands.toList)) (Kg E masks i ops h0 x o) nid o.op λc=>cond (okW E o.op c) (o4 E ops masks dsts s0 h0 (i+1) rest (nid+c.news.length) (Ot rs g (.b true)++[Ou E masks i ops h0 x o nid c]) K) none)
          (o4 E ops masks dsts s0 h0 (i+1) rest nid (Ot rs g (.b true)++[⟨o.dst,nid,{v:=.tup []},[],[],false⟩]) K))
        (cond want
          (o4 E ops masks dsts s0 h0 (i+1) rest nid (Ot rs g (.b false)++[⟨o.dst,nid,{v:=.tup []},[],[],false⟩]) K)
          (BA E (m9 [] x.1 (eJ o.op.operands.toList)) (Kg E masks i ops h0 x o) nid o.op λc=>cond (okW E o.op c) (o4 E ops masks dsts s0 h0 (i+1) rest (nid+c.news.length) (Ot rs g (.b false)++[Ou E masks i ops h0 x o nid c]) K) none))
      |_=>none) none
def wZ:List Nat->List Nat->Bool
 |[],_=>true
 |i::l,T=>cond (mem i T) false (wZ l T)
def BD (L:List Nat):List DR->Bool
 |[]=>true
 |r::l=>cond (wZ L r.c.kil.1) (BD L l) false
def zD (h:aF) (rs:List DR) (r:DR):Bool:=cond r.len (BD r.see rs) (Qy h rs r.see)
def Ae (cm:DR->Bool):List DR->Bool
 |[]=>true
 |r::l=>cond (!r.len||fD cm r) (Ae cm l) false
def Fw (E:Env) (ops:List Oper) (st:St) (K:St->Option ρ):Option ρ:=
  cond (E.P.follows .mixedOrders) ((wW [] ops).bind λmasks=>
    cond (gx (iY ops)) (cond (Iy st.n (iY ops))
      (o4 E ops masks (iY ops) st.cy st.heap 0 ops st.nid [] λrs nid=>cond (Ad (zD st.heap rs) masks 0 rs&&Ae (zD st.heap rs) rs)
        ((replay (λ_=>true) 0 rs (st.cy,st.heap)).bind λx=>K {st with cy:=x.1,heap:=x.2,nid:=nid}) none) none) none) none
inductive Ex where
 |normal
 |exit (id:Nat)
 |ret
def refine(c:Operand) (b:Bool) (st:St):St:=
 match c with
 |.tmp t=>{st with cy:=put st.cy t (.b b)}
 |_=>st
abbrev Ev (ρ:Type):=St->(Ex->St->Option ρ)->Option ρ
def inBlock (id:Nat) (K:Ex->St->Option ρ):Ex->St->Option ρ
 |.exit j,st=>cond (Nat.beq j id) (K .normal st) (K (.exit j) st)
 |e,st=>K e st
def Mp (i:Nat):List Nat->List Nat
 |[]=>[]
 |k::l=>cond (Nat.beq k i) (Mp i l) (k::Mp i l)
def Hh (i:Nat) (t:Ty) (h:aF) (v:SV):SV:=
 match v.list h t with
 |some p=>.r (Mp i p.1) (.sl t p.2)
 |none=>.undef
mutual
def SV.frz (i:Nat) (t:Ty) (h:aF):SV->SV
 |.r d x=>.r (Mp i d) x
 |.own j=>cond (Nat.beq j i) (Hh i t h (.own j)) (.own j)
 |.sub j o n=>cond (Nat.beq j i) (Hh i t h (.sub j o n)) (.sub j o n)
 |.bsl j n=>cond (Nat.beq j i) .undef (.bsl j n)
 |.ptr j x o=>cond (Nat.beq j i) .undef (.ptr j x o)
 |.inn j x c=>cond (Nat.beq j i) .undef (.inn j x c)
 |.kt d cs=>.kt (Mp i d) cs
 |.agg cs=>.agg (C7 i t h cs)
 |.tup cs=>.tup (C7 i t h cs)
 |.fn f a b=>.fn f (C7 i t h a) (C7 i t h b)
 |.ch=>.ch
 |.pd=>.pd
 |.undef=>.undef
def C7 (i:Nat) (t:Ty) (h:aF):List SV->List SV
 |[]=>[]
 |v::l=>v.frz i t h::C7 i t h l
end
def Blk.frz (i:Nat) (t:Ty) (h:aF):Blk->Blk
 |.box cs=>.box (C7 i t h cs)
 |.arr none t' xs=>.arr none t' xs
 |.arr (some d) t' xs=>.arr (some (Mp i d)) t' xs
def Fx (i:Nat) (t:Ty) (h:aF):aF->aF
 |[]=>[]
 |(k,b)::l=>cond (Nat.beq k i) (Fx i t h l) ((k,b.frz i t h)::Fx i t h l)
def IB (i:Nat) (t:Ty) (h:aF):List (Nat× SV)->List (Nat× SV)
 |[]=>[]
 |(k,v)::l=>(k,v.frz i t h)::IB i t h l
def QN (i:Nat) (st:St):St:=
 match look st.heap i with
 |some (.arr _ t _)=>{st with cy:=IB i t st.heap st.cy,heap:=Fx i t st.heap st.heap}
 |_=>st
def PZ (h:aF):SV->List Nat->Option Nat
 |.own i,[]=>some i
 |.sub i _ _,[]=>some i
 |.agg cs,j::p=>match cs[j]? with
  |some v=>PZ h v p
  |none=>none
 |.tup cs,j::p=>match cs[j]? with
  |some v=>PZ h v p
  |none=>none
 |.ptr i 0 o,j::p=>match look h i with
  |some (.box cs)=>match cs[o+j]? with
   |some v=>PZ h v p
   |none=>none
  |_=>none
 |.bsl i _,j::p=>match look h i with
  |some (.box cs)=>match cs[j]? with
   |some v=>PZ h v p
   |none=>none
  |_=>none
 |_,_=>none
termination_by structural _ p=>p
def QO (i:Nat) (st:St):St:=
 match look st.heap i with
 |some (.arr none t xs)=>{st with heap:=put st.heap i (.arr (some []) t xs)}
 |_=>st
def N0 (st:St) (x:Bool× Nat× List Nat):St:=
 match look st.cy x.2.1 with
 |some v=>match PZ st.heap v x.2.2 with
  |some i=>cond x.1 (QO i st) (QN i st)
  |none=>st
 |none=>st
def Hi:List (Bool× Nat× List Nat)->St->St
 |[],st=>st
 |x::l,st=>Hi l (N0 st x)
def Blk.Kh (b:Blk) (K:Blk->Option ρ):Option ρ:=
 match b with
 |.arr none (.ho s) zs=>(Dj zs).bind λxs=>K (.arr none (.st s) xs)
 |.arr none (.hl t) zs=>(Dj zs).bind λxs=>K (.arr none (.sl t) xs)
 |b=>K b
def Ki:aF->(aF->Option ρ)->Option ρ
 |[],K=>K []
 |(k,b)::l,K=>b.Kh λb=>Ki l λl=>K ((k,b)::l)
def Hj (E:Env) (K:St->Option ρ) (st:St):Option ρ:=cond E.tak (Ki st.heap λh=>K {st with heap:=h}) (K st)
noncomputable def ev (E:Env) (LP:Nat->Ev ρ->Ev ρ) (cb:Nat):Code->Ev ρ
 |.skip,st,K=>K .normal st
 |.label _,st,K=>K .normal st
 |.region id ops false,st,K=>BB E ops.toList ops.toList (Kd (E.wk id) (Hi (E.fz id) st)) (Hj E (K .normal))
 |.region id ops true,st,K=>Fw E ops.toList (Kd (E.wk id) (Hi (E.fz id) st)) (Hj E (K .normal))
 |.seq a b,st,K=>ev E LP cb a st λe st=>match e with
  |.normal=>ev E LP cb b st K
  |e=>K e st
 |.cond c t f,st,K=>(opd st.cy c).bind λv=>v.asB.bind λb=>cond b (ev E LP cb t (refine c true st) K) (ev E LP cb f (refine c false st) K)
 |.block id c,st,K=>ev E LP id c st (inBlock id K)
 |.loop c,st,K=>LP cb (λst K=>ev E LP cb c st K) st K
 |.exit id,st,K=>K (.exit id) st
 |.scope c,st,K=>ev E LP cb c st K
 |.ret,st,K=>K .ret st
 |_,_,_=>none
def Ov (body:Ev ρ):Nat->Ev ρ
 |0,_,_=>none
 |n+1,st,K=>body st λe st=>match e with
  |.normal=>Ov body n st K
  |e=>K e st
end
section
def Ext {α:Type} (s s':List (Nat× α)):Prop:=∀t v,look s t=some v->look s' t=some v
theorem Ext.rfl' {α:Type} {s:List (Nat× α)}:Ext s s:=λ_ _ h=>h
def Le {α:Type} (x y:Option α):Prop:=∀a,x=some a->y=some a
theorem Le.refl {α:Type} (x:Option α):Le x x:=λ_ h=>h
theorem Le.bind {α β:Type} {x y:Option α} {f g:α->Option β} (h:Le x y) (hf:∀a,Le (f a) (g a)):Le (x.bind f) (y.bind g):=by
 intro b hb;rw[An]at hb⊢;obtain⟨a,h1,h2⟩:=hb;exact⟨a,h a h1,hf a b h2⟩
theorem Le.cond {α:Type} {b:Bool} {x y x' y':Option α} (h:Le x x') (h':Le y y'):Le (cond b x y) (cond b x' y'):=by cases b<;>assumption
theorem Le.none {α:Type} {y:Option α}:Le Option.none y:=λ_ h=>nomatch h
section
variable {s s':List (Nat× SV)} {h h':aF} {P:Program}
theorem Ow (hh:Ext h h') (i:Nat):Le (look h i) (look h' i):=λ_=>hh i _
theorem cZ (hs:Ext s s') (x:Operand):Le (opd s x) (opd s' x):=by
 cases x with
 |tmp t=>exactλv hv=>hs t v hv
 |_=>exact Le.refl _
theorem jc (hs:Ext s s'):(l:List Operand)->Le (rG s l) (rG s' l)
 |[]=>Le.refl _
 |x::l=>(cZ hs x).bind λ_=>(jc hs l).bind λ_=>Le.refl _
theorem Fy (hs:Ext s s') (x:Option Operand):Le (Mo s x) (Mo s' x):=by
 cases x with
 |none=>exact Le.refl _
 |some x=>exact(cZ hs x).bind λ_=>Le.refl _
theorem pj (hs:Ext s s'):(l:List (Nat× Operand))->Le (rn s l) (rn s' l)
 |[]=>Le.refl _
 |(_,x)::l=>(cZ hs x).bind λ_=>(pj hs l).bind λ_=>Le.refl _
theorem IC (hh:Ext h h') (v:SV):Le (lq h v) (lq h' v):=by
 cases v<;>try exact Le.refl _
 rename_i i x o;intro cs hcs;simp only[lq]at hcs⊢
 cases hl:look h i with
 |none=>rw[hl]at hcs;exact nomatch hcs
 |some B=>rw[hl]at hcs;rw[hh i B hl];exact hcs
theorem MD (hh:Ext h h') (v:SV):Le (lenOf h v) (lenOf h' v):=by
 intro n hn
 cases v with
 |own i=>
  simp only[lenOf]at hn⊢
  cases hl:look h i with
  |none=>rw[hl]at hn;exact nomatch hn
  |some B=>rw[hl]at hn;rw[hh i B hl];exact hn
 |r d x=>cases x<;>exact hn
 |_=>exact hn
theorem ID (hh:Ext h h') (T:TypeId) (v:SV) (lo hi:Option SV):Le (ja P T h v lo hi) (ja P T h' v lo hi):=by
 intro cs hcs
 cases v with
 |own i=>
  simp only[ja]at hcs⊢
  cases hl:look h i with
  |none=>rw[hl]at hcs;exact nomatch hcs
  |some B=>rw[hl]at hcs;rw[hh i B hl];exact hcs
 |sub i o n=>
  simp only[ja]at hcs⊢
  cases hl:look h i with
  |none=>rw[hl]at hcs;exact nomatch hcs
  |some B=>rw[hl]at hcs;rw[hh i B hl];exact hcs
 |r d x=>cases x<;>exact hcs
 |_=>exact hcs
theorem zG (hh:Ext h h') (T:TypeId) (v:SV) (k:Int):Le (bP P T h v k) (bP P T h' v k):=by
 intro cs hcs
 cases v with
 |own i=>
  simp only[bP]at hcs⊢
  cases hl:look h i with
  |none=>rw[hl]at hcs;exact nomatch hcs
  |some B=>rw[hl]at hcs;rw[hh i B hl];exact hcs
 |sub i o n=>
  simp only[bP]at hcs⊢
  cases hl:look h i with
  |none=>rw[hl]at hcs;exact nomatch hcs
  |some B=>rw[hl]at hcs;rw[hh i B hl];exact hcs
 |r d x=>cases x<;>exact hcs
 |_=>exact hcs
theorem Fz (hh:Ext h h') (t:Ty) (v:SV):Le (v.list h t) (v.list h' t):=by
 intro p hp
 cases v<;>try exact hp
 all_goals
  simp only[SV.list]at hp⊢;split at hp
  ·rename_i hl;rw[hh _ _ hl];exact hp
  ·exact nomatch hp
theorem P0 (hh:Ext h h') (T:TypeId) (x:SV):Le (slN P T h x) (slN P T h' x):=by
 intro n hn
 cases x with
 |own i=>
  simp only[slN]at hn⊢
  cases hl:look h i with
  |none=>rw[hl]at hn;exact nomatch hn
  |some B=>rw[hl]at hn;rw[hh i B hl];exact hn
 |r d x=>cases x<;>exact hn
 |_=>exact hn
theorem ug (hs:Ext s s') (hh:Ext h h') (op:Op):Le (gq P s h op) (gq P s' h' op):=by
 intro v hv;unfold gq at hv;split at hv<;>simp only[gq]
 ·exact cZ hs _ v hv
 ·exact cZ hs _ v hv
 ·revert hv;exact((cZ hs _).bind λc=>(Le.refl _).bind λb=>Le.cond (cZ hs _) (cZ hs _)) v
 ·revert hv
  split
  ·exact((Le.refl _).bind λ_=>(Le.refl _).bind λ_=>(pj hs _).bind λ_=>Le.refl _) v
  ·exactλh=>nomatch h
 ·exact((cZ hs _).bind λa=>(IC hh a).bind λ_=>Le.refl _) v hv
 ·exact((cZ hs _).bind λa=>Le.refl _) v hv
 ·exact((cZ hs _).bind λa=>(cZ hs _).bind λ_=>Le.refl _) v hv
 ·exact((cZ hs _).bind λa=>Le.refl _) v hv
 ·exact((cZ hs _).bind λa=>Le.cond ((Fz hh _ _).bind λ_=>Le.refl _) (Le.refl _)) v hv
 ·exact((jc hs _).bind λa=>(jc hs _).bind λ_=>Le.refl _) v hv
 ·exact((cZ hs _).bind λa=>(Fy hs _).bind λ_=>(Fy hs _).bind λ_=>ID hh _ _ _ _) v hv
 ·exact((cZ hs _).bind λa=>(Fy hs _).bind λ_=>(cZ hs _).bind λ_=>(cZ hs _).bind λ_=>(P0 hh _ _).bind λ_=>Le.refl _) v hv
 ·exact((cZ hs _).bind λa=>Le.refl _) v hv
 ·exact((cZ hs _).bind λa=>Le.refl _) v hv
 ·exact((cZ hs _).bind λa=>(cZ hs _).bind λ_=>(Le.refl _).bind λ_=>zG hh _ _ _) v hv
 ·exact((cZ hs _).bind λa=>(cZ hs _).bind λ_=>Le.refl _) v hv
 ·exact((cZ hs _).bind λa=>Le.refl _) v hv
 ·refine((jc hs _).bind λvs=>?_) v hv;split
  ·exact Le.cond ((MD hh _).bind λ_=>Le.refl _) (Le.refl _)
  ·exact Le.refl _
 ·exact((jc hs _).bind λa=>Le.refl _) v hv
 ·exact((jc hs _).bind λa=>Le.refl _) v hv
 ·exact((jc hs _).bind λa=>Le.refl _) v hv
 ·exact nomatch hv
theorem Dn (hh:Ext h h') (t:Ty) (v:SV):Le (v.asR h t) (v.asR h' t):=by
 cases t with
 |sl t=>exact(Fz hh t v).bind λ_=>Le.refl _
 |_=>exact Le.refl _
theorem FA (hh:Ext h h'):(ts:List Ty)->(vs:List SV)->Le (JW h ts vs) (JW h' ts vs)
 |[],[]=>Le.refl _
 |t::ts,v::vs=>(Dn hh t v).bind λ_=>(FA hh ts vs).bind λ_=>Le.refl _
 |[],_::_=>Le.refl _
 |_::_,[]=>Le.refl _
theorem Ox (hh:Ext h h') (t:Ty) (vs:List SV):Le (Qw h t vs) (Qw h' t vs):=(FA hh _ _).bind λ_=>Le.refl _
theorem Hk (hh:Ext h h') (t:Ty):(n:Nat)->(c:List SV)->Le (Iw h t n c) (Iw h' t n c)
 |0,_=>Le.refl _
 |n+1,_=>(Ox hh t _).bind λ_=>(Hk hh t n _).bind λ_=>Le.refl _
theorem BF (hh:Ext h h') (t:Ty) (v:SV):Le (v.JY h t) (v.JY h' t):=by
 intro p hp
 cases t with
 |sl t=>
  cases v with
  |own i=>
   simp only[SV.JY]at hp⊢
   cases hl:look h i with
   |none=>rw[hl]at hp;exact nomatch hp
   |some B=>rw[hl]at hp;rw[hh i B hl];exact hp
  |_=>exact hp
 |_=>exact hp
theorem Hl (hh:Ext h h'):(ts:List Ty)->(vs:List SV)->Le (Fq h ts vs) (Fq h' ts vs)
 |[],[]=>Le.refl _
 |t::ts,v::vs=>(BF hh t v).bind λ_=>(Hl hh ts vs).bind λ_=>Le.refl _
 |[],_::_=>Le.refl _
 |_::_,[]=>Le.refl _
theorem lu (hh:Ext h h') (t:Ty):(n:Nat)->(c:List SV)->Le (iX h t n c) (iX h' t n c)
 |0,_=>Le.refl _
 |n+1,_=>(Hl hh _ _).bind λ_=>(Le.refl _).bind λ_=>(lu hh t n _).bind λ_=>Le.refl _
theorem Dp (hh:Ext h h'):(c:List SV)->Le (Di h c) (Di h' c)
 |[]=>Le.refl _
 |v::l=>by
  have ih:=Dp hh l
  cases v with
  |own i=>
   refine(Ow hh i).bind λb=>?_
   cases b with
   |box _=>exact Le.refl _
   |arr sh _ _=>cases sh with
    |none=>exact ih
    |some _=>exact Le.refl _
  |r d x=>cases x with
   |sl _ _=>exact Le.refl _
   |_=>exact ih
  |sub _ _ _=>exact Le.refl _
  |bsl _ _=>exact Le.refl _
  |_=>exact ih
theorem Kj (hh:Ext h h') (t:Ty) (n:Nat) (c:List SV):Le (Hd h t n c) (Hd h' t n c):=
 (Dp hh c).bind λb=>Le.cond ((lu hh t n c).bind λ_=>Le.refl _) ((Hk hh t n c).bind λ_=>Le.refl _)
theorem Af (hh:Ext h h') (t:Ty) (v:SV):Le (rH h t v) (rH h' t v):=by
 have ind:∀(v:SV) (p:List Nat× List t.El),v.list h t=some p->oZ h' v p.1=oZ h v p.1:=λv p hp=>by
  cases v with
  |own i=>
   simp only[SV.list]at hp
   cases hl:look h i with
   |none=>rw[hl]at hp;exact nomatch hp
   |some B=>simp only[oZ,hl,hh i B hl]
  |_=>rfl
 have lst:∀v:SV,Le ((v.list h t).bind λp=>cond (pg t) (some (none,[],p.2)) (some (some (oZ h v p.1),[],p.2)):Option (Option (List Nat)× List Nat× List t.El)) ((v.list h' t).bind λp=>cond (pg t) (some (none,[],p.2)) (some (some (oZ h' v p.1),[],p.2))):=λv q hq=>by
  rw[An]at hq⊢;obtain⟨p,hp,hq⟩:=hq;exact⟨p,Fz hh t v p hp,by rw[ind v p hp];exact hq⟩
 cases v with
 |bsl i n=>
  intro p hp;simp only[rH]at hp⊢
  cases hl:look h i with
  |none=>rw[hl]at hp;exact nomatch hp
  |some B=>
   rw[hl]at hp;rw[hh i B hl]
   cases B with
   |box cs=>exact((Kj hh t n cs).bind λ_=>Le.refl _) p hp
   |arr _ _ _=>exact nomatch hp
 |r d x=>exact lst (.r d x)
 |ch=>exact lst .ch
 |pd=>exact lst .pd
 |own i=>exact lst (.own i)
 |sub i o n=>exact lst (.sub i o n)
 |ptr i x o=>exact lst (.ptr i x o)
 |inn i x o=>exact lst (.inn i x o)
 |kt d x=>exact lst (.kt d x)
 |agg x=>exact lst (.agg x)
 |tup x=>exact lst (.tup x)
 |fn f a b=>exact lst (.fn f a b)
 |undef=>exact lst .undef
end
end
section
abbrev Cell:=Nat× Nat
def _root_.Go.World.at? (w:World) (p:Cell):Option Value:=w.cell? ⟨p.1,p.2,none⟩
def _root_.Go.World.eB (w:World) (p:Cell):Nat× Nat× Nat:=
 match w.heap[p.1]? with
 |some (.cells c _ fr)=>(fr.1,fr.2,c.size)
 |_=>(0,0,0)
def calm (r:Nat× Nat× Nat):Bool:=decide (r.1=r.2.1\/r.2.2<=r.1)
def whole (r:Nat× Nat× Nat) (o n:Nat):Bool:=calm r&&decide (o=0/\r.2.2=n)
theorem ql {r:Nat× Nat× Nat} {o n:Nat} (h:whole r o n=true):calm r=true:=by
 unfold whole at h;rw[Rk]at h;exact h.1
theorem Hm {n:Nat}:whole (0,0,n) 0 n=true:=by simp[whole,calm]
theorem lx {w:World} {b o:Nat} {u:Value} (h:w.at? (b,o)=some u) (hc:calm (w.eB (b,o))=true):w.frozen? ⟨b,o,none⟩=false:=by
 unfold World.at? World.cell? at h;unfold calm World.eB at hc;unfold World.frozen?
 cases hb:w.heap[b]? with
 |none=>rfl
 |some ob=>
  cases ob with
  |cells c t fr=>
   simp only[hb,Sq,SM,if_false]at h;simp only[hb,decide_eq_true_eq]at hc;have:=(RK.1 h).1;obtain⟨lo,hi⟩:=fr;simp only at hc⊢;rw[Bool.and_eq_false_iff,decide_eq_false_iff_not,decide_eq_false_iff_not]
   omega
  |_=>rfl
theorem Dq (w:World) (a:Addr) (v:Value) (p:Cell):(w.setCell a v).eB p=w.eB p:=by
 unfold World.eB World.setCell;simp only[Array.getElem?_modify];by_cases e:a.block=p.1
 ·rw[if_pos e]
  cases hb:w.heap[p.1]? with
  |none=>rfl
  |some ob=>
   cases ob with
   |cells c t fr=>simp only[SG];split<;>simp
   |_=>rfl
 ·rw[if_neg e]
theorem fP (b:Nat):∀(vs:List Value) (o:Nat) (w:World) (p:Cell),(w.setCells b o vs).eB p=w.eB p
 |[],_,_,_=>rfl
 |v::vs,o,w,p=>(fP b vs (o+1) (w.setCell ⟨b,o,none⟩ v) p).trans (Dq w _ v p)
def one:Value->Bool
 |.agg _|.tuple _=>false
 |_=>true
class Tok where
 env:Nat->Value
 Kk:∀n,one (env n)=true
 Kl:env 0=.slice none 0 0
variable [Tok]
def reg (b o n:Nat) (p:Cell):Prop:=p.1=b/\o<=p.2/\p.2<o+n
def az (t:Ty) (xs:List t.El) (i j:Nat) (r:R):Prop:=∃x,xs[i]? =some x/\(t.cells x)[j]? =some r
theorem aI {t:Ty} {xs:List t.El} {i j:Nat} {r:R} (h:az t xs i j r):i<xs.length/\j<t.sz:=by
 obtain⟨x,hx,hr⟩:=h;refine⟨(Of.1 hx).1,?_⟩;have:=(Of.1 hr).1;rwa [Ty.cp]at this
theorem dA {t:Ty} {xs:List t.El} {i j:Nat} (hi:i<xs.length) (hj:j<t.sz):∃r,az t xs i j r:=by
 refine⟨(t.cells xs[i])[j]'(by rw[Ty.cp];exact hj),xs[i],?_,?_⟩<;>simp
theorem pk {i j n s c:Nat} (hi:i<n) (hj:j<s) (h:n<=c):i*s+j<c*s:=by
 have h1:(i+1)*s<=c*s:=RD s (by omega);have:(i+1)*s=i*s+s:=SI i s;omega
inductive jd (w:World) (ok:Cell->Prop):R->Value->Prop
 |int (k:IntKind) (n:Int):jd w ok (.int k n) (.int k n)
 |bool (b:Bool):jd w ok (.bool b) (.bool b)
 |str (l:List UInt8):jd w ok (.str l) (.string ⟨l.toArray⟩)
 |sl (t:Ty) (xs:List t.El) (a:Option Addr) (cap b o:Nat) (vs:Nat->Nat->Value)
   (iq:xs.length<=cap) (ha:xs=[]\/a=some ⟨b,o,none⟩)
   (hc:∀i j r,az t xs i j r->ok (b,o+(i*t.sz+j))/\w.at? (b,o+(i*t.sz+j))=some (vs i j))
   (hr:∀i j r,az t xs i j r->jd w ok r (vs i j)):jd w ok (.sl t xs) (.slice a xs.length cap)
 |tok (n:Nat):jd w ok (.tok n) (Tok.env n)
 |lS (v:Value) (h:one v=true):jd w ok .lS v
theorem jd.frame {w w':World} {ok ok':Cell->Prop} {r:R} {v:Value} (h:jd w ok r v)
  (hf:∀p u,ok p->w.at? p=some u->ok' p/\w'.at? p=some u):jd w' ok' r v:=by
 induction h with
 |int=>exact .int _ _
 |bool=>exact .bool _
 |str=>exact .str _
 |tok=>exact .tok _
 |lS v h=>exact .lS v h
 |sl t xs a cap b o vs iq ha hc _ ih=>
  exact .sl t xs a cap b o vs iq ha (λi j r hr=>hf _ _ (hc i j r hr).1 (hc i j r hr).2) ih
structure Row (w:World) (inner:R->Value->(Cell->Prop)->Prop) (t:Ty) (xs:List t.El) (hdr:Value) (fp:Cell->Prop) where
 a:Option Addr
 cap:Nat
 b:Nat
 o:Nat
 vs:Nat->Nat->Value
 fs:Nat->Nat->Cell->Prop
 xa:hdr=.slice a xs.length cap
 iq:xs.length<=cap
 ha:cap=0\/a=some ⟨b,o,none⟩
 ku:∀j,j<cap*t.sz->(∃v,w.at? (b,o+j)=some v)/\whole (w.eB (b,o+j)) o (cap*t.sz)=true
 hc:∀i j r,az t xs i j r->w.at? (b,o+(i*t.sz+j))=some (vs i j)
 hr:∀i j r,az t xs i j r->inner r (vs i j) (fs i j)
 hd1:∀i j r p,az t xs i j r->fs i j p->¬reg b o (cap*t.sz) p
 hd2:∀i j r i' j' r' p,az t xs i j r->az t xs i' j' r'->fs i j p->fs i' j' p->i=i'/\j=j'
 hfp:∀p,fp p↔reg b o (cap*t.sz) p\/∃i j r,az t xs i j r/\fs i j p
inductive fk (w:World):R->Value->(Cell->Prop)->Prop
 |int (k:IntKind) (n:Int):fk w (.int k n) (.int k n) (λ_=>False)
 |bool (b:Bool):fk w (.bool b) (.bool b) (λ_=>False)
 |str (l:List UInt8):fk w (.str l) (.string ⟨l.toArray⟩) (λ_=>False)
 |sl (t:Ty) (xs:List t.El) (a:Option Addr) (cap b o:Nat) (vs:Nat->Nat->Value) (fs:Nat->Nat->Cell->Prop) (fp:Cell->Prop)
   (iq:xs.length<=cap) (ha:cap=0\/a=some ⟨b,o,none⟩)
   (ku:∀j,j<cap*t.sz->(∃v,w.at? (b,o+j)=some v)/\whole (w.eB (b,o+j)) o (cap*t.sz)=true)
   (hc:∀i j r,az t xs i j r->w.at? (b,o+(i*t.sz+j))=some (vs i j))
   (hr:∀i j r,az t xs i j r->fk w r (vs i j) (fs i j))
   (hd1:∀i j r p,az t xs i j r->fs i j p->¬reg b o (cap*t.sz) p)
   (hd2:∀i j r i' j' r' p,az t xs i j r->az t xs i' j' r'->fs i j p->fs i' j' p->i=i'/\j=j')
   (hfp:∀p,fp p↔reg b o (cap*t.sz) p\/∃i j r,az t xs i j r/\fs i j p):fk w (.sl t xs) (.slice a xs.length cap) fp
 |tok (n:Nat):fk w (.tok n) (Tok.env n) (λ_=>False)
 |lS (v:Value) (h:one v=true):fk w .lS v (λ_=>False)
theorem fk.row {w:World} {t:Ty} {xs:List t.El} {v:Value} {fp:Cell->Prop} (h:fk w (.sl t xs) v fp):Nonempty (Row w (fk w) t xs v fp):=by
 cases h with
 |sl t xs a cap b o vs fs fp iq ha ku hc hr hd1 hd2 hfp=>exact⟨⟨a,cap,b,o,vs,fs,rfl,iq,ha,ku,hc,hr,hd1,hd2,hfp⟩⟩
theorem Row.QA {w:World} {t:Ty} {xs:List t.El} {v:Value} {fp:Cell->Prop} (h:Row w (fk w) t xs v fp):fk w (.sl t xs) v fp:=by
 obtain⟨a,cap,b,o,vs,fs,rfl,iq,ha,ku,hc,hr,hd1,hd2,hfp⟩:=h;exact .sl t xs a cap b o vs fs fp iq ha ku hc hr hd1 hd2 hfp
theorem fk.frame {w w':World} {r:R} {v:Value} {fp:Cell->Prop} (h:fk w r v fp)
  (hf:∀p u,fp p->w.at? p=some u->w'.at? p=some u/\w'.eB p=w.eB p):fk w' r v fp:=by
 induction h with
 |int=>exact .int _ _
 |bool=>exact .bool _
 |str=>exact .str _
 |tok=>exact .tok _
 |lS v h=>exact .lS v h
 |sl t xs a cap b o vs fs fp iq ha ku hc _ hd1 hd2 hfp ih=>
  have hin:∀i j r,az t xs i j r->fp (b,o+(i*t.sz+j)):=λi j r hr=>(hfp _).2 (.inl ⟨rfl,by simp,by
   have:=pk (aI hr).1 (aI hr).2 iq;simp;omega⟩)
  refine .sl t xs a cap b o vs fs fp iq ha (λj hj=>?_) (λi j r hr=>(hf _ _ (hin i j r hr) (hc i j r hr)).1)
   (λi j r hr=>ih i j r hr λp u hp=>hf p u ((hfp p).2 (.inr ⟨i,j,r,hr,hp⟩))) hd1 hd2 hfp
  obtain⟨⟨v,hv⟩,hi⟩:=ku j hj;have:=hf (b,o+j) v ((hfp _).2 (.inl ⟨rfl,by simp,by simp;omega⟩)) hv;exact⟨⟨v,this.1⟩,by rw[this.2];exact hi⟩
theorem fk.Mq {w:World} {r:R} {v:Value} {fp:Cell->Prop} {ok:Cell->Prop} (h:fk w r v fp) (hok:∀p,fp p->ok p):jd w ok r v:=by
 induction h with
 |int=>exact .int _ _
 |bool=>exact .bool _
 |str=>exact .str _
 |tok=>exact .tok _
 |lS v h=>exact .lS v h
 |sl t xs a cap b o vs fs fp iq ha ku hc _ hd1 hd2 hfp ih=>
  refine .sl t xs a cap b o vs iq ?_ (λi j r hr=>⟨hok _ ((hfp _).2 (.inl ⟨rfl,by simp,by
   have:=pk (aI hr).1 (aI hr).2 iq;simp;omega⟩)),hc i j r hr⟩)
   (λi j r hr=>ih i j r hr λp hp=>hok p ((hfp p).2 (.inr ⟨i,j,r,hr,hp⟩)))
  rcases ha with rfl|h
  ·exact .inl (Sf.1 (by omega))
  ·exact .inr h
theorem fk.there {w:World} {r:R} {v:Value} {fp:Cell->Prop} (h:fk w r v fp):∀p,fp p->∃u,w.at? p=some u:=by
 induction h with
 |int=>exactλ_ h=>h.elim
 |bool=>exactλ_ h=>h.elim
 |str=>exactλ_ h=>h.elim
 |tok=>exactλ_ h=>h.elim
 |lS=>exactλ_ h=>h.elim
 |sl t xs a cap b o vs fs fp iq ha ku hc _ hd1 hd2 hfp ih=>
  intro p hp
  rcases(hfp p).1 hp with⟨h1,h2,h3⟩|⟨i,j,r,hr,hp⟩
  ·obtain⟨p1,p2⟩:=p;have h1:p1=b:=h1;simp only at h1 h2 h3;subst h1;have:=(ku (p2-o) (by omega)).1;rwa [show o+(p2-o)=p2 from by omega]at this
  ·exact ih i j r hr p hp
structure Pl where
 hdr:Nat->Value
 fp:Nat->Cell->Prop
 base:Cell->Prop
def Blk.kv:Blk->Bool
 |.box _=>true
 |.arr _ _ _=>false
def okd (H:aF) (pl:Pl) (d:List Nat) (p:Cell):Prop:=pl.base p/\∀i B,look H i=some B->(mem i d=true->B.kv=true)->¬pl.fp i p
inductive au (w:World) (H:aF) (pl:Pl):SV->Value->Prop
 |r (d:List Nat) (x:R) (v:Value) (h:jd w (okd H pl d) x v):au w H pl (.r d x) v
 |ch:au w H pl .ch (.slice none 0 0)
 |pd:au w H pl .pd (.pointer none)
 |own (i:Nat) (sh:Option (List Nat)) (t:Ty) (xs:List t.El) (h:look H i=some (.arr sh t xs)):au w H pl (.own i) (pl.hdr i)
 |sub (i o n:Nat) (sh:Option (List Nat)) (t:Ty) (xs:List t.El) (a a':Option Addr) (cap cap':Nat) (h:look H i=some (.arr sh t xs))
   (hh:pl.hdr i=.slice a xs.length cap) (hn:o+n<=xs.length) (hc:n<=cap') (hc':o+cap'=cap) (ha:cap'=0\/a'=a.map (·.add (o*t.sz))):
   au w H pl (.sub i o n) (.slice a' n cap')
 |bsl (i n:Nat) (cs:List SV) (a:Addr) (h:look H i=some (.box cs)) (hh:pl.hdr i=.pointer (some a)):au w H pl (.bsl i n) (.slice (some a) n n)
 |uh (i o:Nat) (cs:List SV) (b k:Nat) (h:look H i=some (.box cs)) (hh:pl.hdr i=.pointer (some ⟨b,k,none⟩)):au w H pl (.ptr i 0 o) (.pointer (some ⟨b,k+o,none⟩))
 |sB (i x o:Nat) (sh:Option (List Nat)) (t:Ty) (xs:List t.El) (b k n cap:Nat) (h:look H i=some (.arr sh t xs)) (hx:x<xs.length)
   (hh:pl.hdr i=.slice (some ⟨b,k,none⟩) n cap):au w H pl (.ptr i x o) (.pointer (some ⟨b,k+(x*t.sz+o),none⟩))
 |inn (i x c:Nat) (sh:Option (List Nat)) (t:Ty) (xs:List t.El) (b k n cap:Nat) (v:Value) (h:look H i=some (.arr sh t xs)) (hx:x<xs.length) (hc:c<t.sz)
   (hh:pl.hdr i=.slice (some ⟨b,k,none⟩) n cap) (hok:okd H pl [i] (b,k+(x*t.sz+c))) (hv:w.at? (b,k+(x*t.sz+c))=some v) (h1:one v=true):au w H pl (.inn i x c) v
 |kt (d:List Nat) (cs:List R) (b o:Nat) (vs:Nat->Value) (hc:∀j r,cs[j]? =some r->okd H pl d (b,o+j)/\w.at? (b,o+j)=some (vs j))
   (hr:∀j r,cs[j]? =some r->jd w (okd H pl d) r (vs j)):au w H pl (.kt d cs) (.pointer (some ⟨b,o,none⟩))
 |agg (cs:List SV) (vs:Array Value) (hl:cs.length=vs.size) (h1:∀(j:Nat) (v:Value),vs[j]? =some v->one v=true) (h:∀(j:Nat) (x:SV) (v:Value),cs[j]? =some x->vs[j]? =some v->au w H pl x v):au w H pl (.agg cs) (.agg vs)
 |tup (cs:List SV) (vs:Array Value) (hl:cs.length=vs.size) (h:∀(j:Nat) (x:SV) (v:Value),cs[j]? =some x->vs[j]? =some v->au w H pl x v):au w H pl (.tup cs) (.tuple vs)
 |fn (f:Fn) (as bs:List SV) (us vs:Array Value) (hl:as.length=us.size) (h:∀(j:Nat) (x:SV) (v:Value),as[j]? =some x->us[j]? =some v->au w H pl x v)
   (hl':bs.length=vs.size) (h':∀(j:Nat) (x:SV) (v:Value),bs[j]? =some x->vs[j]? =some v->au w H pl x v):au w H pl (.fn f as bs) (.func f us vs)
 |undef (v:Value):au w H pl .undef v
def dW (w:World) (H:aF) (pl:Pl) (i:Nat):Blk->Prop
 |.box cs=>∃b o,pl.hdr i=.pointer (some ⟨b,o,none⟩)/\(∀p,pl.fp i p↔reg b o cs.length p)/\
   ∀j v,cs[j]? =some v->∃u,w.at? (b,o+j)=some u/\calm (w.eB (b,o+j))=true/\one u=true/\au w H pl v u
 |.arr none t xs=>Nonempty (Row w (fk w) t xs (pl.hdr i) (pl.fp i))
 |.arr (some d) t xs=>Nonempty (Row w (λr v f=>jd w (okd H pl d) r v/\∀p,¬f p) t xs (pl.hdr i) (pl.fp i))
structure cM (H:aF) (pl:Pl) (w:World):Prop where
 blk:∀i B,look H i=some B->dW w H pl i B
 dis:∀i j B B' p,look H i=some B->look H j=some B'->pl.fp i p->pl.fp j p->i=j
 ob:∀i B p,look H i=some B->pl.fp i p->pl.base p
 nb:∀p,w.at? p=none->pl.base p
end
section
variable [Tok]
section lists
variable {α:Type}
theorem aA (k:Nat) (v:α) (l:List (Nat× α)) (n:Nat):look ((k,v)::l) n=if k=n then some v else look l n:=by
 simp only[look];cases h:Nat.beq k n
 ·have:¬k=n:=λe=>by subst e;simp at h
  simp[this]
 ·have:k=n:=Rj h;simp[this]
theorem eH (l:List (Nat× α)) (n m:Nat) (v:α):look (put l n v) m=if n=m then some v else look l m:=by
 induction l with
 |nil=>rw[put,aA]
 |cons x l ih=>
  obtain⟨k,u⟩:=x;simp only[put];cases hk:Nat.beq k n
  ·simp only[cond_false,look,ih];cases hm:Nat.beq k m
   ·simp
   ·have h1:k=m:=Rj hm;subst h1
    have:¬n=k:=λe=>by subst e;simp at hk
    simp[this]
  ·have h1:k=n:=Rj hk;subst h1;simp only[cond_true,look];cases hm:Nat.beq k m
   ·have:¬k=m:=λe=>by subst e;simp at hm
    simp[this]
   ·have:k=m:=Rj hm;simp[this]
theorem aE (l l':List (Nat× α)) (n:Nat):look (l++l') n=(look l n).or (look l' n):=by
 induction l with
 |nil=>simp[look]
 |cons x l ih=>
  obtain⟨k,u⟩:=x;simp only[SP,look];cases Nat.beq k n<;>simp[ih]
theorem mem_iff (i:Nat) (l:List Nat):mem i l=true↔i∈l:=by
 induction l with
 |nil=>simp[mem]
 |cons k l ih=>
  simp only[mem];cases h:Nat.beq k i
  ·have:¬i=k:=λe=>by subst e;simp at h
   simp[ih,this]
  ·have:k=i:=Rj h;simp[this]
theorem fl (T d:List Nat) (h:hit T d=false):∀i,mem i d=true->mem i T=false:=by
 induction d with
 |nil=>intro i hi;simp[mem]at hi
 |cons k l ih=>
  simp only[hit]at h;cases hk:mem k T
  ·rw[hk]at h;intro i hi;rw[mem_iff]at hi
   rcases RI.1 hi with rfl|hi
   ·exact hk
   ·exact ih h i ((mem_iff i l).2 hi)
  ·rw[hk]at h;simp at h
theorem bp (n:Nat) (l:List Blk) (i:Nat):look (aJ n l) i=if n<=i then l[i-n]? else none:=by
 induction l generalizing n with
 |nil=>simp[aJ,look]
 |cons b l ih=>
  rw[aJ,aA,ih];by_cases h:n=i
  ·subst h;simp
  ·by_cases h2:n<=i
   ·rw[if_neg h,if_pos (by omega),if_pos h2];rw[show i-n=(i-(n+1))+1 from by omega];rfl
   ·rw[if_neg h,if_neg (by omega),if_neg h2]
theorem Dr (u h:aF) (i:Nat):look (rp u h) i=match look u.reverse i with|some b=>some b|none=>look h i:=by
 induction u generalizing h with
 |nil=>simp[rp,look]
 |cons x l ih=>
  obtain⟨k,b⟩:=x;rw[rp,ih,List.reverse_cons,aE,eH,aA]
  cases look l.reverse i with
  |some c=>simp
  |none=>by_cases hk:k=i<;>simp[hk,look]
theorem FB (T:Kil) (s:List (Nat× SV)) (t:Nat):look (Ha T s) t=(look s t).map (SV.aL T):=by
 induction s with
 |nil=>rfl
 |cons x l ih=>
  obtain⟨k,v⟩:=x;rw[Ha,aA,aA,ih];by_cases h:k=t<;>simp[h]
theorem xb (T:Kil) (h h':aF) (e:wU T h=some h') (i:Nat):
  look h' i=cond (mem i T.1) none ((look h i).bind (Blk.aL T))/\(∀b,look h i=some b->mem i T.1=false->∃b',b.aL T=some b'):=by
 induction h generalizing h' with
 |nil=>simp only[wU,It]at e;subst e;simp[look]
 |cons x l ih=>
  obtain⟨k,b⟩:=x;simp only[wU]at e;cases hk:mem k T.1
  ·simp only[hk,cond_false,An,It]at e;obtain⟨b',hb,l',hl,rfl⟩:=e;rw[aA,aA];by_cases hi:k=i
   ·subst hi;simp[hk,hb]
   ·simpa[hi]using ih l' hl
  ·simp only[hk,cond_true]at e;have:=ih h' e;rw[aA];by_cases hi:k=i
   ·subst hi;simp[hk]at this⊢;exact this
   ·simpa[hi]using this
theorem ek {α:Type} {l:List α} (h:isNil l=true):l=[]:=by cases l with|nil=>rfl|cons _ _=>exact nomatch h
theorem FC {T:Kil} (h:T.2=[]) (h1:∀i,mem i T.1=true->mem i T.2=true):T=([],[]):=by
 obtain⟨a,b⟩:=T;simp only at h h1;subst h
 cases a with
 |nil=>rfl
 |cons x l=>have:=h1 x (by simp[mem]);exact nomatch this
theorem xc (i:Nat) (a b:List Nat):mem i (a++b)=(mem i a||mem i b):=by
 induction a with
 |nil=>simp[mem]
 |cons x l ih=>simp only[SP,mem,ih];cases Nat.beq x i<;>simp
theorem CR.fE (c:CR):∀i,mem i c.kil.1=true->mem i c.kil.2=true:=λi h=>by
 show mem i (c.gone++c.lr)=true;rw[xc,show mem i c.gone=true from h];rfl
theorem na (T:Kil) (l:List SV) (j:Nat):(ib T l)[j]? =(l[j]?).map (SV.aL T):=by
 induction l generalizing j with
 |nil=>rfl
 |cons v l ih=>cases j with
  |zero=>rfl
  |succ j=>simpa[ib]using ih j
theorem fQ (T:Kil) (l:List SV):(ib T l).length=l.length:=by
 induction l with
 |nil=>rfl
 |cons v l ih=>simp[ib,ih]
end lists
def Blk.lV:Blk->Blk->Prop
 |.box a,.box b=>a.length=b.length
 |.arr _ t xs,.arr _ t' ys=>t.sz=t'.sz/\xs.length=ys.length
 |_,_=>False
theorem Blk.dn (b:Blk):b.lV b:=by cases b<;>simp[Blk.lV]
structure ly (T:Kil) (w:World) (H:aF) (pl:Pl) (w':World) (H':aF) (pl':Pl):Prop where
 k1:∀i B,look H i=some B->mem i T.1=false->∃B',look H' i=some B'/\B.lV B'/\pl'.hdr i=pl.hdr i
 k2:∀d p u,(∀i,mem i d=true->mem i T.2=false)->okd H pl d p->w.at? p=some u->okd H' pl' d p/\w'.at? p=some u
theorem au.bN {T:Kil} {w w':World} {H H':aF} {pl pl':Pl} (hk:ly T w H pl w' H' pl') {v:SV} {u:Value} (h:au w H pl v u):
  au w' H' pl' (v.aL T) u:=by
 induction h with
 |r d x v h=>
  simp only[SV.aL];cases hd:hit T.2 d
  ·exact .r d x v (h.frame λp u hp hu=>hk.k2 d p u (fl T.2 d hd) hp hu)
  ·exact .undef _
 |ch=>exact .ch
 |pd=>exact .pd
 |own i sh t xs h=>
  simp only[SV.aL];cases hi:mem i T.1
  ·obtain⟨B',h1,h2,h3⟩:=hk.k1 i _ h hi
   cases B' with
   |box cs=>exact h2.elim
   |arr sh' t' ys=>rw[<-h3];exact .own i sh' t' ys h1
  ·exact .undef _
 |sub i o n sh t xs a a' cap cap' h hh hn hc hc' ha=>
  simp only[SV.aL];cases hi:mem i T.1
  ·obtain⟨B',h1,h2,h3⟩:=hk.k1 i _ h hi
   cases B' with
   |box cs=>exact h2.elim
   |arr sh' t' ys=>
    obtain⟨hz,hl⟩:=h2;exact .sub i o n sh' t' ys a a' cap cap' h1 (by rw[h3,hh,hl]) (hl▸hn) hc hc' (by rw[<-hz];exact ha)
  ·exact .undef _
 |bsl i n cs a h hh=>
  simp only[SV.aL];cases hi:mem i T.1
  ·obtain⟨B',h1,h2,h3⟩:=hk.k1 i _ h hi
   cases B' with
   |arr _ _ _=>exact h2.elim
   |box ds=>
    exact .bsl i n ds a h1 (h3.trans hh)
  ·exact .undef _
 |uh i o cs b k h hh=>
  simp only[SV.aL];cases hi:mem i T.1
  ·obtain⟨B',h1,h2,h3⟩:=hk.k1 i _ h hi
   cases B' with
   |arr _ _ _=>exact h2.elim
   |box ds=>exact .uh i o ds b k h1 (h3.trans hh)
  ·exact .undef _
 |sB i x o sh t xs b k n cap h hx hh=>
  simp only[SV.aL];cases hi:mem i T.1
  ·obtain⟨B',h1,h2,h3⟩:=hk.k1 i _ h hi
   cases B' with
   |box cs=>exact h2.elim
   |arr sh' t' ys=>
    obtain⟨hz,hl⟩:=h2;rw[hz];exact .sB i x o sh' t' ys b k n cap h1 (hl▸hx) (h3.trans hh)
  ·exact .undef _
 |inn i x c sh t xs b k n cap v h hx hc hh hok hv h1=>
  simp only[SV.aL];cases hi:(mem i T.1||mem i T.2)
  ·rw[Bool.or_eq_false_iff]at hi;obtain⟨B',g1,g2,g3⟩:=hk.k1 i _ h hi.1
   have g4:=hk.k2 [i] _ v (λj hj=>by
    simp only[mem]at hj;cases hb:Nat.beq i j<;>simp only[hb,cond_true,cond_false]at hj
    ·exact nomatch hj
    ·rw[<-Rj hb];exact hi.2) hok hv
   cases B' with
   |box cs=>exact g2.elim
   |arr sh' t' ys=>
    obtain⟨hz,hl⟩:=g2;rw[hz]at g4 hc;exact .inn i x c sh' t' ys b k n cap v g1 (hl▸hx) hc (g3.trans hh) g4.1 g4.2 h1
  ·exact .undef _
 |kt d cs b o vs hc hr=>
  simp only[SV.aL];cases hd:hit T.2 d
  ·exact .kt d cs b o vs (λj r hj=>hk.k2 d _ _ (fl T.2 d hd) (hc j r hj).1 (hc j r hj).2)
    λj r hj=>(hr j r hj).frame λp u hp hu=>hk.k2 d p u (fl T.2 d hd) hp hu
  ·exact .undef _
 |agg cs vs hl h1 h ih=>
  refine .agg _ vs (by rw[fQ,hl]) h1 λj x v hx hv=>?_;rw[na]at hx;obtain⟨y,hy,rfl⟩:=Rt.1 hx
  exact ih j y v hy hv
 |tup cs vs hl h ih=>
  refine .tup _ vs (by rw[fQ,hl]) λj x v hx hv=>?_;rw[na]at hx;obtain⟨y,hy,rfl⟩:=Rt.1 hx
  exact ih j y v hy hv
 |fn f as bs us vs hl h hl' h' ih ih'=>
  refine .fn f _ _ us vs (by rw[fQ,hl]) (λj x v hx hv=>?_) (by rw[fQ,hl']) λj x v hx hv=>?_
  ·rw[na]at hx;obtain⟨y,hy,rfl⟩:=Rt.1 hx;exact ih j y v hy hv
  ·rw[na]at hx;obtain⟨y,hy,rfl⟩:=Rt.1 hx
   exact ih' j y v hy hv
 |undef v=>exact .undef _
theorem BG (d:List Nat):hit [] d=false:=by
 induction d with
 |nil=>rfl
 |cons k l ih=>simpa[hit,mem]using ih
mutual
theorem dp:(v:SV)->v.aL ([],[])=v
 |.r d x=>by simp[SV.aL,BG]
 |.own j=>by simp[SV.aL,mem]
 |.sub j o n=>by simp[SV.aL,mem]
 |.bsl j n=>by simp[SV.aL,mem]
 |.ptr j x o=>by simp[SV.aL,mem]
 |.inn j x c=>by simp[SV.aL,mem]
 |.kt d cs=>by simp[SV.aL,BG]
 |.agg cs=>by simp[SV.aL,je cs]
 |.tup cs=>by simp[SV.aL,je cs]
 |.fn f a b=>by simp[SV.aL,je a,je b]
 |.ch=>by simp[SV.aL]
 |.pd=>by simp[SV.aL]
 |.undef=>by simp[SV.aL]
theorem je:(l:List SV)->ib ([],[]) l=l
 |[]=>rfl
 |v::l=>by simp[ib,dp v,je l]
end
theorem au.vY {w w':World} {H H':aF} {pl pl':Pl} (hk:ly ([],[]) w H pl w' H' pl') {v:SV} {u:Value} (h:au w H pl v u):
  au w' H' pl' v u:=by have:=h.bN hk;rwa [dp]at this
end
section
variable [Tok]
section
variable {w:World} {H:aF} {pl:Pl}
theorem jd.scalar {ok:Cell->Prop} {x:R} {v:Value} (h:jd w ok x v) (ok':Cell->Prop) (hs:∀t xs,x≠.sl t xs):jd w ok' x v:=by
 cases h with
 |int=>exact .int _ _
 |bool=>exact .bool _
 |str=>exact .str _
 |tok=>exact .tok _
 |lS v h=>exact .lS v h
 |sl t xs=>exact(hs t xs rfl).elim
theorem xd {d:List Nat} {x:R} {v:Value} (h:jd w (okd H pl d) x v):au w H pl (mkR d x) v:=by
 cases x with
 |sl t xs=>exact .r _ _ _ h
 |_=>exact .r _ _ _ (h.scalar _ (λ_ _ e=>nomatch e))
theorem jd.ri {ok:Cell->Prop} {x:R} {v:Value} (h:jd w ok x v):one v=true:=by cases h<;>first|rfl|exact Tok.Kk _|assumption
def gu (w:World) (H:aF) (pl:Pl) (s:List (Nat× SV)) (a:Act):Prop:=∀t v,look s t=some v->au w H pl v (a.tmps.getD t undef)
theorem xe {v:Value} {x:SV} (h:uc v=some x):au w H pl x v:=by
 unfold uc at h
 split at h<;>first|(cases h)|skip
 ·exact .r _ _ _ (.bool _)
 ·exact .r _ _ _ (.int _ _)
 ·exact .r _ _ _ (.str _)
 ·exact .ch
 ·exact .pd
theorem Ag:∀{vs:List Value} {l:List SV},Ac vs=some l->l.length=vs.length/\∀(j:Nat) (x:SV) (v:Value),l[j]? =some x->vs[j]? =some v->au w H pl x v
 |[],l,h=>by cases h;exact⟨rfl,λj x v hx _=>by simp at hx⟩
 |v::vs,l,h=>by
  simp only[Ac,An,It]at h;obtain⟨x,hx,xs,hxs,rfl⟩:=h;obtain⟨h1,h2⟩:=Ag hxs;refine⟨by simp[h1],λj y u hy hu=>?_⟩
  cases j with
  |zero=>simp at hy hu;subst hy hu;exact xe hx
  |succ j=>exact h2 j y u (by simpa using hy) (by simpa using hu)
theorem FD {v:Value} {x:SV} (h:uc v=some x):one v=true:=by
 unfold uc at h
 split at h<;>first|rfl|(cases h)
theorem Ah:∀{vs:List Value} {l:List SV},Ac vs=some l->∀(j:Nat) (v:Value),vs[j]? =some v->one v=true
 |[],l,_,j,v,hv=>by simp at hv
 |u::vs,l,h,j,v,hv=>by
  simp only[Ac,An,It]at h;obtain⟨x,hx,xs,hxs,rfl⟩:=h
  cases j with
  |zero=>simp at hv;subst hv;exact FD hx
  |succ j=>exact Ah hxs j v (by simpa using hv)
theorem ui {v:Value} {x:SV} (h:Hb v=some x):au w H pl x v:=by
 unfold Hb at h;split at h
 ·simp only[An,It]at h;obtain⟨l,hl,rfl⟩:=h;obtain⟨h1,h2⟩:=Ag (w:=w) (H:=H) (pl:=pl) hl;refine .agg _ _ (by simpa using h1) (λj v hv=>?_) λj x v hx hv=>h2 j x v hx (by simpa using hv);exact Ah hl j v (by simpa using hv)
 ·exact xe h
theorem aP {s:List (Nat× SV)} {a:Act} (hs:gu w H pl s a) {o:Operand} {x:SV} (h:opd s o=some x):au w H pl x (a.eval o):=by
 cases o with
 |tmp t=>exact hs t x h
 |const v=>exact ui h
 |func f=>
  simp only[opd,It]at h;subst h
  exact .fn _ _ _ _ _ rfl (λj x v hx _=>by simp at hx) rfl (λj x v hx _=>by simp at hx)
 |global g=>exact nomatch h
theorem dN {P:Program} {T:TypeId} {i:TypeInfo} (h:P.info? T=some i) (w:World):(sizeOf T).run P w=.ok i.size w:=by
 simp[sizeOf,typeInfo,h]
theorem cL {P:Program} {T:TypeId} {d:TypeDesc} (h:P.underlying T=some d) (w:World):(underlying T).run P w=.ok d w:=by
 simp[underlying,h]
theorem k8 {P:Program} {T:TypeId} {d:TypeDesc} (h:P.underlying T=some d) (w:World):(isAgg T).run P w=.ok (wV P T) w:=by
 simp only[isAgg,Sem.run_bind,cL h,Result.andThen_ok,wV,h];cases d<;>rfl
theorem xf (hr:cM H pl w) {p:SV} {u:Value} (hp:au w H pl p u) {cs:List SV} (h:lq H p=some cs):
  ∃b o,u=.pointer (some ⟨b,o,none⟩)/\∀(j:Nat) (x:SV),cs[j]? =some x->∃y,w.at? (b,o+j)=some y/\one y=true/\au w H pl x y:=by
 cases hp with
 |kt d cs' b o vs hc hr'=>
  simp only[lq,It]at h;subst h;refine⟨b,o,rfl,λj x hx=>?_⟩;rw[R3]at hx;obtain⟨r,hj,rfl⟩:=Rt.1 hx
  exact⟨vs j,(hc j r hj).2,(hr' j r hj).ri,xd (hr' j r hj)⟩
 |uh i o cs' b k hl hh=>
  simp only[lq,hl,It]at h;subst h;obtain⟨b',o',e,_,hc⟩:=hr.blk i _ hl;rw[hh]at e;cases e;refine⟨b,k+o,rfl,λj x hx=>?_⟩;rw[RA]at hx;obtain⟨y,h1,_,h3,h4⟩:=hc _ _ hx
  exact⟨y,by rw[Sp];exact h1,h3,h4⟩
 |sB i x o sh t xs b k n cap hl hx hh=>
  simp only[lq,hl,An,It]at h;obtain⟨e,he,rfl⟩:=h;have hb:=hr.blk i _ hl;refine⟨b,k+(x*t.sz+o),rfl,λj y hy=>?_⟩;rw[RA,R3]at hy;obtain⟨r,hj,rfl⟩:=Rt.1 hy;have hcell:az t xs x (o+j) r:=⟨e,he,hj⟩
  cases sh with
  |none=>
   obtain⟨R⟩:=hb;obtain⟨a',cap',b',o',vs,fs,h1,h2,h3,h4,h5,h6,h7,h8,h9⟩:=R;rw[hh]at h1;cases h1
   have hne:cap≠0:=by omega
   have h3:=h3.resolve_left hne;cases h3;refine⟨vs x (o+j),by rw[show k+(x*t.sz+o)+j=k+(x*t.sz+(o+j))from by omega];exact h5 _ _ _ hcell,?_,?_⟩
   ·exact((h6 _ _ _ hcell).Mq (ok:=λ_=>True) (λ_ _=>trivial)).ri
   ·refine xd ((h6 _ _ _ hcell).Mq λp hp=>⟨hr.ob i _ p hl ((h9 p).2 (.inr ⟨_,_,_,hcell,hp⟩)),λi' B hB hm hf=>?_⟩);have hp':pl.fp i p:=(h9 p).2 (.inr ⟨_,_,_,hcell,hp⟩);have:=hr.dis i' i _ _ p hB hl hf hp';subst this;have hbx:=hm (by simp[J8,mem]);rw[hl]at hB;cases hB
    simp[Blk.kv]at hbx
  |some d=>
   obtain⟨R⟩:=hb;obtain⟨a',cap',b',o',vs,fs,h1,h2,h3,h4,h5,h6,h7,h8,h9⟩:=R;rw[hh]at h1;cases h1
   have hne:cap≠0:=by omega
   have h3:=h3.resolve_left hne;cases h3
   exact⟨vs x (o+j),by rw[show k+(x*t.sz+o)+j=k+(x*t.sz+(o+j))from by omega];exact h5 _ _ _ hcell,(h6 _ _ _ hcell).1.ri,xd (h6 _ _ _ hcell).1⟩
 |_=>exact nomatch h
theorem Ai {α:Type} {n:Nat} {l m:List α} (h:takeN n l=some m):m.length=n/\∀j,j<n->m[j]? =l[j]? :=by
 unfold takeN at h;cases hn:Nat.ble n l.length
 ·simp[hn]at h
 ·simp only[hn,cond_true,It]at h;subst h;have:=Ry hn;exact⟨by simp[this],λj hj=>by simp[hj]⟩
theorem BH {P:Program} {T:TypeId} {cs:List SV} {v:SV} (h:iw P T cs=some v) (b o:Nat)
  (hc:∀(j:Nat) (x:SV),cs[j]? =some x->∃y,w.at? (b,o+j)=some y/\one y=true/\au w H pl x y):
  ∃u,(loadVar T ⟨b,o,none⟩).run P w=.ok u w/\au w H pl v u:=by
 simp only[iw,An]at h;obtain⟨d,hd,i,hi,l,hl,h⟩:=h;obtain⟨h1,h2⟩:=Ai hl
 have hy:∀j,j<i.size->∃y x,l[j]? =some x/\w.at? (b,o+j)=some y/\au w H pl x y:=λj hj=>by
  have hx:l[j]? =some (l[j]'(by omega)):=On (by omega);obtain⟨y,h3,_,h5⟩:=hc j _ ((h2 j hj)▸hx);exact⟨y,_,hx,h3,h5⟩
 cases ha:wV P T
 ·simp only[ha,cond_false]at h
  match l,h1,hl,h,hy,h2 with
  |[x],h1,hl,h,hy,h2=>
   simp only[It]at h;subst h;have h1:i.size=1:=h1.symm;obtain⟨y,x',h3,h4,h5⟩:=hy 0 (by omega);simp at h3;subst h3;refine⟨y,?_,h5⟩;have h4:w.cell? ⟨b,o,none⟩=some y:=h4;simp[loadVar,k8 hd,ha,h4]
 ·simp only[ha,cond_true,It]at h;subst h
  let f:Nat->Value:=λj=>(w.at? (b,o+j)).getD undef
  have hf:∀j,j<i.size->w.cell? (Addr.add ⟨b,o,none⟩ j)=some (f j):=λj hj=>by
   obtain⟨y,x,_,h4,_⟩:=hy j hj
   have e:Addr.add ⟨b,o,none⟩ j=⟨b,o+j,none⟩:=by
    unfold Addr.add;split
    ·rename_i h0;subst h0;rfl
    ·rfl
   rw[e];show w.at? (b,o+j)=some (f j);simp only[f,h4];rfl
  have hone:∀j,j<i.size->one (f j)=true:=λj hj=>by
   have hx:l[j]? =some (l[j]'(by omega)):=On (by omega);obtain⟨y,h3,h4,_⟩:=hc j _ ((h2 j hj)▸hx);simp only[f,h3];exact h4
  refine⟨.agg ((List.range i.size).map f).toArray,?_,?_⟩
  ·simp[loadVar,k8 hd,ha,dN hi,run_loadCells (P:=P) w ⟨b,o,none⟩ i.size f hf]
  ·refine .agg _ _ (by simp[h1]) (λj v hv=>by
    by_cases hj:j<i.size
    ·have:v=f j:=by simp[hj]at hv;exact hv.symm
     rw[this];exact hone j hj
    ·simp[hj]at hv) λj x v hx hv=>?_
   have hj:j<i.size:=by have:=(Of.1 hx).1;omega
   obtain⟨y,x',h3,h4,h5⟩:=hy j hj;rw[h3]at hx;cases hx
   have:v=f j:=by simp[hj]at hv;exact hv.symm
   subst this;simp only[f,h4];exact h5
end
end
end Go.Proofs.Ev
