/- The evaluator over the model's code, and that it is sound: part 1. -/
import Derived.Calls
import Derived.Laws.IdiomCopy
import Derived.Laws.Cells
import Derived.Laws.Sem
set_option linter.unusedVariables false
set_option linter.unusedSimpArgs false
set_option linter.unusedSectionVars false
namespace Go.Proofs.Ev
theorem An:type_of% @Option.bind_eq_some_iff:=@Option.bind_eq_some_iff
theorem It:type_of% @Option.some.injEq:=@Option.some.injEq
theorem Of:type_of% @List.getElem?_eq_some_iff:=@List.getElem?_eq_some_iff
theorem On:type_of% @List.getElem?_eq_getElem:=@List.getElem?_eq_getElem
theorem Rp:type_of% @Nat.eq_of_beq_eq_true:=@Nat.eq_of_beq_eq_true
theorem Rq:type_of% @Bool.and_eq_true:=@Bool.and_eq_true
theorem Rr:type_of% @Int.toNat_natCast:=@Int.toNat_natCast
theorem Rs:type_of% @List.getElem?_append_right:=@List.getElem?_append_right
theorem Rt:type_of% @List.getElem?_append_left:=@List.getElem?_append_left
theorem Ru:type_of% @Option.elim_some:=@Option.elim_some
theorem Rv:type_of% @Option.map_eq_some_iff:=@Option.map_eq_some_iff
theorem Rw:type_of% @Bool.not_true:=@Bool.not_true
theorem Rx:type_of% @List.getElem_mem:=@List.getElem_mem
theorem Ry:type_of% @Bool.true_and:=@Bool.true_and
theorem Rz:type_of% @Nat.zero_add:=@Nat.zero_add
theorem RA:type_of% @List.length_cons:=@List.length_cons
theorem RB:type_of% @Array.getElem?_eq_getElem:=@Array.getElem?_eq_getElem
theorem RC:type_of% @Nat.le_of_ble_eq_true:=@Nat.le_of_ble_eq_true
theorem RD:type_of% @List.length_append:=@List.length_append
theorem RE:type_of% @Option.bind_some:=@Option.bind_some
theorem RF:type_of% @List.getElem?_drop:=@List.getElem?_drop
theorem RG:type_of% @Nat.mul_le_mul_right:=@Nat.mul_le_mul_right
theorem RH:type_of% @List.mem_of_getElem?:=@List.mem_of_getElem?
theorem RI:type_of% @Array.getD_eq_getD_getElem?:=@Array.getD_eq_getD_getElem?
theorem RJ:type_of% @Nat.le_refl:=@Nat.le_refl
theorem RK:type_of% @List.mem_cons_of_mem:=@List.mem_cons_of_mem
theorem RL:type_of% @Prod.mk.injEq:=@Prod.mk.injEq
theorem RM:type_of% @List.append_assoc:=@List.append_assoc
theorem RN:type_of% @List.mem_cons:=@List.mem_cons
theorem RO:type_of% @Array.getElem?_eq_some_iff:=@Array.getElem?_eq_some_iff
theorem RP:type_of% @Bool.not_false:=@Bool.not_false
theorem RQ:type_of% @Nat.add_mul:=@Nat.add_mul
theorem RR:type_of% @List.getElem?_eq_none:=@List.getElem?_eq_none
theorem RS:type_of% @List.mem_cons_self:=@List.mem_cons_self
theorem RU:type_of% @List.getD_eq_getElem?_getD:=@List.getD_eq_getElem?_getD
theorem RV:type_of% @List.append_nil:=@List.append_nil
theorem RW:type_of% @List.length_set:=@List.length_set
theorem RX:type_of% @Option.bind_assoc:=@Option.bind_assoc
theorem RY:type_of% @Nat.add_sub_cancel_left:=@Nat.add_sub_cancel_left
theorem RZ:type_of% @Nat.add_zero:=@Nat.add_zero
theorem R2:type_of% @Nat.mul_comm:=@Nat.mul_comm
theorem R3:type_of% @List.getElem?_take:=@List.getElem?_take
theorem R4:type_of% @List.map_cons:=@List.map_cons
theorem R5:type_of% @List.mem_iff_getElem:=@List.mem_iff_getElem
theorem R6:type_of% @List.length_nil:=@List.length_nil
theorem R7:type_of% @List.getElem?_set_self:=@List.getElem?_set_self
theorem R8:type_of% @List.length_take:=@List.length_take
theorem R9:type_of% @Nat.zero_le:=@Nat.zero_le
theorem Sa:type_of% @List.getElem?_map:=@List.getElem?_map
theorem Sb:type_of% @Nat.mod_eq_of_lt:=@Nat.mod_eq_of_lt
theorem Sc:type_of% @Nat.sub_zero:=@Nat.sub_zero
theorem Sd:type_of% @Nat.mul_le_mul:=@Nat.mul_le_mul
theorem Se:type_of% @Option.bind_none:=@Option.bind_none
theorem Sf:type_of% @List.mem_append:=@List.mem_append
theorem Sg:type_of% @List.mem_filter:=@List.mem_filter
theorem Si:type_of% @Array.getElem?_toList:=@Array.getElem?_toList
theorem Sj:type_of% @List.length_eq_zero_iff:=@List.length_eq_zero_iff
theorem Sl:type_of% @List.cons.injEq:=@List.cons.injEq
theorem Sm:type_of% @List.getElem?_of_mem:=@List.getElem?_of_mem
theorem Sn:type_of% @Bool.and_eq_true_iff:=@Bool.and_eq_true_iff
theorem So:type_of% @List.foldl_append:=@List.foldl_append
theorem Sp:type_of% @Bool.false_and:=@Bool.false_and
theorem Sq:type_of% @List.foldl_cons:=@List.foldl_cons
theorem Sr:type_of% @List.take_length:=@List.take_length
theorem Ss:type_of% @Array.getElem?_append_left:=@Array.getElem?_append_left
theorem Su:type_of% @Int.tdiv_eq_ediv_of_nonneg:=@Int.tdiv_eq_ediv_of_nonneg
theorem Sv:type_of% @Nat.add_assoc:=@Nat.add_assoc
theorem Sw:type_of% @Option.isSome_none:=@Option.isSome_none
theorem Sx:type_of% @Option.or_none:=@Option.or_none
theorem Sy:type_of% @Nat.mul_add_mod:=@Nat.mul_add_mod
theorem SA:type_of% @List.nodup_cons:=@List.nodup_cons
theorem SB:type_of% @List.map_append:=@List.map_append
theorem SC:type_of% @Int.natCast_mul:=@Int.natCast_mul
theorem SD:type_of% @List.findIdx?_eq_some_iff_getElem:=@List.findIdx?_eq_some_iff_getElem
theorem SE:type_of% @List.length_drop:=@List.length_drop
theorem SF:type_of% @Nat.div_eq_of_lt:=@Nat.div_eq_of_lt
theorem SG:type_of% @List.filter_eq_self:=@List.filter_eq_self
theorem SI:type_of% @List.take_append_of_le_length:=@List.take_append_of_le_length
theorem SJ:type_of% @List.take_append_drop:=@List.take_append_drop
theorem SK:type_of% @Nat.ble_eq_true_of_le:=@Nat.ble_eq_true_of_le
theorem SL:type_of% @Option.map_some:=@Option.map_some
theorem SM:type_of% @Nat.succ_mul:=@Nat.succ_mul
theorem SN:type_of% @Nat.le_trans:=@Nat.le_trans
theorem SP:type_of% @Option.some.inj:=@Option.some.inj
theorem SQ:type_of% @List.nil_append:=@List.nil_append
theorem SR:type_of% @Bool.false_eq_true:=@Bool.false_eq_true
theorem SS:type_of% @List.mem_singleton:=@List.mem_singleton
theorem SU:type_of% @List.cons_append:=@List.cons_append
theorem SW:type_of% @Option.getD_some:=@Option.getD_some
theorem SX:type_of% @List.getElem?_set_ne:=@List.getElem?_set_ne
theorem SY:type_of% @List.sum_cons:=@List.sum_cons
theorem SZ:type_of% @List.take_of_length_le:=@List.take_of_length_le
theorem S0:type_of% @Nat.mul_add_div:=@Nat.mul_add_div
theorem S1:type_of% @List.range_succ:=@List.range_succ
theorem S2:type_of% @List.findIdx?_eq_none_iff:=@List.findIdx?_eq_none_iff
theorem S3:type_of% @List.all_eq_true:=@List.all_eq_true
theorem S4:type_of% @List.filter_cons:=@List.filter_cons
theorem S5:type_of% @Bool.or_true:=@Bool.or_true
theorem S6:type_of% @List.map_nil:=@List.map_nil
theorem S7:type_of% @List.getElem?_cons_succ:=@List.getElem?_cons_succ
theorem S8:type_of% @List.any_eq_not_all_not:=@List.any_eq_not_all_not
theorem S9:type_of% @Array.ext':=@Array.ext'
theorem Ta:type_of% @Array.getElem?_append_right:=@Array.getElem?_append_right
theorem Tb:type_of% @Option.elim_none:=@Option.elim_none
theorem Tc:type_of% @Array.append_assoc:=@Array.append_assoc
theorem Td:type_of% @List.filter_append:=@List.filter_append
theorem Te:type_of% @Option.isSome_some:=@Option.isSome_some
theorem Tf:type_of% @List.length_replicate:=@List.length_replicate
theorem Tg:type_of% @List.length_filter_le:=@List.length_filter_le
theorem Th:type_of% @Bool.or_eq_true:=@Bool.or_eq_true
theorem Ti:type_of% @List.sum_append:=@List.sum_append
theorem Tj:type_of% @List.getElem?_cons_zero:=@List.getElem?_cons_zero
theorem Tk:type_of% @List.drop_length:=@List.drop_length
theorem Tl:type_of% @Int.mul_nonneg:=@Int.mul_nonneg
theorem Tm:type_of% @Array.getElem?_eq_none:=@Array.getElem?_eq_none
theorem Tn:type_of% @Nat.div_add_mod:=@Nat.div_add_mod
theorem To:type_of% @Nat.div_lt_iff_lt_mul:=@Nat.div_lt_iff_lt_mul
theorem Tp:type_of% @Bool.not_eq_true':=@Bool.not_eq_true'
theorem Tq:type_of% @Nat.lt_trichotomy:=@Nat.lt_trichotomy
theorem Tu:type_of% @Bool.and_false:=@Bool.and_false
theorem Tv:type_of% @List.mem_of_mem_take:=@List.mem_of_mem_take
theorem Tw:type_of% @List.mem_map:=@List.mem_map
theorem Tx:type_of% @List.mem_flatMap:=@List.mem_flatMap
theorem TC:type_of% @List.flatMap_append:=@List.flatMap_append
theorem TE:type_of% @Bool.and_true:=@Bool.and_true
theorem TF:type_of% @Bool.eq_iff_iff:=@Bool.eq_iff_iff
theorem TG:type_of% @Nat.min_eq_left:=@Nat.min_eq_left
theorem TH:type_of% @List.mem_replicate:=@List.mem_replicate
theorem TI:type_of% @List.findIdx?_cons:=@List.findIdx?_cons
theorem TJ:type_of% @List.pairwise_cons:=@List.pairwise_cons
theorem TL:type_of% @List.drop_zero:=@List.drop_zero
theorem TM:type_of% @Nat.zero_mul:=@Nat.zero_mul
theorem TP:type_of% @Bool.not_not:=@Bool.not_not
theorem TQ:type_of% @Nat.le_of_lt:=@Nat.le_of_lt
theorem TR:type_of% @List.map_id':=@List.map_id'
theorem TX:type_of% @Nat.mod_lt:=@Nat.mod_lt
theorem TZ:type_of% @Bool.false_or:=@Bool.false_or
theorem T1:type_of% @List.all_cons:=@List.all_cons
theorem T3:type_of% @Int.mul_assoc:=@Int.mul_assoc
theorem Uk:type_of% @Iff.rfl:=@Iff.rfl
section
structure Shape where
 h:Int
 w:Int
 c:Int
 deriving DecidableEq
structure al where
 sh:Shape
 data:List Int
 deriving DecidableEq
structure aj where
 kind:Int
 out:Int
 size:Int
 step:Int
 mult:Int
 shift:Int
 zero:Int
 weights:List Int
 cG:List Int
 deriving DecidableEq
structure Model where
 inp:Shape
 ao:List aj
 deriving DecidableEq
structure Job where
 model:Model
 at_:Int
 act:al
 iR:Int
 deriving DecidableEq
structure Task where
 id:Int
 av:List Int
 at_:Int
 due:Int
 born:Int
 deriving DecidableEq
structure ak where
 now:Int
 ai:Int
 age:Int
 tasks:List Task
 run:Int
 left:Int
 turns:Int
 next:Int
 deriving DecidableEq
structure Request where
 id:Int
 model:Int
 job:Job
 due:Int
 deriving DecidableEq
structure Runtime where
 sched:ak
 ar:List Model
 ax:List Bool
 ae:List Request
 deriving DecidableEq
structure Step where
 kind:Int
 a:Int
 b:Int
 data:List Int
 input:al
 deriving DecidableEq
structure Event where
 kind:Int
 a:Int
 b:Int
 out:al
 deriving DecidableEq
structure Entry where
 id:Int
 model:Model
 input:al
 at_:Int
 due:Int
 end_:Int
 done:Bool
 deriving DecidableEq
structure Ot where
 id:Int
 model:Int
 due:Int
 deriving DecidableEq
structure dA where
 id:Int
 av:Nat
 at_:Int
 due:Int
 born:Int
 deriving DecidableEq
structure sF where
 id:Int
 model:Int
 mh:Int
 mw:Int
 mc:Int
 ao:Nat
 jat:Int
 ah:Int
 aw:Int
 ac:Int
 data:Nat
 iR:Int
 due:Int
 deriving DecidableEq
structure Reader where
 b:List Int
 at_:Int
 bad:Bool
 deriving DecidableEq
inductive S where
 |shape|dg|aH|model|task|request|step|event|entry|Ms|cS|ig
 deriving DecidableEq
inductive Ty where
 |int (k:IntKind)|bool|str|sl (t:Ty)|st (s:S)|tok
 |ho (s:S)|hl (t:Ty)
 deriving DecidableEq
def S.E:S->Type
 |.shape=>Shape|.dg=>al|.aH=>aj|.model=>Model|.task=>Task|.request=>Request
 |.step=>Step|.event=>Event|.entry=>Entry|.Ms=>Ot|.cS=>dA|.ig=>sF
def Ty.El:Ty->Type
 |.int _=>Int
 |.bool=>Bool
 |.str=>List UInt8
 |.sl t=>List t.El
 |.st s=>s.E
 |.tok=>Nat
 |.ho s=>Option s.E
 |.hl t=>Option (List t.El)
inductive R where
 |int (k:IntKind) (n:Int)
 |bool (b:Bool)
 |str (l:List UInt8)
 |sl (t:Ty) (xs:List t.El)
 |tok (n:Nat)
 |lN
abbrev R.i (n:Int):R:=.int .i64 n
abbrev R.ints (xs:List Int):R:=.sl (.int .i64) xs
abbrev R.bytes (xs:List Int):R:=.sl (.int .u8) xs
def J7 (x:Shape):List R:=[.i x.h,.i x.w,.i x.c]
def J8 (x:al):List R:=[.i x.sh.h,.i x.sh.w,.i x.sh.c,.ints x.data]
def N2 (x:aj):List R:=[.i x.kind,.i x.out,.i x.size,.i x.step,.i x.mult,.i x.shift,.i x.zero,.ints x.weights,.ints x.cG]
def N3 (x:Model):List R:=[.i x.inp.h,.i x.inp.w,.i x.inp.c,.sl (.st .aH) x.ao]
def Mz (x:Task):List R:=[.i x.id,.ints x.av,.i x.at_,.i x.due,.i x.born]
def Hg (x:Request):List R:=[.i x.id,.i x.model,.i x.job.model.inp.h,.i x.job.model.inp.w,.i x.job.model.inp.c,.sl (.st .aH) x.job.model.ao,.i x.job.at_,.i x.job.act.sh.h,.i x.job.act.sh.w,.i x.job.act.sh.c,.ints x.job.act.data,.i x.job.iR,.i x.due]
def MA (x:Step):List R:=[.i x.kind,.i x.a,.i x.b,.bytes x.data,.i x.input.sh.h,.i x.input.sh.w,.i x.input.sh.c,.ints x.input.data]
def N4 (x:Event):List R:=[.i x.kind,.i x.a,.i x.b,.i x.out.sh.h,.i x.out.sh.w,.i x.out.sh.c,.ints x.out.data]
def N5 (x:Entry):List R:=[.i x.id,.i x.model.inp.h,.i x.model.inp.w,.i x.model.inp.c,.sl (.st .aH) x.model.ao,.i x.input.sh.h,.i x.input.sh.w,.i x.input.sh.c,.ints x.input.data,.i x.at_,.i x.due,.i x.end_,.bool x.done]
def Ou (x:Ot):List R:=[.i x.id,.i x.model,.i x.due]
def Af (x:dA):List R:=[.i x.id,.tok x.av,.i x.at_,.i x.due,.i x.born]
def xb (x:sF):List R:=[.i x.id,.i x.model,.i x.mh,.i x.mw,.i x.mc,.tok x.ao,.i x.jat,.i x.ah,.i x.aw,.i x.ac,.tok x.data,.i x.iR,.i x.due]
def S.sz:S->Nat
 |.shape=>3|.dg=>4|.aH=>9|.model=>4|.task=>5|.request=>13|.step=>8|.event=>7|.entry=>13|.Ms=>3|.cS=>5|.ig=>13
def S.cells:(s:S)->s.E->List R
 |.shape=>J7|.dg=>J8|.aH=>N2|.model=>N3|.task=>Mz|.request=>Hg
 |.step=>MA|.event=>N4|.entry=>N5|.Ms=>Ou|.cS=>Af|.ig=>xb
def Ty.sz:Ty->Nat
 |.st s=>s.sz
 |.ho s=>s.sz
 |_=>1
def Ty.cells:(t:Ty)->t.El->List R
 |.int k,n=>[.int k n]
 |.bool,b=>[.bool b]
 |.str,l=>[.str l]
 |.sl t,xs=>[.sl t xs]
 |.st s,x=>s.cells x
 |.tok,n=>[.tok n]
 |.ho s,x=>match x with
  |some x=>s.cells x
  |none=>List.replicate s.sz .lN
 |.hl t,x=>match x with
  |some xs=>[.sl t xs]
  |none=>[.lN]
theorem S.cf (s:S) (x:s.E):(s.cells x).length=s.sz:=by cases s<;>rfl
theorem Ty.cf (t:Ty) (x:t.El):(t.cells x).length=t.sz:=by
 cases t with
 |st s=>exact s.cf x
 |ho s=>cases x with
  |none=>simp[Ty.cells,Ty.sz]
  |some x=>exact s.cf x
 |hl t=>cases x<;>rfl
 |_=>rfl
theorem Ty.gf (t:Ty):0<t.sz:=by
 cases t with
 |st s=>cases s<;>simp[Ty.sz,S.sz]
 |ho s=>cases s<;>simp[Ty.sz,S.sz]
 |_=>simp[Ty.sz]
def R.asI:R->Option Int
 |.int .i64 n=>some n
 |_=>none
def R.asB:R->Option Bool
 |.bool b=>some b
 |_=>none
def R.asL (t:Ty):R->Option (List t.El)
 |.sl t' xs=>if h:t'=t then some (h▸xs)else none
 |_=>none
def R.asT:R->Option Nat
 |.tok n=>some n
 |_=>none
theorem R.Bz {r:R} {n:Nat} (h:r.asT=some n):r=.tok n:=by
 unfold R.asT at h;split at h
 ·cases h;rfl
 ·cases h
theorem R.aB {r:R} {n:Int} (h:r.asI=some n):r=.int .i64 n:=by
 unfold R.asI at h;split at h
 ·cases h;rfl
 ·cases h
theorem R.MB {r:R} {n:Bool} (h:r.asB=some n):r=.bool n:=by
 unfold R.asB at h;split at h
 ·cases h;rfl
 ·cases h
theorem R.fA {t:Ty} {r:R} {n:List t.El} (h:r.asL t=some n):r=.sl t n:=by
 unfold R.asL at h;split at h
 ·split at h
  ·rename_i e;subst e;cases h;rfl
  ·cases h
 ·cases h
def Df:List R->Option Shape
 |[a',b',c']=>(a'.asI).bind λa=>(b'.asI).bind λb=>(c'.asI).bind λc=>some ⟨a,b,c⟩
 |_=>none
theorem Fp (cs:List R) (x:Shape) (h:Df cs=some x):J7 x=cs:=by
 unfold Df at h;split at h
 ·simp only[An]at h;obtain⟨a,ha,b,hb,c,hc,h⟩:=h;cases h;rw[R.aB ha,R.aB hb,R.aB hc];rfl
 ·cases h
def xc:List R->Option al
 |[a',b',c',d']=>(a'.asI).bind λa=>(b'.asI).bind λb=>(c'.asI).bind λc=>(d'.asL (.int .i64)).bind λd=>some ⟨⟨a,b,c⟩,d⟩
 |_=>none
theorem Dg (cs:List R) (x:al) (h:xc cs=some x):J8 x=cs:=by
 unfold xc at h;split at h
 ·simp only[An]at h;obtain⟨a,ha,b,hb,c,hc,d,hd,h⟩:=h;cases h;rw[R.aB ha,R.aB hb,R.aB hc,R.fA hd];rfl
 ·cases h
def Dh:List R->Option aj
 |[a',b',c',d',e',f',g',h',i']=>(a'.asI).bind λa=>(b'.asI).bind λb=>(c'.asI).bind λc=>(d'.asI).bind λd=>(e'.asI).bind λe=>(f'.asI).bind λf=>(g'.asI).bind λg=>(h'.asL (.int .i64)).bind λh=>(i'.asL (.int .i64)).bind λi=>some ⟨a,b,c,d,e,f,g,h,i⟩
 |_=>none
theorem Fq (cs:List R) (x:aj) (h:Dh cs=some x):N2 x=cs:=by
 unfold Dh at h;split at h
 ·simp only[An]at h;obtain⟨a,ha,b,hb,c,hc,d,hd,e,he,f,hf,g,hg,h,hh,i,hi,h⟩:=h;cases h;rw[R.aB ha,R.aB hb,R.aB hc,R.aB hd,R.aB he,R.aB hf,R.aB hg,R.fA hh,R.fA hi];rfl
 ·cases h
def Di:List R->Option Model
 |[a',b',c',d']=>(a'.asI).bind λa=>(b'.asI).bind λb=>(c'.asI).bind λc=>(d'.asL (.st .aH)).bind λd=>some ⟨⟨a,b,c⟩,d⟩
 |_=>none
theorem Fs (cs:List R) (x:Model) (h:Di cs=some x):N3 x=cs:=by
 unfold Di at h;split at h
 ·simp only[An]at h;obtain⟨a,ha,b,hb,c,hc,d,hd,h⟩:=h;cases h;rw[R.aB ha,R.aB hb,R.aB hc,R.fA hd];rfl
 ·cases h
def J9:List R->Option Task
 |[a',b',c',d',e']=>(a'.asI).bind λa=>(b'.asL (.int .i64)).bind λb=>(c'.asI).bind λc=>(d'.asI).bind λd=>(e'.asI).bind λe=>some ⟨a,b,c,d,e⟩
 |_=>none
theorem Ix (cs:List R) (x:Task) (h:J9 cs=some x):Mz x=cs:=by
 unfold J9 at h;split at h
 ·simp only[An]at h;obtain⟨a,ha,b,hb,c,hc,d,hd,e,he,h⟩:=h;cases h;rw[R.aB ha,R.fA hb,R.aB hc,R.aB hd,R.aB he];rfl
 ·cases h
def sG:List R->Option Request
 |[a',b',c',d',e',f',g',h',i',j',k',l',m']=>(a'.asI).bind λa=>(b'.asI).bind λb=>(c'.asI).bind λc=>(d'.asI).bind λd=>(e'.asI).bind λe=>(f'.asL (.st .aH)).bind λf=>(g'.asI).bind λg=>(h'.asI).bind λh=>(i'.asI).bind λi=>(j'.asI).bind λj=>(k'.asL (.int .i64)).bind λk=>(l'.asI).bind λl=>(m'.asI).bind λm=>some ⟨a,b,⟨⟨⟨c,d,e⟩,f⟩,g,⟨⟨h,i,j⟩,k⟩,l⟩,m⟩
 |_=>none
theorem BA (cs:List R) (x:Request) (h:sG cs=some x):Hg x=cs:=by
 unfold sG at h;split at h
 ·simp only[An]at h;obtain⟨a,ha,b,hb,c,hc,d,hd,e,he,f,hf,g,hg,h,hh,i,hi,j,hj,k,hk,l,hl,m,hm,h⟩:=h;cases h;rw[R.aB ha,R.aB hb,R.aB hc,R.aB hd,R.aB he,R.fA hf,R.aB hg,R.aB hh,R.aB hi,R.aB hj,R.fA hk,R.aB hl,R.aB hm];rfl
 ·cases h
def Ka:List R->Option Step
 |[a',b',c',d',e',f',g',h']=>(a'.asI).bind λa=>(b'.asI).bind λb=>(c'.asI).bind λc=>(d'.asL (.int .u8)).bind λd=>(e'.asI).bind λe=>(f'.asI).bind λf=>(g'.asI).bind λg=>(h'.asL (.int .i64)).bind λh=>some ⟨a,b,c,d,⟨⟨e,f,g⟩,h⟩⟩
 |_=>none
theorem Iy (cs:List R) (x:Step) (h:Ka cs=some x):MA x=cs:=by
 unfold Ka at h;split at h
 ·simp only[An]at h;obtain⟨a,ha,b,hb,c,hc,d,hd,e,he,f,hf,g,hg,h,hh,h⟩:=h;cases h;rw[R.aB ha,R.aB hb,R.aB hc,R.fA hd,R.aB he,R.aB hf,R.aB hg,R.fA hh];rfl
 ·cases h
def Dj:List R->Option Event
 |[a',b',c',d',e',f',g']=>(a'.asI).bind λa=>(b'.asI).bind λb=>(c'.asI).bind λc=>(d'.asI).bind λd=>(e'.asI).bind λe=>(f'.asI).bind λf=>(g'.asL (.int .i64)).bind λg=>some ⟨a,b,c,⟨⟨d,e,f⟩,g⟩⟩
 |_=>none
theorem Ft (cs:List R) (x:Event) (h:Dj cs=some x):N4 x=cs:=by
 unfold Dj at h;split at h
 ·simp only[An]at h;obtain⟨a,ha,b,hb,c,hc,d,hd,e,he,f,hf,g,hg,h⟩:=h;cases h;rw[R.aB ha,R.aB hb,R.aB hc,R.aB hd,R.aB he,R.aB hf,R.fA hg];rfl
 ·cases h
def Dk:List R->Option Entry
 |[a',b',c',d',e',f',g',h',i',j',k',l',m']=>(a'.asI).bind λa=>(b'.asI).bind λb=>(c'.asI).bind λc=>(d'.asI).bind λd=>(e'.asL (.st .aH)).bind λe=>(f'.asI).bind λf=>(g'.asI).bind λg=>(h'.asI).bind λh=>(i'.asL (.int .i64)).bind λi=>(j'.asI).bind λj=>(k'.asI).bind λk=>(l'.asI).bind λl=>(m'.asB).bind λm=>some ⟨a,⟨⟨b,c,d⟩,e⟩,⟨⟨f,g,h⟩,i⟩,j,k,l,m⟩
 |_=>none
theorem Fu (cs:List R) (x:Entry) (h:Dk cs=some x):N5 x=cs:=by
 unfold Dk at h;split at h
 ·simp only[An]at h;obtain⟨a,ha,b,hb,c,hc,d,hd,e,he,f,hf,g,hg,h,hh,i,hi,j,hj,k,hk,l,hl,m,hm,h⟩:=h;cases h;rw[R.aB ha,R.aB hb,R.aB hc,R.aB hd,R.fA he,R.aB hf,R.aB hg,R.aB hh,R.fA hi,R.aB hj,R.aB hk,R.aB hl,R.MB hm];rfl
 ·cases h
def Kb:List R->Option Ot
 |[a',b',c']=>(a'.asI).bind λa=>(b'.asI).bind λb=>(c'.asI).bind λc=>some ⟨a,b,c⟩
 |_=>none
theorem Iz (cs:List R) (x:Ot) (h:Kb cs=some x):Ou x=cs:=by
 unfold Kb at h;split at h
 ·simp only[An]at h;obtain⟨a,ha,b,hb,c,hc,h⟩:=h;cases h;rw[R.aB ha,R.aB hb,R.aB hc];rfl
 ·cases h
def Hh:List R->Option dA
 |[a',b',c',d',e']=>(a'.asI).bind λa=>(b'.asT).bind λb=>(c'.asI).bind λc=>(d'.asI).bind λd=>(e'.asI).bind λe=>some ⟨a,b,c,d,e⟩
 |_=>none
theorem Fv (cs:List R) (x:dA) (hq:Hh cs=some x):Af x=cs:=by
 unfold Hh at hq;split at hq
 ·simp only[An]at hq;obtain⟨a,ha,b,hb,c,hc,d,hd,e,he,hq⟩:=hq;cases hq;rw[R.aB ha,R.Bz hb,R.aB hc,R.aB hd,R.aB he];rfl
 ·cases hq
def sH:List R->Option sF
 |[a',b',c',d',e',f',g',h',i',j',k',l',m']=>(a'.asI).bind λa=>(b'.asI).bind λb=>(c'.asI).bind λc=>(d'.asI).bind λd=>(e'.asI).bind λe=>(f'.asT).bind λf=>(g'.asI).bind λg=>(h'.asI).bind λh=>(i'.asI).bind λi=>(j'.asI).bind λj=>(k'.asT).bind λk=>(l'.asI).bind λl=>(m'.asI).bind λm=>some ⟨a,b,c,d,e,f,g,h,i,j,k,l,m⟩
 |_=>none
theorem zN (cs:List R) (x:sF) (hq:sH cs=some x):xb x=cs:=by
 unfold sH at hq;split at hq
 ·simp only[An]at hq;obtain⟨a,ha,b,hb,c,hc,d,hd,e,he,f,hf,g,hg,h0,hh,i,hi,j,hj,k,hk,l,hl,m,hm,hq⟩:=hq;cases hq;rw[R.aB ha,R.aB hb,R.aB hc,R.aB hd,R.aB he,R.Bz hf,R.aB hg,R.aB hh,R.aB hi,R.aB hj,R.Bz hk,R.aB hl,R.aB hm];rfl
 ·cases hq
def S.ey:(s:S)->List R->Option s.E
 |.shape=>Df
 |.dg=>xc
 |.aH=>Dh
 |.model=>Di
 |.task=>J9
 |.request=>sG
 |.step=>Ka
 |.event=>Dj
 |.entry=>Dk
 |.Ms=>Kb
 |.cS=>Hh
 |.ig=>sH
def Ty.vD:(t:Ty)->R->Option t.El
 |.int k,.int k' n=>if k'=k then some n else none
 |.bool,.bool b=>some b
 |.str,.str l=>some l
 |.sl t,.sl t' xs=>if h:t'=t then some (h▸xs)else none
 |.tok,.tok n=>some n
 |.hl t,.sl t' xs=>if h:t'=t then some (some (h▸xs))else none
 |_,_=>none
def Ty.ey:(t:Ty)->List R->Option t.El
 |.st s,cs=>s.ey cs
 |.ho s,cs=>(s.ey cs).bind λx=>some (some x)
 |t,[r]=>t.vD r
 |_,_=>none
theorem Ty.Fw (t:Ty) (r:R) (x:t.El) (h:t.vD r=some x):t.cells x=[r]:=by
 cases t with
 |st s=>cases r<;>exact nomatch h
 |int k=>
  cases r with
  |int k' n=>
   replace h:(if k'=k then some n else none)=some x:=h
   split at h
   ·rename_i e;subst e;cases h;rfl
   ·cases h
  |_=>exact nomatch h
 |bool=>
  cases r with
  |bool b=>cases h;rfl
  |_=>exact nomatch h
 |str=>
  cases r with
  |str b=>cases h;rfl
  |_=>exact nomatch h
 |sl t=>
  cases r with
  |sl t' xs=>
   replace h:(if h:t'=t then some (h▸xs)else none)=some x:=h
   split at h
   ·rename_i e;subst e;cases h;rfl
   ·cases h
  |_=>exact nomatch h
 |tok=>
  cases r with
  |tok n=>cases h;rfl
  |_=>exact nomatch h
 |ho s=>cases r<;>exact nomatch h
 |hl t=>
  cases r with
  |sl t' xs=>
   replace h:(if h:t'=t then some (some (h▸xs))else none)=some x:=h
   split at h
   ·rename_i e;subst e;cases h;rfl
   ·cases h
  |_=>exact nomatch h
theorem S.cu (s:S) (cs:List R) (x:s.E) (h:s.ey cs=some x):s.cells x=cs:=by
 cases s
 ·exact Fp cs x h
 ·exact Dg cs x h
 ·exact Fq cs x h
 ·exact Fs cs x h
 ·exact Ix cs x h
 ·exact BA cs x h
 ·exact Iy cs x h
 ·exact Ft cs x h
 ·exact Fu cs x h
 ·exact Iz cs x h
 ·exact Fv cs x h
 ·exact zN cs x h
theorem Ty.cu (t:Ty) (cs:List R) (x:t.El) (h:t.ey cs=some x):t.cells x=cs:=by
 cases t with
 |st s=>exact S.cu s cs x h
 |ho s=>
  replace h:(s.ey cs).bind (λx=>some (some x))=some x:=h
  obtain⟨y,hy,e⟩:=An.1 h;cases e
  exact S.cu s cs y hy
 |_=>
  match cs,h with
  |[r],h=>exact Ty.Fw _ r x h
end
section
inductive SV where
 |r (d:List Nat) (x:R)
 |cj
 |o6
 |own (i:Nat)
 |sub (i off len:Nat)
 |bsl (i n:Nat)
 |ptr (i idx off:Nat)
 |inn (i x c:Nat)
 |ki (d:List Nat) (cs:List R)
 |agg (cs:List SV)
 |tup (vs:List SV)
 |fn (f:Fn) (first cap:List SV)
 |undef
abbrev SV.i (n:Int):SV:=.r [] (.int .i64 n)
abbrev SV.b (b:Bool):SV:=.r [] (.bool b)
inductive Blk where
 |box (cs:List SV)
 |arr (sh:Option (List Nat)) (t:Ty) (xs:List t.El)
abbrev aI:=List (Nat× Blk)
structure St where
 cp:List (Nat× SV)
 heap:aI
 nid:Nat
 n:Nat
 gh:List (Option Nat):=[]
def look {α:Type}:List (Nat× α)->Nat->Option α
 |[],_=>none
 |(k,v)::l,n=>cond (Nat.beq k n) (some v) (look l n)
def put {α:Type}:List (Nat× α)->Nat->α->List (Nat× α)
 |[],n,v=>[(n,v)]
 |(k,u)::l,n,v=>cond (Nat.beq k n) ((k,v)::l) ((k,u)::put l n v)
def idx {α:Type} (xs:List α) (i:Int):Option α:=cond (decide (0<=i)) xs[i.toNat]? none
def mem (i:Nat):List Nat->Bool
 |[]=>false
 |k::l=>cond (Nat.beq k i) true (mem i l)
def hit (T:List Nat):List Nat->Bool
 |[]=>false
 |k::l=>cond (mem k T) true (hit T l)
abbrev Kil:=List Nat× List Nat
mutual
def SV.aL (T:Kil):SV->SV
 |.r d x=>cond (hit T.2 d) .undef (.r d x)
 |.own j=>cond (mem j T.1) .undef (.own j)
 |.sub j o n=>cond (mem j T.1) .undef (.sub j o n)
 |.bsl j n=>cond (mem j T.1) .undef (.bsl j n)
 |.ptr j x o=>cond (mem j T.1) .undef (.ptr j x o)
 |.inn j x c=>cond (mem j T.1||mem j T.2) .undef (.inn j x c)
 |.ki d cs=>cond (hit T.2 d) .undef (.ki d cs)
 |.agg cs=>.agg (gX T cs)
 |.tup cs=>.tup (gX T cs)
 |.fn f a b=>.fn f (gX T a) (gX T b)
 |.cj=>.cj
 |.o6=>.o6
 |.undef=>.undef
def gX (T:Kil):List SV->List SV
 |[]=>[]
 |v::l=>v.aL T::gX T l
end
def Blk.aL (T:Kil):Blk->Option Blk
 |.box cs=>some (.box (gX T cs))
 |.arr none t xs=>some (.arr none t xs)
 |.arr (some d) t xs=>cond (hit T.2 d) none (some (.arr (some d) t xs))
def xd (T:Kil):aI->Option aI
 |[]=>some []
 |(k,b)::l=>cond (mem k T.1) (xd T l) ((b.aL T).bind λb=>(xd T l).bind λl=>some ((k,b)::l))
def Hi (T:Kil):List (Nat× SV)->List (Nat× SV)
 |[]=>[]
 |(k,v)::l=>(k,v.aL T)::Hi T l
def ij (T:Kil) (h:aI):Option aI:=
 match T.2 with
 |[]=>some h
 |_=>xd T h
def nK (T:Kil) (s:List (Nat× SV)):List (Nat× SV):=
 match T.2 with
 |[]=>s
 |_=>Hi T s
def SV.list (h:aI) (t:Ty):SV->Option (List Nat× List t.El)
 |.r d x=>(x.asL t).bind λxs=>some (d,xs)
 |.cj=>some ([],[])
 |.own i=>match look h i with
  |some (.arr sh t' xs)=>if e:t'=t then some (i::sh.getD [],e▸xs)else none
  |_=>none
 |.sub i o n=>match look h i with
  |some (.arr sh t' xs)=>if e:t'=t then some (i::sh.getD [],((e▸xs).drop o).take n)else none
  |_=>none
 |_=>none
def SV.asInt (k:IntKind):SV->Option Int
 |.r _ (.int k' n)=>cond (decide (k'=k)) (some n) none
 |_=>none
def SV.asI:SV->Option Int
 |.r _ (.int _ n)=>some n
 |_=>none
def SV.asB:SV->Option Bool
 |.r _ (.bool b)=>some b
 |_=>none
def SV.asR (h:aI) (t:Ty) (v:SV):Option (List Nat× R):=
 match t with
 |.sl t'=>(v.list h t').bind λp=>some (p.1,.sl t' p.2)
 |.st _=>none
 |.tok=>match v with
  |.r d (.tok n)=>some (d,.tok n)
  |.cj=>some ([],.tok 0)
  |_=>none
 |_=>match v with
  |.r d x=>some (d,x)
  |_=>none
def S.tys:S->List Ty
 |.shape=>[.int .i64,.int .i64,.int .i64]
 |.dg=>[.int .i64,.int .i64,.int .i64,.sl (.int .i64)]
 |.aH=>[.int .i64,.int .i64,.int .i64,.int .i64,.int .i64,.int .i64,.int .i64,.sl (.int .i64),.sl (.int .i64)]
 |.model=>[.int .i64,.int .i64,.int .i64,.sl (.st .aH)]
 |.task=>[.int .i64,.sl (.int .i64),.int .i64,.int .i64,.int .i64]
 |.request=>[.int .i64,.int .i64,.int .i64,.int .i64,.int .i64,.sl (.st .aH),.int .i64,.int .i64,.int .i64,.int .i64,.sl (.int .i64),.int .i64,.int .i64]
 |.step=>[.int .i64,.int .i64,.int .i64,.sl (.int .u8),.int .i64,.int .i64,.int .i64,.sl (.int .i64)]
 |.event=>[.int .i64,.int .i64,.int .i64,.int .i64,.int .i64,.int .i64,.sl (.int .i64)]
 |.entry=>[.int .i64,.int .i64,.int .i64,.int .i64,.sl (.st .aH),.int .i64,.int .i64,.int .i64,.sl (.int .i64),.int .i64,.int .i64,.int .i64,.bool]
 |.Ms=>[.int .i64,.int .i64,.int .i64]
 |.cS=>[.int .i64,.tok,.int .i64,.int .i64,.int .i64]
 |.ig=>[.int .i64,.int .i64,.int .i64,.int .i64,.int .i64,.tok,.int .i64,.int .i64,.int .i64,.int .i64,.tok,.int .i64,.int .i64]
def Ty.tys:Ty->List Ty
 |.st s=>s.tys
 |.ho s=>s.tys
 |.hl t=>[.sl t]
 |t=>[t]
def J0 (h:aI):List Ty->List SV->Option (List Nat× List R)
 |[],[]=>some ([],[])
 |t::ts,v::vs=>(v.asR h t).bind λp=>(J0 h ts vs).bind λq=>some (p.1++q.1,p.2::q.2)
 |_,_=>none
def QB (h:aI) (t:Ty) (vs:List SV):Option (List Nat× t.El):=
 (J0 h t.tys vs).bind λp=>(t.ey p.2).bind λx=>some (p.1,x)
def SV.cells:SV->Option (List SV)
 |.agg cs=>some cs
 |.tup _=>none
 |.undef=>none
 |v=>some [v]
mutual
def SV.ids:SV->List Nat
 |.own i=>[i]
 |.sub i _ _=>[i]
 |.bsl i _=>[i]
 |.ptr i _ _=>[i]
 |.agg cs=>IA cs
 |.tup cs=>IA cs
 |.fn _ a b=>IA a++IA b
 |_=>[]
def IA:List SV->List Nat
 |[]=>[]
 |v::l=>v.ids++IA l
end
def oS:List Nat->List Nat->List Nat
 |acc,[]=>acc
 |acc,i::l=>cond (mem i acc) (oS acc l) (oS (acc++[i]) l)
def N6 (h:aI):List Nat->List Nat
 |[]=>[]
 |i::l=>(match look h i with
  |some (.box cs)=>IA cs
  |_=>[])++N6 h l
def reach (h:aI):Nat->List Nat->List Nat
 |0,L=>L
 |n+1,L=>reach h n (oS L (N6 h L))
def uh:Value->Option SV
 |.bool b=>some (.b b)
 |.int k n=>some (.r [] (.int k n))
 |.string s=>some (.r [] (.str s.data.toList))
 |.slice none 0 0=>some .cj
 |.pointer none=>some .o6
 |_=>none
def Ag:List Value->Option (List SV)
 |[]=>some []
 |v::l=>(uh v).bind λx=>(Ag l).bind λxs=>some (x::xs)
def Hj:Value->Option SV
 |.agg cs=>(Ag cs.toList).bind λl=>some (.agg l)
 |v=>uh v
def opd (cp:List (Nat× SV)):Operand->Option SV
 |.tmp t=>look cp t
 |.const v=>Hj v
 |.func f=>some (.fn (.func f) [] [])
 |.global _=>none
def rJ (cp:List (Nat× SV)):List Operand->Option (List SV)
 |[]=>some []
 |x::l=>(opd cp x).bind λv=>(rJ cp l).bind λvs=>some (v::vs)
end
section
abbrev TT:=TypeId->Option Ty
def aN:Nat:=2^38
def xe (P:Program) (T:TypeId):Bool:=
 match P.underlying T with
 |some (.struct _)=>true
 |some (.array _ _)=>true
 |_=>false
def lO (P:Program) (T:TypeId):Option TypeId:=
 match P.underlying T with
 |some (.slice e)=>some e
 |_=>none
def ui (P:Program) (T:TypeId) (f:Nat):Option Field:=
 match P.underlying T with
 |some (.struct fs)=>(fs[f]?).bind λf=>(P.info? f.type).bind λi=>cond (Nat.beq i.size 0) none (some f)
 |_=>none
def iS (P:Program) (T:TypeId):Option Nat:=(P.info? T).bind λi=>some i.size
def sI (P:Program):List Field->Option (List (Nat× Nat))
 |[]=>some []
 |f::fs=>(iS P f.type).bind λs=>(sI P fs).bind λl=>some ((f.offset,s)::l)
def takeN {α:Type} (n:Nat) (l:List α):Option (List α):=cond (Nat.ble n l.length) (some (l.take n)) none
def ik (P:Program) (T:TypeId) (cs:List SV):Option SV:=
  (P.underlying T).bind λ_=>(P.info? T).bind λi=>(takeN i.size cs).bind λl=>
    cond (xe P T) (some (.agg l)) (match l with|[v]=>some v|_=>none)
def mkR (d:List Nat):R->SV
 |.sl t xs=>.r d (.sl t xs)
 |x=>.r [] x
def Kc (i:Nat):Option (List Nat)->List Nat
 |none=>[i]
 |some d=>d
def lb (h:aI):SV->Option (List SV)
 |.ki d cs=>some (cs.map (mkR d))
 |.ptr i x o=>match look h i with
  |some (.box cs)=>some (cs.drop o)
  |some (.arr sh t xs)=>(xs[x]?).bind λe=>some (((t.cells e).map (mkR (Kc i sh))).drop o)
  |_=>none
 |_=>none
def gg (P:Program) (T:TypeId):Option (List SV):=
 (P.info? T).bind λi=>i.zero.bind λz=>(Hj z).bind λv=>v.cells
def o7 (place:Nat->Option (Nat× Nat)):List SV->List (Nat× SV)->Option (List SV)
 |cs,[]=>some cs
 |cs,(k,v)::l=>(place k).bind λp=>v.cells.bind λvs=>
   cond (Nat.beq vs.length p.2) (cond (Nat.ble (p.1+vs.length) cs.length) (o7 place (cs.take p.1++vs++cs.drop (p.1+vs.length)) l) none) none
def PF (op:BinOp) (k:IntKind) (a b:Int):Option R:=
 match op with
 |.add=>some (.int k (k.wrap (a+b)))
 |.sub=>some (.int k (k.wrap (a-b)))
 |.mul=>some (.int k (k.wrap (a*b)))
 |.quo=>cond (decide (b=0)) none (some (.int k (k.wrap (a.tdiv b))))
 |.rem=>cond (decide (b=0)) none (some (.int k (a.tmod b)))
 |.and=>some (.int k (k.wrap (BitVec.ofInt k.bits a&&& BitVec.ofInt k.bits b).toNat))
 |.or=>some (.int k (k.wrap (BitVec.ofInt k.bits a||| BitVec.ofInt k.bits b).toNat))
 |.xor=>some (.int k (k.wrap (BitVec.ofInt k.bits a^^^ BitVec.ofInt k.bits b).toNat))
 |.eql=>some (.bool (a==b))
 |.neq=>some (.bool (a !=b))
 |.lss=>some (.bool (decide (a<b)))
 |.leq=>some (.bool (decide (a<=b)))
 |.gtr=>some (.bool (decide (a>b)))
 |.geq=>some (.bool (decide (a>=b)))
 |_=>none
def Dl (op:BinOp) (k:IntKind) (a b:Int):Option R:=
  cond (decide (b<0)) none
    (match op with
     |.shl=>some (.int k (k.wrap (a*2^(min b.toNat k.bits))))
     |.shr=>some (.int k (a.fdiv (2^(min b.toNat k.bits))))
     |_=>none)
def PN (op:BinOp) (a b:List UInt8):Option R:=
 match op with
 |.add=>cond (decide (a.length+b.length<=aN)) (some (.str (a++b))) none
 |.eql=>some (.bool (a==b))
 |.neq=>some (.bool (!(a==b)))
 |.lss=>some (.bool (Op.bytesLess a b))
 |.leq=>some (.bool (Op.bytesLess a b||a==b))
 |.gtr=>some (.bool (!(Op.bytesLess a b||a==b)))
 |.geq=>some (.bool (!(Op.bytesLess a b)))
 |_=>none
def MC (P:Program) (xs ys:List SV):List Field->Option Bool
 |[]=>some true
 |f::fs=>cond (decide (f.name= "_")) none (match P.underlying f.type,xs[f.offset]?,ys[f.offset]? with
  |some (.int _),some (.r _ (.int k a)),some (.r _ (.int l b))=>cond (decide (k=l)) ((MC P xs ys fs).bind λt=>some (cond (a==b) t false)) none
  |_,_,_=>none)
def PO (P:Program) (T:TypeId) (xs ys:List SV):Option Bool:=
 cond (P.stoodInHeld T) none (cond (P.eqGuardType P.depth T) none (match P.underlying T with
  |some (.struct fs)=>MC P xs ys fs.toList
  |_=>none))
def Kd:BinOp->Bool
 |.shl|.shr=>true
 |_=>false
def isEq:BinOp->Option Bool
 |.eql=>some true
 |.neq=>some false
 |_=>none
def bin (P:Program) (T:TypeId) (op:BinOp) (x y:SV):Option SV:=
 match x,y with
 |.r _ (.int k a),.r _ (.int l b)=>cond (Kd op) ((Dl op k a b).bind λr=>some (.r [] r)) (cond (decide (k=l)) ((PF op k a b).bind λr=>some (.r [] r)) none)
 |.r _ (.str a),.r _ (.str b)=>(PN op a b).bind λr=>some (.r [] r)
 |.r _ (.bool a),.r _ (.bool b)=>match P.underlying T with
  |some .bool=>(isEq op).bind λe=>some (.b (cond e (a==b) (!(a==b))))
  |_=>none
 |.agg a,.agg b=>(isEq op).bind λe=>(PO P T a b).bind λt=>some (.b (cond e t (!t)))
 |_,_=>none
def un (op:UnOp) (x:SV):Option SV:=
 match op,x with
 |.neg,.r _ (.int k n)=>some (.r [] (.int k (k.wrap (0-n))))
 |.not,.r _ (.bool b)=>some (.b (!b))
 |_,_=>none
def lenOf (h:aI):SV->Option Nat
 |.r _ (.str l)=>some l.length
 |.r _ (.sl _ xs)=>some xs.length
 |.cj=>some 0
 |.own i=>match look h i with
  |some (.arr _ _ xs)=>some xs.length
  |_=>none
 |.sub _ _ n=>some n
 |.bsl _ n=>some n
 |_=>none
def QC (P:Program) (T:TypeId):SV->Bool
 |.r _ (.str _)=>match P.underlying T with
  |some .string=>true
  |_=>false
 |_=>match P.underlying T with
  |some (.slice _)=>true
  |_=>false
def bounds (n:Nat) (lo hi:Option SV):Option (Nat× Nat):=
  (match hi with
   |none=>some n
   |some v=>v.asI.bind λx=>cond (decide (0<=x/\x<=(n:Int))) (some x.toNat) none).bind λh=>
  (match lo with
   |none=>some 0
   |some v=>v.asI.bind λx=>cond (decide (0<=x/\x<=(h:Int))) (some x.toNat) none).bind λl=>some (l,h)
def slT (P:Program) (T:TypeId) (t:Ty):Bool:=
 match P.underlying T with
 |some (.slice e)=>match iS P e with
  |some n=>Nat.beq n t.sz
  |none=>false
 |_=>false
def Hk (P:Program) (T:TypeId):Bool:=
 match P.underlying T with
 |some (.slice e)=>(iS P e).isSome
 |_=>false
def isStr (P:Program) (T:TypeId):Bool:=
 match P.underlying T with
 |some .string=>true
 |_=>false
def QM (n m:Nat):Option SV->Nat
 |none=>n
 |some _=>m
def iX (P:Program) (T:TypeId) (h:aI) (x:SV) (lo hi:Option SV):Option SV:=
 match x with
 |.r d (.str l)=>cond (isStr P T) ((bounds l.length lo hi).bind λb=>some (.r d (.str ((l.take b.2).drop b.1)))) none
 |.r d (.sl t xs)=>cond (slT P T t) ((bounds xs.length lo hi).bind λb=>some (.r d (.sl t ((xs.take b.2).drop b.1)))) none
 |.cj=>cond (Hk P T) ((bounds 0 lo hi).bind λ_=>some .cj) none
 |.own i=>match look h i with
  |some (.arr _ t xs)=>cond (slT P T t) ((bounds xs.length lo hi).bind λb=>some (.sub i b.1 (b.2-b.1))) none
  |_=>none
 |.sub i o n=>match look h i with
  |some (.arr _ t xs)=>cond (slT P T t) ((bounds (QM n (xs.length-o) hi) lo hi).bind λb=>some (.sub i (o+b.1) (b.2-b.1))) none
  |_=>none
 |_=>none
def slN (P:Program) (T:TypeId) (h:aI) (x:SV):Option Nat:=
 match x with
 |.r _ (.sl t xs)=>cond (slT P T t) (some xs.length) none
 |.own i=>match look h i with
  |some (.arr _ t xs)=>cond (slT P T t) (some xs.length) none
  |_=>none
 |_=>none
def wy (P:Program) (T:TypeId) (h:aI) (x:SV) (lo:Option SV) (hi m:SV):Option SV:=
 (slN P T h x).bind λn=>m.asI.bind λz=>cond (decide (0<=z/\z<=(n:Int))) ((bounds z.toNat lo (some hi)).bind λ_=>some .undef) none
def bL (P:Program) (T:TypeId) (h:aI) (x:SV) (k:Int):Option SV:=
 match x with
 |.r d (.sl t xs)=>cond (slT P T t) ((idx xs k).bind λe=>some (.ki d (t.cells e))) none
 |.own i=>match look h i with
  |some (.arr _ t xs)=>cond (slT P T t) (cond (decide (0<=k/\k<(xs.length:Int))) (some (.ptr i k.toNat 0)) none) none
  |_=>none
 |.sub i o n=>match look h i with
  |some (.arr _ t _)=>cond (slT P T t) (cond (decide (0<=k/\k<(n:Int))) (some (.ptr i (o+k.toNat) 0)) none) none
  |_=>none
 |.bsl i n=>(lO P T).bind λe=>(iS P e).bind λsz=>cond (decide (0<=k/\k<(n:Int))) (some (.ptr i 0 (k.toNat*sz))) none
 |_=>none
def Ke (P:Program) (src dst:TypeId) (x:SV):Option SV:=
 match P.underlying src,P.underlying dst,x with
 |some (.int _),some (.int k),.r _ (.int _ n)=>some (.r [] (.int k (k.wrap n)))
 |some .string,some .string,.r _ (.str l)=>some (.r [] (.str l))
 |_,_,_=>none
def vE (P:Program) (T:TypeId):Bool:=
 match lO P T with
 |some e=>match P.underlying e with
  |some (.int .u8)=>true
  |_=>false
 |none=>false
def bytesOf (l:List Int):List UInt8:=l.map λn=>UInt8.ofNat n.toNat
def Mt (cp:List (Nat× SV)):Option Operand->Option (Option SV)
 |none=>some none
 |some x=>(opd cp x).bind λv=>some (some v)
def rr (cp:List (Nat× SV)):List (Nat× Operand)->Option (List (Nat× SV))
 |[]=>some []
 |(k,x)::l=>(opd cp x).bind λv=>(rr cp l).bind λvs=>some ((k,v)::vs)
def gl (P:Program) (s:List (Nat× SV)) (h:aI) (op:Op):Option SV:=
 match op with
 |.move x|.assign x=>opd s x
 |.pick c a b=>(opd s c).bind λc=>c.asB.bind λc=>cond c (opd s a) (opd s b)
 |.build T parts=>
  match P.underlying T with
  |some (.struct fs)=>(sI P fs.toList).bind λpl=>(gg P T).bind λz=>(rr s parts.toList).bind λps=>
   (o7 (λk=>pl[k]?) z ps).bind λcs=>some (.agg cs)
  |_=>none
 |.load T a=>(opd s a).bind λa=>(lb h a).bind λcs=>ik P T cs
 |.nilCheck x=>(opd s x).bind λv=>match v with
  |.ptr i x o=>some (.ptr i x o)
  |.ki d cs=>some (.ki d cs)
  |_=>none
 |.binOp op T x y _=>(opd s x).bind λx=>(opd s y).bind λy=>bin P T op x y
 |.unOp op _ x=>(opd s x).bind λx=>un op x
 |.convert src dst x=>(opd s x).bind λx=>cond (vE P src&&isStr P dst) ((x.list h (.int .u8)).bind λp=>some (.r [] (.str (bytesOf p.2)))) (Ke P src dst x)
 |.makeFunc fn first cap=>(rJ s first.toList).bind λa=>(rJ s cap.toList).bind λb=>some (.fn fn a b)
 |.slice T x lo hi none=>(opd s x).bind λx=>(Mt s lo).bind λlo=>(Mt s hi).bind λhi=>iX P T h x lo hi
 |.slice T x lo (some hi) (some m)=>(opd s x).bind λx=>(Mt s lo).bind λlo=>(opd s hi).bind λhi=>(opd s m).bind λm=>wy P T h x lo hi m
 |.fieldAddr T x f=>(opd s x).bind λx=>(ui P T f).bind λf=>match x with
  |.ki d cs=>some (.ki d (cs.drop f.offset))
  |.ptr i k o=>some (.ptr i k (o+f.offset))
  |_=>none
 |.field T x f=>(opd s x).bind λx=>(ui P T f).bind λf=>match x with
  |.agg cs=>ik P f.type (cs.drop f.offset)
  |_=>none
 |.indexAddr T x k=>(opd s x).bind λx=>(opd s k).bind λk=>k.asI.bind λk=>bL P T h x k
 |.index T x k=>(opd s x).bind λx=>(opd s k).bind λk=>k.asI.bind λk=>match x with
  |.r _ (.str l)=>cond (isStr P T) ((idx l k).bind λc=>some (.r [] (.int .u8 c.toNat))) none
  |_=>none
 |.extract x k=>(opd s x).bind λx=>match x with
  |.tup vs=>vs[k]?
  |_=>none
 |.call {callee:=.builtin .len,args,argTypes}=>(rJ s args.toList).bind λvs=>match vs,argTypes.toList with
  |[v],T::_=>cond (QC P T v) ((lenOf h v).bind λn=>some (.i n)) none
  |_,_=>none
 |.call {callee:=.builtin .cap,args,argTypes}=>(rJ s args.toList).bind λvs=>match vs,argTypes.toList with
  |[.cj],T::_=>cond (Hk P T) (some (.i 0)) none
  |_,_=>none
 |.call {callee:=.builtin .min,args,.. }=>(rJ s args.toList).bind λvs=>match vs with
  |[.r _ (.int k a),.r _ (.int _ b)]=>some (.r [] (.int k (if b<a then b else a)))
  |[.r _ (.int k a),.r _ (.int _ b),.r _ (.int _ c)]=>some (.r [] (.int k (if c<(if b<a then b else a)then c else(if b<a then b else a))))
  |_=>none
 |.call {callee:=.builtin .max,args,.. }=>(rJ s args.toList).bind λvs=>match vs with
  |[.r _ (.int k a),.r _ (.int _ b)]=>some (.r [] (.int k (if b>a then b else a)))
  |_=>none
 |_=>none
def BB {α:Type} (h:aI) (v:SV) (K:List SV->Option α):Option α:=
 match v with
 |.ki d cs=>K (cs.map (mkR d))
 |.ptr i x o=>match look h i with
  |some (.box cs)=>K (cs.drop o)
  |some (.arr sh t xs)=>(xs[x]?).bind λe=>K (((t.cells e).map (mkR (Kc i sh))).drop o)
  |_=>none
 |_=>none
def Ov {α:Type} (op:BinOp) (k:IntKind) (a b:Int) (K:R->Option α):Option α:=
 match op with
 |.quo=>cond (decide (b=0)) none (K (.int k (k.wrap (a.tdiv b))))
 |.rem=>cond (decide (b=0)) none (K (.int k (a.tmod b)))
 |op=>(PF op k a b).bind K
def Fx {α:Type} (op:BinOp) (k:IntKind) (a b:Int) (K:R->Option α):Option α:=
  cond (decide (b<0)) none
    (match op with
     |.shl=>K (.int k (k.wrap (a*2^(min b.toNat k.bits))))
     |.shr=>K (.int k (a.fdiv (2^(min b.toNat k.bits))))
     |_=>none)
def Ow {α:Type} (op:BinOp) (a b:List UInt8) (K:R->Option α):Option α:=
 match op with
 |.add=>cond (decide (a.length+b.length<=aN)) (K (.str (a++b))) none
 |op=>(PN op a b).bind K
def QN {α:Type} (P:Program) (T:TypeId) (op:BinOp) (x y:SV) (K:SV->Option α):Option α:=
 match x,y with
 |.r _ (.int k a),.r _ (.int l b)=>cond (Kd op) (Fx op k a b λr=>K (.r [] r)) (cond (decide (k=l)) (Ov op k a b λr=>K (.r [] r)) none)
 |.r _ (.str a),.r _ (.str b)=>Ow op a b λr=>K (.r [] r)
 |x,y=>(bin P T op x y).bind K
def o8 {α:Type} (n:Nat) (lo hi:Option SV) (K:Nat->Nat->Option α):Option α:=
 let lower (h:Nat):Option α:=match lo with
  |none=>K 0 h
  |some v=>v.asI.bind λx=>cond (decide (0<=x/\x<=(h:Int))) (K x.toNat h) none
 match hi with
 |none=>lower n
 |some v=>v.asI.bind λx=>cond (decide (0<=x/\x<=(n:Int))) (lower x.toNat) none
def Kf {α:Type} (P:Program) (T:TypeId) (h:aI) (x:SV) (lo hi:Option SV) (K:SV->Option α):Option α:=
 match x with
 |.r d (.str l)=>cond (isStr P T) (o8 l.length lo hi λa b=>K (.r d (.str ((l.take b).drop a)))) none
 |.r d (.sl t xs)=>cond (slT P T t) (o8 xs.length lo hi λa b=>K (.r d (.sl t ((xs.take b).drop a)))) none
 |.cj=>cond (Hk P T) (o8 0 lo hi λ_ _=>K .cj) none
 |.own i=>match look h i with
  |some (.arr _ t xs)=>cond (slT P T t) (o8 xs.length lo hi λa b=>K (.sub i a (b-a))) none
  |_=>none
 |.sub i o n=>match look h i with
  |some (.arr _ t xs)=>cond (slT P T t) (o8 (QM n (xs.length-o) hi) lo hi λa b=>K (.sub i (o+a) (b-a))) none
  |_=>none
 |_=>none
def uj {α:Type} (P:Program) (T:TypeId) (h:aI) (x:SV) (k:Int) (K:SV->Option α):Option α:=
 match x with
 |.r d (.sl t xs)=>cond (slT P T t) ((idx xs k).bind λe=>K (.ki d (t.cells e))) none
 |.own i=>match look h i with
  |some (.arr _ t xs)=>cond (slT P T t) (cond (decide (0<=k/\k<(xs.length:Int))) (K (.ptr i k.toNat 0)) none) none
  |_=>none
 |.sub i o n=>match look h i with
  |some (.arr _ t _)=>cond (slT P T t) (cond (decide (0<=k/\k<(n:Int))) (K (.ptr i (o+k.toNat) 0)) none) none
  |_=>none
 |x=>(bL P T h x k).bind K
def Dm {α:Type} (P:Program) (T:TypeId) (h:aI) (x:SV) (lo:Option SV) (hi m:SV) (K:SV->Option α):Option α:=
 (slN P T h x).bind λn=>m.asI.bind λz=>cond (decide (0<=z/\z<=(n:Int))) (o8 z.toNat lo (some hi) λ_ _=>K .undef) none
def nL {α:Type} (P:Program) (s:List (Nat× SV)) (h:aI) (op:Op) (K:SV->Option α):Option α:=
 match op with
 |.load T a=>(opd s a).bind λa=>BB h a λcs=>(ik P T cs).bind K
 |.binOp op T x y _=>(opd s x).bind λx=>(opd s y).bind λy=>QN P T op x y K
 |.slice T x lo hi none=>(opd s x).bind λx=>(Mt s lo).bind λlo=>(Mt s hi).bind λhi=>Kf P T h x lo hi K
 |.slice T x lo (some hi) (some m)=>(opd s x).bind λx=>(Mt s lo).bind λlo=>(opd s hi).bind λhi=>(opd s m).bind λm=>Dm P T h x lo hi m K
 |.indexAddr T x k=>(opd s x).bind λx=>(opd s k).bind λk=>k.asI.bind λk=>uj P T h x k K
 |.index T x k=>(opd s x).bind λx=>(opd s k).bind λk=>k.asI.bind λk=>match x with
  |.r _ (.str l)=>cond (isStr P T) ((idx l k).bind λc=>K (.r [] (.int .u8 c.toNat))) none
  |_=>none
 |op=>(gl P s h op).bind K
theorem du {α β:Type} (b:Bool) (x y:Option α) (K:α->Option β):(cond b x y).bind K=cond b (x.bind K) (y.bind K):=by cases b<;>rfl
theorem Fy {α:Type} (h:aI) (v:SV) (K:List SV->Option α):BB h v K=(lb h v).bind K:=by
 unfold BB lb;split
 ·rfl
 ·split
  ·rfl
  ·rw[RX];rfl
  ·rfl
 ·rfl
theorem MD {α:Type} (op:BinOp) (k:IntKind) (a b:Int) (K:R->Option α):Ov op k a b K=(PF op k a b).bind K:=by
 unfold Ov;split
 ·show _=(cond _ none (some _)).bind K;rw[du];rfl
 ·show _=(cond _ none (some _)).bind K;rw[du];rfl
 ·rfl
theorem IB {α:Type} (op:BinOp) (k:IntKind) (a b:Int) (K:R->Option α):Fx op k a b K=(Dl op k a b).bind K:=by
 unfold Fx Dl;rw[du];cases op<;>rfl
theorem ME {α:Type} (op:BinOp) (a b:List UInt8) (K:R->Option α):Ow op a b K=(PN op a b).bind K:=by
 unfold Ow;split
 ·show _=(cond _ (some _) none).bind K;rw[du];rfl
 ·rfl
theorem Ox {α:Type} (P:Program) (T:TypeId) (op:BinOp) (x y:SV) (K:SV->Option α):QN P T op x y K=(bin P T op x y).bind K:=by
 unfold QN;split
 ·simp only[bin,du,IB,MD,RX,RE,Se]
 ·simp only[bin,ME,RX,RE]
 ·rfl
theorem kU {α:Type} (n:Nat) (lo hi:Option SV) (K:Nat->Nat->Option α):o8 n lo hi K=(bounds n lo hi).bind λb=>K b.1 b.2:=by
 unfold o8 bounds;cases hi<;>cases lo<;>simp only[RX,RE,du,Se]
theorem Kg {α:Type} (P:Program) (T:TypeId) (h:aI) (x:SV) (lo hi:Option SV) (K:SV->Option α):Kf P T h x lo hi K=(iX P T h x lo hi).bind K:=by
 unfold Kf iX;split
 ·simp only[du,kU,RX,RE,Se]
 ·simp only[du,kU,RX,RE,Se]
 ·simp only[du,kU,RX,RE,Se]
 ·split
  ·simp only[du,kU,RX,RE,Se]
  ·rfl
 ·split
  ·simp only[du,kU,RX,RE,Se]
  ·rfl
 ·rfl
theorem BC {α:Type} (P:Program) (T:TypeId) (h:aI) (x:SV) (k:Int) (K:SV->Option α):uj P T h x k K=(bL P T h x k).bind K:=by
 unfold uj;split
 ·simp only[bL,du,RX,RE,Se]
 ·simp only[bL];split
  ·simp only[du,RE,Se]
  ·rfl
 ·simp only[bL];split
  ·simp only[du,RE,Se]
  ·rfl
 ·rfl
theorem nM {α:Type} (P:Program) (s:List (Nat× SV)) (h:aI) (op:Op) (K:SV->Option α):nL P s h op K=(gl P s h op).bind K:=by
 unfold nL;split
 ·simp only[gl,Fy,RX]
 ·simp only[gl,Ox,RX]
 ·simp only[gl,Kg,RX]
 ·simp only[gl,Dm,wy,kU,RX,du,RE,Se]
 ·simp only[gl,BC,RX]
 ·simp only[gl,RX]
  congr 1;funext x;congr 1;funext k;congr 1;funext k
  split
  ·simp only[du,RX,RE,Se]
  ·rfl
 ·rfl
structure CR where
 v:SV
 news:List Blk:=[]
 upd:aI:=[]
 gone:List Nat:=[]
 ld:List Nat:=[]
def CR.kil (c:CR):Kil:=(c.gone,c.gone++c.ld)
abbrev Out:=SV× List Blk
abbrev Orc:=(ρ:Type)->Nat->List SV->aI->(CR->Option ρ)->Option ρ
def PQ:Orc:=λ_ _ _ _ _=>none
def aK:Nat->List Blk->aI
 |_,[]=>[]
 |n,b::l=>(n,b)::aK (n+1) l
inductive Co where
 |oT (sh:Bool) (t:Ty)
 |ro (t:Ty)
 |drop
 |dep (j:Nat)
 |MF (t j:Nat)
inductive gK where
 |slot (t:Nat)
 |cell (t j:Nat)
 |box (i j:Nat)
 |J1 (t j:Nat)
 |gh (k:Nat)
def coV (n:Nat) (h:aI):Co->SV->SV× List Blk
 |.oT sh t,.cj=>(.own n,[.arr (cond sh (some []) none) t []])
 |.ro t,v=>match v.list h t with
  |some p=>(.r p.1 (.sl t p.2),[])
  |none=>(v,[])
 |.drop,_=>(.undef,[])
 |.dep j,.r d x=>(.r (cond (mem j d) d (d++[j])) x,[])
 |_,v=>(v,[])
def MH (st:St) (i j:Nat) (c:Co):St:=
 match look st.heap i with
 |some (.box cs)=>match cs[j]? with
  |some v=>{st with heap:=put (st.heap++aK st.nid (coV st.nid st.heap c v).2) i (.box (cs.set j (coV st.nid st.heap c v).1)),nid:=st.nid+(coV st.nid st.heap c v).2.length}
  |none=>st
 |_=>st
def Dn (st:St):gK× Co->St
  | (.slot t, c) => match look st.cp t with
    |some v=>{st with cp:=put st.cp t (coV st.nid st.heap c v).1,heap:=st.heap++aK st.nid (coV st.nid st.heap c v).2,nid:=st.nid+(coV st.nid st.heap c v).2.length}
    |none=>st
  | (.cell t j, c) => match look st.cp t with
    | some (.agg cs) => match cs[j]? with
      |some v=>{st with cp:=put st.cp t (.agg (cs.set j (coV st.nid st.heap c v).1)),heap:=st.heap++aK st.nid (coV st.nid st.heap c v).2,nid:=st.nid+(coV st.nid st.heap c v).2.length}
      |none=>st
    |_=>st
  |(.box i j,c)=>MH st i j c
  | (.J1 t j, c) => match look st.cp t with
    |some (.ptr i _ _)=>MH st i j c
    |_=>st
  |(.gh k,_)=>{st with gh:=st.gh.set k none}
def QO (st:St):Co->Co
 |.MF t j=>match look st.cp t with
  |some (.ptr i _ _)=>match look st.heap i with
   |some (.box cs)=>match cs[j]? with
    |some (.own k)=>.dep k
    |_=>.dep 0
   |_=>.dep 0
  |_=>.dep 0
 |c=>c
def PR (st:St) (x:gK× Co):St:=Dn st (x.1,QO st x.2)
def Kh:List (gK× Co)->St->St
 |[],st=>st
 |x::l,st=>Kh l (PR st x)
structure Env where
 P:Program
 tt:TT
 orc:FuncId->Orc
 wr:FuncId->Bool:=λ_=>false
 wt:Bool:=false
 inn:Bool:=false
 fz:Nat->List (Bool× Nat× List Nat):=λ_=>[]
 wk:Nat->List (gK× Co):=λ_=>[]
 lit:Bool:=false
 tak:Bool:=false
 tkt:List Nat:=[]
 swp:Bool:=false
def ru:aI->aI->aI
 |[],h=>h
 |(k,b)::l,h=>ru l (put h k b)
def PS (s:List (Nat× SV)) (n:Nat) (dst:Option Tmp) (v:SV):Option (List (Nat× SV)):=
 match dst with
 |some t=>cond (Nat.ble (t+1) n) (some (put s t v)) none
 |none=>some s
def St.take (st:St) (dst:Option Tmp) (c:CR):Option St:=
  (ij c.kil (ru c.upd st.heap)).bind λh=>(PS (nK c.kil st.cp) st.n dst c.v).bind λs=>
    some {st with cp:=s,heap:=h++aK st.nid c.news,nid:=st.nid+c.news.length}
def setCells (cs:List SV) (o:Nat) (vs:List SV):Option (List SV):=
 cond (Nat.ble (o+vs.length) cs.length) (some (cs.take o++vs++cs.drop (o+vs.length))) none
def o9:Ty->Bool
 |.sl _=>false
 |.ho _|.hl _=>false
 |.st .shape|.st .Ms|.st .cS|.st .ig=>true
 |.st _=>false
 |_=>true
def isNil {α:Type}:List α->Bool
 |[]=>true
 |_=>false
def IC (h:aI) (t:Ty):Nat->List SV->Option (List Nat× List t.El)
 |0,_=>some ([],[])
 |n+1,cs=>(QB h t (cs.take t.sz)).bind λp=>(IC h t n (cs.drop t.sz)).bind λq=>some (p.1++q.1,p.2::q.2)
def SV.J2 (h:aI) (t:Ty) (v:SV):Option (List Nat× R):=
 match t with
 |.sl t'=>match v with
  |.cj=>some ([],.sl t' [])
  |.own i=>match look h i with
   |some (.arr none t1 xs)=>if e:t1=t' then some ([i],.sl t' (e▸xs))else none
   |_=>none
  |_=>none
 |.st _=>none
 |.tok=>match v with
  |.r _ (.tok n)=>some ([],.tok n)
  |.cj=>some ([],.tok 0)
  |_=>none
 |_=>match v with
  |.r _ (.int k n)=>some ([],.int k n)
  |.r _ (.bool b)=>some ([],.bool b)
  |.r _ (.str l)=>some ([],.str l)
  |_=>none
def Fz (h:aI):List Ty->List SV->Option (List Nat× List R)
 |[],[]=>some ([],[])
 |t::ts,v::vs=>(v.J2 h t).bind λp=>(Fz h ts vs).bind λq=>some (p.1++q.1,p.2::q.2)
 |_,_=>none
def iU (h:aI) (t:Ty):Nat->List SV->Option (List Nat× List t.El)
 |0,_=>some ([],[])
 |n+1,cs=>(Fz h t.tys (cs.take t.sz)).bind λp=>(t.ey p.2).bind λx=>(iU h t n (cs.drop t.sz)).bind λq=>some (p.1++q.1,x::q.2)
def gu:List Nat->Bool
 |[]=>true
 |i::l=>cond (mem i l) false (gu l)
def Dp (h:aI):List SV->Option Bool
 |[]=>some true
 |.own i::l=>(look h i).bind λb=>match b with
  |.arr none _ _=>Dp h l
  |.arr (some _) _ _=>some false
  |.box _=>none
 |.r _ (.sl _ _)::_=>some false
 |.sub _ _ _::_=>some false
 |.bsl _ _::_=>some false
 |_::l=>Dp h l
def Hl (h:aI) (t:Ty) (n:Nat) (cs:List SV):Option (Option (List Nat)× List Nat× List t.El):=
 (Dp h cs).bind λb=>cond b ((iU h t n cs).bind λq=>cond (gu q.1) (some (none,q.1,q.2)) none) ((IC h t n cs).bind λq=>some (some q.1,[],q.2))
def oU (h:aI):SV->List Nat->List Nat
 |.own i,d=>match look h i with
  |some (.arr (some d') _ _)=>d'
  |_=>d
 |_,d=>d
def rK (h:aI) (t:Ty) (v:SV):Option (Option (List Nat)× List Nat× List t.El):=
 match v with
 |.bsl i n=>match look h i with
  |some (.box cs)=>(Hl h t n cs).bind λq=>some (q.1,i::q.2.1,q.2.2)
  |_=>none
 |_=>(v.list h t).bind λp=>cond (o9 t) (some (none,[],p.2)) (some (some (oU h v p.1),[],p.2))
def Hm (a b:Option (List Nat)):Option (Option (List Nat)):=
 match a,b with
 |none,none=>some none
 |some d,some d'=>some (some (d++d'))
 |some d,none=>some (some d)
 |none,some d=>some (some d)
def pb (P:Program) (T:TypeId):Bool:=
 match P.info? T with
 |some i=>Nat.ble i.bytes 512
 |none=>false
def PT (E:Env) (s:List (Nat× SV)) (h:aI) (T:TypeId) (a:Operand):Option SV:=
 cond E.inn (cond (Hk E.P T) (match opd s a with
  |some (.ptr i x o)=>match look h i with
   |some (.arr none t _)=>cond (Nat.ble (o+1) t.sz) (some (.inn i x o)) none
   |_=>none
  |_=>none) none) none
def PU {α:Type} (xs:List α) (x:Nat):List (Option α):=(xs.map some).set x none
def Dq {α:Type}:List (Option α)->Option (List α)
 |[]=>some []
 |none::_=>none
 |some x::l=>(Dq l).bind λl=>some (x::l)
def sJ (n:Nat):List R->List SV
 |[]=>[]
 |.sl _ _::l=>.own n::sJ (n+1) l
 |r::l=>.r [] r::sJ n l
def lP:List R->List Blk
 |[]=>[]
 |.sl t ys::l=>.arr none t ys::lP l
 |_::l=>lP l
def PV (P:Program) (s:List (Nat× SV)) (h:aI) (src dst:TypeId) (x:Operand):Option Nat:=
 cond (Nat.beq src dst&&vE P src) (match opd s x with
  |some (.own i)=>match look h i with
   |some (.arr _ _ (_::_))=>some i
   |_=>none
  |_=>none) none
def FA (h:aI):SV->Option (Nat× Nat× Nat)
 |.sub i o n=>some (i,o,n)
 |.own i=>match look h i with
  |some (.arr _ _ xs)=>some (i,0,xs.length)
  |_=>none
 |_=>none
variable {ρ:Type}
def wz (P:Program) (T:TypeId) (h:aI) (i:Nat) (sh:Option (List Nat)) (t:Ty) (ys:List t.El) (k o:Nat) (x:SV) (K:CR->Option ρ):Option ρ:=
 x.cells.bind λxs=>(iS P T).bind λsz=>cond (Nat.beq sz xs.length&&Nat.ble (o+sz) t.sz) (
  match sh with
  |none=>(Fz h ((t.tys.drop o).take sz) xs).bind λp=>cond (gu (i::p.1)) (
    cond (Nat.beq sz t.sz)
     ((t.ey p.2).bind λy=>K {v:=.undef,upd:=[(i,.arr none t (ys.set k y))],gone:=p.1,ld:=[i]})
     ((ys[k]?).bind λe=>(t.ey ((t.cells e).take o++p.2++(t.cells e).drop (o+sz))).bind λy=>K {v:=.undef,upd:=[(i,.arr none t (ys.set k y))],gone:=p.1,ld:=[i]})) none
  |some d=>(J0 h ((t.tys.drop o).take sz) xs).bind λp=>cond (mem i p.1) none (
    cond (Nat.beq sz t.sz)
     ((t.ey p.2).bind λy=>K {v:=.undef,upd:=[(i,.arr (some (d++p.1)) t (ys.set k y))],ld:=[i]})
     ((ys[k]?).bind λe=>(t.ey ((t.cells e).take o++p.2++(t.cells e).drop (o+sz))).bind λy=>K {v:=.undef,upd:=[(i,.arr (some (d++p.1)) t (ys.set k y))],ld:=[i]}))) none
def PW (P:Program) (T:TypeId):Bool:=
 match P.underlying T with
 |some (.int _)=>true
 |_=>false
def Rd (E:Env) (h:aI) (nid n sz:Nat) (t:Ty) (cs:List SV) (K:CR->Option ρ):Option ρ:=
 cond (E.lit&&Nat.beq t.sz sz) (match iU h t n cs with
  |some ([],xs)=>K {v:=.own nid,news:=[.arr none t xs]}
  |_=>K {v:=.bsl nid n,news:=[.box cs]}) (K {v:=.bsl nid n,news:=[.box cs]})
def FB (E:Env) (h:aI) (nid:Nat) (e:TypeId) (sz:Nat) (t:Ty) (T':TypeId) (b x:SV) (K:CR->Option ρ):Option ρ:=
 match b with
 |.cj=>cond (PW E.P T'&&(pb E.P e&&Nat.beq t.sz sz)) (x.asI.bind λl=>(gg E.P e).bind λz=>(iU h t 1 z).bind λq=>cond (isNil q.1&&Nat.beq z.length sz) (match q.2 with
   |[y]=>cond (decide (1<=l/\l<=(aN:Int))) (K {v:=.own nid,news:=[.arr none t (List.replicate l.toNat y)]}) none
   |_=>none) none) none
 |_=>none
def FC (h:aI) (t:Ty) (b x:SV) (K:CR->Option ρ):Option ρ:=
 match b,x with
 |.sub i 0 a,.sub i' o n=>cond (Nat.beq i i') (match look h i with
  |some (.arr (some d) t' xs)=>if he:t'=t then cond (mem i d) none (cond (Nat.ble (a+n) xs.length&&(Nat.ble (o+n) xs.length&&Nat.ble 1 xs.length))
    (K {v:=.sub i 0 (a+n),upd:=[(i,.arr (some d) t ((he▸xs).take a++((he▸xs).drop o).take n++(he▸xs).drop (a+n)))],ld:=[i]}) none)else none
  |_=>none) none
 |_,_=>none
def PX (E:Env) (s:List (Nat× SV)) (h:aI) (nid:Nat) (T:TypeId) (a:Operand) (K:CR->Option ρ) (D:Option ρ):Option ρ:=
 cond E.tak (match opd s a with
  |some (.ptr i x 0)=>match look h i with
   |some (.arr none (.st st) xs)=>cond (o9 (.st st)) D ((xs[x]?).bind λe=>(ik E.P T (sJ nid (st.cells e))).bind λv=>
     K {v:=v,news:=lP (st.cells e),upd:=[(i,.arr none (.ho st) (PU xs x))],ld:=[i]})
   |_=>D
  |_=>D) D
def taken (E:Env):Operand->Bool
 |.tmp t=>mem t E.tkt
 |_=>false
def PY (E:Env) (s:List (Nat× SV)) (h:aI) (nid:Nat) (T:TypeId) (a:Operand) (K:CR->Option ρ) (D:Option ρ):Option ρ:=
  cond (taken E a) (match opd s a with
    | some (.ptr i x 0) => match look h i with
      |some (.arr none (.sl t) xs)=>(xs[x]?).bind λe=>(ik E.P T (sJ nid ((Ty.sl t).cells e))).bind λv=>
          K {v:=v,news:=lP ((Ty.sl t).cells e),upd:=[(i,.arr none (.hl t) (PU xs x))],ld:=[i]}
      |_=>none
    |_=>none) D
def BD (E:Env) (s:List (Nat× SV)) (h:aI) (nid:Nat) (op:Op) (K:CR->Option ρ):Option ρ:=
  match op with
  |.alloc T=>(gg E.P T).bind λz=>K {v:=.ptr nid 0 0,news:=[.box z]}
  |.box _ x=>(opd s x).bind λv=>v.cells.bind λcs=>K {v:=.ptr nid 0 0,news:=[.box cs]}
  | .buildSlice T n parts =>
    (lO E.P T).bind λe=>(iS E.P e).bind λsz=>(rr s parts.toList).bind λps=>(gg E.P e).bind λz=>
      cond (Nat.ble (n*sz) 16777216&&Nat.beq z.length sz) ((o7 (λi=>some (i*sz,sz)) (List.replicate (n*sz) .undef) ps).bind λcs=>
        match E.tt e with
        |none=>K {v:=.bsl nid n,news:=[.box cs]}
        |some t=>cond ((o9 t||Nat.beq n 0)&&Nat.beq t.sz sz) ((iU h t n cs).bind λx=>cond (isNil x.1) (K {v:=.own nid,news:=[.arr none t x.2]}) none) (Rd E h nid n sz t cs K)) none
  | .makeSlice T l c =>
    (lO E.P T).bind λe=>(iS E.P e).bind λsz=>(E.tt e).bind λt=>(gg E.P e).bind λz=>(opd s l).bind λl=>(opd s c).bind λc=>l.asI.bind λl=>c.asI.bind λc=>
      cond (pb E.P e&&Nat.beq t.sz sz) ((iU h t 1 z).bind λx=>cond (isNil x.1&&Nat.beq z.length sz) (match x.2 with
        |[y]=>cond (decide (0<=l/\l<=c/\c<=(aN:Int))) (K {v:=.own nid,news:=[.arr none t (List.replicate l.toNat y)]}) none
        |_=>none) none) none
  | .call { callee := .builtin .append, args, argTypes } => (rJ s args.toList).bind λ vs => match vs, argTypes.toList with
    | [b, x], [T, T'] => (lO E.P T).bind λ e => (iS E.P e).bind λ sz => (E.tt e).bind λ t => cond (pb E.P e && (Nat.beq t.sz sz && Nat.beq T T')) ((gg E.P e).bind λ z => cond (Nat.beq z.length sz)
      ((rK h t x).bind λy=>match b with
        |.cj=>cond (hit y.2.1 (y.1.getD [])) none (cond (Nat.ble y.2.2.length aN) (K {v:=.own nid,news:=[.arr y.1 t y.2.2],gone:=y.2.1}) none)
        | .own i => match look h i with
          | some (.arr sh t' xs) => if he : t' = t then
              (Hm sh y.1).bind λsh'=>cond (mem i y.2.1) none (cond (hit (i::y.2.1) (sh'.getD [])) none (cond (Nat.ble (xs.length+y.2.2.length) aN) (K {v:=.own nid,news:=[.arr sh' t ((he▸xs)++y.2.2)],gone:=i::y.2.1}) none))
            else none
          |_=>none
        |b=>FC h t b x K) none) (FB E h nid e sz t T' b x K)
    |_,_=>none
  | .call { callee := .builtin .clear, args, argTypes } => (rJ s args.toList).bind λ vs => match vs, argTypes.toList with
    | [v], [T] => (lO E.P T).bind λ e => (gg E.P e).bind λ z => (FA h v).bind λ p => match look h p.1 with
      | some (.arr sh t xs) => cond (Nat.beq z.length t.sz) ((iU h t 1 z).bind λ x => cond (isNil x.1) (match x.2 with
        |[y]=>K {v:=.undef,upd:=[(p.1,.arr sh t (xs.take p.2.1++List.replicate p.2.2 y++xs.drop (p.2.1+p.2.2)))],ld:=[p.1]}
        |_=>none) none) none
      |_=>none
    |_,_=>none
  | .store T a x => (opd s a).bind λ a => (opd s x).bind λ x => match a with
    | .ptr i k o => match look h i with
      |some (.box cs)=>cond (Nat.beq k 0) (x.cells.bind λxs=>(iS E.P T).bind λsz=>cond (Nat.beq sz xs.length) ((setCells cs o xs).bind λcs=>K {v:=.undef,upd:=[(i,.box cs)]}) none) none
      |some (.arr sh t ys)=>wz E.P T h i sh t ys k o x K
      |_=>none
    |_=>none
  | .call { callee := .value f, args, .. } => (opd s f).bind λ f => (rJ s args.toList).bind λ vs => match f with
    |.fn (.func g) first cap=>E.orc g ρ nid (first++vs++cap) h K
    |_=>none
  | .load T a => PY E s h nid T a K (match PT E s h T a with
    |some v=>K {v:=v}
    |none=>PX E s h nid T a K (nL E.P s h (.load T a) λv=>K {v:=v}))
  | .convert src dst x => match PV E.P s h src dst x with
    |some i=>K {v:=.own i}
    |none=>nL E.P s h (.convert src dst x) λv=>K {v:=v}
  |op=>nL E.P s h op λv=>K {v:=v}
noncomputable def both (x y:Option ρ):Option ρ:=open Classical in if x=y then x else none
def Hn:Op->Option (TypeId× Operand× Bool)
 |.binOp .eql T x (.const (.slice none 0 0)) _=>some (T,x,true)
 |.binOp .neq T x (.const (.slice none 0 0)) _=>some (T,x,false)
 |_=>none
noncomputable def QP (h:aI) (v:SV) (K:Bool->Option ρ):Option ρ:=
 match v with
 |.cj=>K true
 |.r _ (.sl _ xs)=>cond (isNil xs) (both (K true) (K false)) (K false)
 |.own i=>match look h i with
  |some (.arr _ _ xs)=>cond (isNil xs) (both (K true) (K false)) (K false)
  |_=>none
 |_=>none
noncomputable def PH (E:Env) (o:Oper) (st:St) (K:St->Option ρ):Option ρ:=
 match Hn o.op with
 |some (T,x,e)=>cond (Hk E.P T) ((opd st.cp x).bind λv=>QP st.heap v λb=>(st.take o.dst {v:=.b (cond b e (!e))}).bind K) none
 |none=>BD E st.cp st.heap st.nid o.op λc=>(st.take o.dst c).bind K
def Oy (ops:List Oper) (j:Nat):Option Tmp:=(ops[j]?).bind (·.dst)
def Dr (o:Oper) (st:St) (K:St->Option ρ):Option ρ:=
 (PS st.cp st.n o.dst (.tup [])).bind λs=>K {st with cp:=s}
noncomputable def BF (E:Env) (all:List Oper):List Oper->St->(St->Option ρ)->Option ρ
  |[],st,K=>K st
  | o :: rest, st, K =>
    match o.guard with
    |none=>PH E o st λst=>BF E all rest st K
    | some (j, want) => (Oy all j).bind λ t => (look st.cp t).bind λ v => match v with
      |.tup []=>Dr o st λst=>BF E all rest st K
      | v => v.asB.bind λ b =>
        cond b
          (cond want (PH E o {st with cp:=put st.cp t (.b true)} λst=>BF E all rest st K)
            (Dr o {st with cp:=put st.cp t (.b true)} λst=>BF E all rest st K))
          (cond want (Dr o {st with cp:=put st.cp t (.b false)} λst=>BF E all rest st K)
            (PH E o {st with cp:=put st.cp t (.b false)} λst=>BF E all rest st K))
def after (H:aI) (nid:Nat) (c:CR):Option aI:=
 (ij c.kil (ru c.upd H)).bind λh=>some (h++aK nid c.news)
structure DR where
 dst:Option Tmp
 n0:Nat
 c:CR
 see:List Nat
 MI:List SV:=[]
 len:Bool:=false
abbrev SH:=List (Nat× SV)× aI
def Ho (s:List (Nat× SV)) (dst:Option Tmp) (v:SV):List (Nat× SV):=
 match dst with
 |some t=>put s t v
 |none=>s
def ID:aI->Nat->Blk->aI
 |[],_,_=>[]
 |(k,u)::l,n,b=>cond (Nat.beq k n) ((k,b)::l) ((k,u)::ID l n b)
def iY:aI->aI->aI
 |[],h=>h
 |(k,b)::l,h=>iY l (ID h k b)
def DR.app (r:DR) (x:SH):Option SH:=
 (ij r.c.kil (iY r.c.upd x.2)).bind λh=>some (Ho (nK r.c.kil x.1) r.dst r.c.v,h++aK r.n0 r.c.news)
def replay (p:Nat->Bool):Nat->List DR->SH->Option SH
 |_,[],x=>some x
 |j,r::l,x=>cond (p j) ((r.app x).bind λx=>replay p (j+1) l x) (replay p (j+1) l x)
def uk (n:Nat):List Edge->Bool
 |[]=>true
 |e::l=>cond (Region.binds .any e) (cond (Nat.ble (e.on+1) n) (uk n l) false) (uk n l)
def Ds (masks:List Nat):List Edge->Nat
 |[]=>0
 |e::l=>cond (Region.binds .any e) ((masks.getD e.on 0||| 2^e.on)||| Ds masks l) (Ds masks l)
def xf:List Nat->List Oper->Option (List Nat)
 |acc,[]=>some acc
 |acc,o::l=>cond (uk acc.length o.after.toList) (xf (acc++[Ds acc o.after.toList]) l) none
def iV:List Oper->List Nat
 |[]=>[]
 |o::l=>match o.dst with
  |some t=>t::iV l
  |none=>iV l
def MJ (masks:List Nat) (i:Nat):Nat->List Oper->List Nat
 |_,[]=>[]
 |j,o::l=>cond ((masks.getD j 0).testBit i) (MJ masks i (j+1) l) (match o.dst with
  |some t=>t::MJ masks i (j+1) l
  |none=>MJ masks i (j+1) l)
def IE (n:Nat):List Nat->Bool
 |[]=>true
 |i::l=>cond (Nat.ble (i+1) n) (IE n l) false
def eH:List Operand->List Nat
 |[]=>[]
 |.tmp t::l=>t::eH l
 |_::l=>eH l
def mX (T:List Nat) (s:List (Nat× SV)):List Nat->List (Nat× SV)
 |[]=>[]
 |t::l=>cond (mem t T) (mX T s l) (match look s t with
  |some v=>(t,v)::mX T s l
  |none=>mX T s l)
def lS (E:Env):Op->Bool
 |.store _ _ _=>true
 |.load _ _=>E.tak
 |.call {callee:=.builtin .len,.. }|.call {callee:=.builtin .cap,.. }|.call {callee:=.builtin .min,.. }|.call {callee:=.builtin .max,.. }=>false
 |.call {callee:=.builtin _,.. }=>true
 |.call {callee:=.value (.func g),.. }=>E.wr g
 |.call {callee:=.value _,.. }=>E.wt
 |.call _=>false
 |_=>false
def PZ (masks:List Nat) (i j:Nat):Bool:=Nat.beq i j||((masks.getD i 0).testBit j||(masks.getD j 0).testBit i)
def vF (E:Env) (masks:List Nat) (i:Nat):Nat->List Oper->Bool
 |_,[]=>false
 |j,o::l=>cond (lS E o.op) (cond (PZ masks i j) (vF E masks i (j+1) l) true) (vF E masks i (j+1) l)
def BG (s:List (Nat× SV)):List Nat->List SV
 |[]=>[]
 |t::l=>match look s t with
  |some v=>v::BG s l
  |none=>BG s l
def vG (h:aI):List Nat->aI
 |[]=>[]
 |i::l=>match look h i with
  |some b=>(i,b)::vG h l
  |none=>vG h l
def Oz:Op->Bool
 |.move _=>true
 |.assign _=>true
 |.extract _ _=>true
 |.nilCheck _=>true
 |.fieldAddr _ _ _=>true
 |_=>false
def P0:Op->Bool
 |.load _ _=>true
 |_=>false
def QQ (E:Env) (masks:List Nat) (i:Nat) (ops:List Oper) (x:SH) (o:Oper):List Nat:=
 cond (vF E masks i 0 ops&&!Oz o.op) (reach x.2 (cond (P0 o.op) 0 3) (oS [] (IA (BG x.1 (eH o.op.operands.toList))))) []
def IG (E:Env) (masks:List Nat) (i:Nat) (ops:List Oper) (x:SH) (o:Oper):aI:=
 cond (vF E masks i 0 ops) (vG x.2 (QQ E masks i ops x o)) x.2
def MK (L:List Nat):aI->Bool
 |[]=>false
 |(k,_)::l=>cond (mem k L) true (MK L l)
def okW (E:Env) (op:Op) (c:CR):Bool:=cond (lS E op) true (isNil c.kil.2&&isNil c.upd)
mutual
def SV.J3 (T:Kil):SV->Bool
 |.r d _=>!hit T.2 d
 |.own i=>!mem i T.1
 |.sub i _ _=>!mem i T.1
 |.bsl i _=>!mem i T.1
 |.ptr i _ _=>!mem i T.1
 |.inn i _ _=>!(mem i T.1||mem i T.2)
 |.ki d _=>!hit T.2 d
 |.agg cs=>xg T cs
 |.tup cs=>xg T cs
 |.fn _ a b=>xg T a&&xg T b
 |.cj=>true
 |.o6=>true
 |.undef=>true
def xg (T:Kil):List SV->Bool
 |[]=>true
 |v::l=>v.J3 T&&xg T l
end
def Blk.J3 (T:Kil):Blk->Bool
 |.box cs=>xg T cs
 |.arr (some d) _ _=>!hit T.2 d
 |.arr none _ _=>true
def Ki (k:Nat) (B:Blk):List DR->Bool
 |[]=>true
 |r::l=>cond ((look r.c.upd k).isNone&&(!mem k r.c.kil.1&&B.J3 r.c.kil)) (Ki k B l) false
def QD (h:aI) (rs:List DR):List Nat->Bool
 |[]=>true
 |k::l=>match look h k with
  |some B=>cond (Ki k B rs) (QD h rs l) false
  |none=>false
def fC (cm:DR->Bool) (r:DR):Bool:=isNil r.c.kil.2&&(isNil r.c.upd&&(isNil r.c.news&&cm r))
def IH (b a:DR):Bool:=a.c.v.J3 b.c.kil&&xg b.c.kil a.MI
def P1 (b:DR):aI->Bool
 |[]=>true
 |(k,_)::l=>cond (Nat.ble (k+1) b.n0||Nat.ble (b.n0+b.c.news.length) k) (P1 b l) false
def FD (a b:DR):Bool:=(isNil a.c.kil.2&&isNil b.c.kil.2)&&((isNil b.c.upd&&P1 b a.c.upd)||(isNil a.c.upd&&P1 a b.c.upd))&&(!(MK b.see a.c.upd)&&!(MK a.see b.c.upd))
def rk (cm:DR->Bool) (a b:DR):Bool:=FD a b||((IH b a&&fC cm a)||(IH a b&&fC cm b))
def xh (cm:DR->Bool) (masks:List Nat) (i:Nat) (r:DR):Nat->List DR->Bool
 |_,[]=>true
 |j,b::l=>cond ((masks.getD j 0).testBit i) (xh cm masks i r (j+1) l) (cond (rk cm r b) (xh cm masks i r (j+1) l) false)
def Ah (cm:DR->Bool) (masks:List Nat):Nat->List DR->Bool
 |_,[]=>true
 |i,r::l=>cond (xh cm masks i r (i+1) l) (Ah cm masks (i+1) l) false
def OA:List DR->Nat->SV->List DR
 |[],_,_=>[]
 |r::l,0,v=>{r with c:={r.c with v:=v}}::l
 |r::l,n+1,v=>r::OA l n v
def P2:Op->Bool
 |.indexAddr _ _ _=>true
 |_=>false
def P3 (h:aI):List Nat->Bool
 |[]=>true
 |i::l=>cond (look h i).isSome (P3 h l) false
def Dt (x:SH) (o:Oper):List Nat:=oS [] (IA (BG x.1 (eH o.op.operands.toList)))
def Kj (E:Env) (h0:aI) (x:SH) (o:Oper):Bool:=E.swp&&(P2 o.op&&P3 h0 (Dt x o))
def Kk (E:Env) (masks:List Nat) (i:Nat) (ops:List Oper) (h0:aI) (x:SH) (o:Oper):aI:=cond (Kj E h0 x o) (vG h0 (Dt x o)) (IG E masks i ops x o)
def QE (E:Env) (masks:List Nat) (i:Nat) (ops:List Oper) (h0:aI) (x:SH) (o:Oper):List Nat:=cond (Kj E h0 x o) (Dt x o) (QQ E masks i ops x o)
def OB (E:Env) (masks:List Nat) (i:Nat) (ops:List Oper) (h0:aI) (x:SH) (o:Oper) (nid:Nat) (c:CR):DR:=⟨o.dst,nid,c,QE E masks i ops h0 x o,BG x.1 (eH o.op.operands.toList),Kj E h0 x o⟩
def oV (E:Env) (ops:List Oper) (masks dsts:List Nat) (s0:List (Nat× SV)) (h0:aI):Nat->List Oper->Nat->List DR->(List DR->Nat->Option ρ)->Option ρ
  |_,[],nid,rs,K=>K rs nid
  | i, o :: rest, nid, rs, K =>
    (replay (Nat.testBit (masks.getD i 0)) 0 rs (mX (MJ masks i 0 ops) s0 (eH o.op.operands.toList),h0)).bind λx=>
    match o.guard with
    |none=>BD E (mX [] x.1 (eH o.op.operands.toList)) (Kk E masks i ops h0 x o) nid o.op λc=>cond (okW E o.op c) (oV E ops masks dsts s0 h0 (i+1) rest (nid+c.news.length) (rs++[OB E masks i ops h0 x o nid c]) K) none
    | some (g, want) => cond (Nat.testBit (masks.getD i 0) g) ((rs[g]?).bind λ r => r.dst.bind λ _ => match r.c.v with
      |.tup []=>oV E ops masks dsts s0 h0 (i+1) rest nid (rs++[⟨o.dst,nid,{v:=.tup []},[],[],false⟩]) K
      | .r [] (.bool b) => cond b
        (cond want
          (BD E (mX [] x.1 (eH o.op.operands.toList)) (Kk E masks i ops h0 x o) nid o.op λc=>cond (okW E o.op c) (oV E ops masks dsts s0 h0 (i+1) rest (nid+c.news.length) (OA rs g (.b true)++[OB E masks i ops h0 x o nid c]) K) none)
          (oV E ops masks dsts s0 h0 (i+1) rest nid (OA rs g (.b true)++[⟨o.dst,nid,{v:=.tup []},[],[],false⟩]) K))
        (cond want
          (oV E ops masks dsts s0 h0 (i+1) rest nid (OA rs g (.b false)++[⟨o.dst,nid,{v:=.tup []},[],[],false⟩]) K)
          (BD E (mX [] x.1 (eH o.op.operands.toList)) (Kk E masks i ops h0 x o) nid o.op λc=>cond (okW E o.op c) (oV E ops masks dsts s0 h0 (i+1) rest (nid+c.news.length) (OA rs g (.b false)++[OB E masks i ops h0 x o nid c]) K) none))
      |_=>none) none
def xi:List Nat->List Nat->Bool
 |[],_=>true
 |i::l,T=>cond (mem i T) false (xi l T)
def BH (L:List Nat):List DR->Bool
 |[]=>true
 |r::l=>cond (xi L r.c.kil.1) (BH L l) false
def zL (h:aI) (rs:List DR) (r:DR):Bool:=cond r.len (BH r.see rs) (QD h rs r.see)
def Ai (cm:DR->Bool):List DR->Bool
 |[]=>true
 |r::l=>cond (!r.len||fC cm r) (Ai cm l) false
def FE (E:Env) (ops:List Oper) (st:St) (K:St->Option ρ):Option ρ:=
  cond (E.P.follows .mixedOrders) ((xf [] ops).bind λmasks=>
    cond (gu (iV ops)) (cond (IE st.n (iV ops))
      (oV E ops masks (iV ops) st.cp st.heap 0 ops st.nid [] λrs nid=>cond (Ah (zL st.heap rs) masks 0 rs&&Ai (zL st.heap rs) rs)
        ((replay (λ_=>true) 0 rs (st.cp,st.heap)).bind λx=>K {st with cp:=x.1,heap:=x.2,nid:=nid}) none) none) none) none
inductive Ex where
 |normal
 |exit (id:Nat)
 |ret
def refine(c:Operand) (b:Bool) (st:St):St:=
 match c with
 |.tmp t=>{st with cp:=put st.cp t (.b b)}
 |_=>st
abbrev Ev (ρ:Type):=St->(Ex->St->Option ρ)->Option ρ
def inBlock (id:Nat) (K:Ex->St->Option ρ):Ex->St->Option ρ
 |.exit j,st=>cond (Nat.beq j id) (K .normal st) (K (.exit j) st)
 |e,st=>K e st
def Mu (i:Nat):List Nat->List Nat
 |[]=>[]
 |k::l=>cond (Nat.beq k i) (Mu i l) (k::Mu i l)
def Hp (i:Nat) (t:Ty) (h:aI) (v:SV):SV:=
 match v.list h t with
 |some p=>.r (Mu i p.1) (.sl t p.2)
 |none=>.undef
mutual
def SV.frz (i:Nat) (t:Ty) (h:aI):SV->SV
 |.r d x=>.r (Mu i d) x
 |.own j=>cond (Nat.beq j i) (Hp i t h (.own j)) (.own j)
 |.sub j o n=>cond (Nat.beq j i) (Hp i t h (.sub j o n)) (.sub j o n)
 |.bsl j n=>cond (Nat.beq j i) .undef (.bsl j n)
 |.ptr j x o=>cond (Nat.beq j i) .undef (.ptr j x o)
 |.inn j x c=>cond (Nat.beq j i) .undef (.inn j x c)
 |.ki d cs=>.ki (Mu i d) cs
 |.agg cs=>.agg (Dd i t h cs)
 |.tup cs=>.tup (Dd i t h cs)
 |.fn f a b=>.fn f (Dd i t h a) (Dd i t h b)
 |.cj=>.cj
 |.o6=>.o6
 |.undef=>.undef
def Dd (i:Nat) (t:Ty) (h:aI):List SV->List SV
 |[]=>[]
 |v::l=>v.frz i t h::Dd i t h l
end
def Blk.frz (i:Nat) (t:Ty) (h:aI):Blk->Blk
 |.box cs=>.box (Dd i t h cs)
 |.arr none t' xs=>.arr none t' xs
 |.arr (some d) t' xs=>.arr (some (Mu i d)) t' xs
def FF (i:Nat) (t:Ty) (h:aI):aI->aI
 |[]=>[]
 |(k,b)::l=>cond (Nat.beq k i) (FF i t h l) ((k,b.frz i t h)::FF i t h l)
def II (i:Nat) (t:Ty) (h:aI):List (Nat× SV)->List (Nat× SV)
 |[]=>[]
 |(k,v)::l=>(k,v.frz i t h)::II i t h l
def QR (i:Nat) (st:St):St:=
 match look st.heap i with
 |some (.arr _ t _)=>{st with cp:=II i t st.heap st.cp,heap:=FF i t st.heap st.heap}
 |_=>st
def P4 (h:aI):SV->List Nat->Option Nat
 |.own i,[]=>some i
 |.sub i _ _,[]=>some i
 |.agg cs,j::p=>match cs[j]? with
  |some v=>P4 h v p
  |none=>none
 |.tup cs,j::p=>match cs[j]? with
  |some v=>P4 h v p
  |none=>none
 |.ptr i 0 o,j::p=>match look h i with
  |some (.box cs)=>match cs[o+j]? with
   |some v=>P4 h v p
   |none=>none
  |_=>none
 |.bsl i _,j::p=>match look h i with
  |some (.box cs)=>match cs[j]? with
   |some v=>P4 h v p
   |none=>none
  |_=>none
 |_,_=>none
termination_by structural _ p=>p
def QS (i:Nat) (st:St):St:=
 match look st.heap i with
 |some (.arr none t xs)=>{st with heap:=put st.heap i (.arr (some []) t xs)}
 |_=>st
def N7 (st:St) (x:Bool× Nat× List Nat):St:=
 match look st.cp x.2.1 with
 |some v=>match P4 st.heap v x.2.2 with
  |some i=>cond x.1 (QS i st) (QR i st)
  |none=>st
 |none=>st
def Hq:List (Bool× Nat× List Nat)->St->St
 |[],st=>st
 |x::l,st=>Hq l (N7 st x)
def Blk.Kl (b:Blk) (K:Blk->Option ρ):Option ρ:=
 match b with
 |.arr none (.ho s) zs=>(Dq zs).bind λxs=>K (.arr none (.st s) xs)
 |.arr none (.hl t) zs=>(Dq zs).bind λxs=>K (.arr none (.sl t) xs)
 |b=>K b
def Km:aI->(aI->Option ρ)->Option ρ
 |[],K=>K []
 |(k,b)::l,K=>b.Kl λb=>Km l λl=>K ((k,b)::l)
def Hr (E:Env) (K:St->Option ρ) (st:St):Option ρ:=cond E.tak (Km st.heap λh=>K {st with heap:=h}) (K st)
noncomputable def ev (E:Env) (LP:Nat->Ev ρ->Ev ρ) (cb:Nat):Code->Ev ρ
 |.skip,st,K=>K .normal st
 |.label _,st,K=>K .normal st
 |.region id ops false,st,K=>BF E ops.toList ops.toList (Kh (E.wk id) (Hq (E.fz id) st)) (Hr E (K .normal))
 |.region id ops true,st,K=>FE E ops.toList (Kh (E.wk id) (Hq (E.fz id) st)) (Hr E (K .normal))
 |.seq a b,st,K=>ev E LP cb a st λe st=>match e with
  |.normal=>ev E LP cb b st K
  |e=>K e st
 |.cond c t f,st,K=>(opd st.cp c).bind λv=>v.asB.bind λb=>cond b (ev E LP cb t (refine c true st) K) (ev E LP cb f (refine c false st) K)
 |.block id c,st,K=>ev E LP id c st (inBlock id K)
 |.loop c,st,K=>LP cb (λst K=>ev E LP cb c st K) st K
 |.exit id,st,K=>K (.exit id) st
 |.scope c,st,K=>ev E LP cb c st K
 |.ret,st,K=>K .ret st
 |_,_,_=>none
def OC (body:Ev ρ):Nat->Ev ρ
 |0,_,_=>none
 |n+1,st,K=>body st λe st=>match e with
  |.normal=>OC body n st K
  |e=>K e st
end
section
def Ext {α:Type} (s s':List (Nat× α)):Prop:=∀t v,look s t=some v->look s' t=some v
theorem Ext.rfl' {α:Type} {s:List (Nat× α)}:Ext s s:=λ_ _ h=>h
def Le {α:Type} (x y:Option α):Prop:=∀a,x=some a->y=some a
theorem Le.refl {α:Type} (x:Option α):Le x x:=λ_ h=>h
theorem Le.bind {α β:Type} {x y:Option α} {f g:α->Option β} (h:Le x y) (hf:∀a,Le (f a) (g a)):Le (x.bind f) (y.bind g):=by
 intro b hb;rw[An]at hb⊢;obtain⟨a,h1,h2⟩:=hb;exact⟨a,h a h1,hf a b h2⟩
theorem Le.cond {α:Type} {b:Bool} {x y x' y':Option α} (h:Le x x') (h':Le y y'):Le (cond b x y) (cond b x' y'):=by cases b<;>assumption
theorem Le.none {α:Type} {y:Option α}:Le Option.none y:=λ_ h=>nomatch h
section
variable {s s':List (Nat× SV)} {h h':aI} {P:Program}
theorem OD (hh:Ext h h') (i:Nat):Le (look h i) (look h' i):=λ_=>hh i _
theorem cT (hs:Ext s s') (x:Operand):Le (opd s x) (opd s' x):=by
 cases x with
 |tmp t=>exactλv hv=>hs t v hv
 |_=>exact Le.refl _
theorem iZ (hs:Ext s s'):(l:List Operand)->Le (rJ s l) (rJ s' l)
 |[]=>Le.refl _
 |x::l=>(cT hs x).bind λ_=>(iZ hs l).bind λ_=>Le.refl _
theorem FG (hs:Ext s s') (x:Option Operand):Le (Mt s x) (Mt s' x):=by
 cases x with
 |none=>exact Le.refl _
 |some x=>exact(cT hs x).bind λ_=>Le.refl _
theorem pc (hs:Ext s s'):(l:List (Nat× Operand))->Le (rr s l) (rr s' l)
 |[]=>Le.refl _
 |(_,x)::l=>(cT hs x).bind λ_=>(pc hs l).bind λ_=>Le.refl _
theorem IJ (hh:Ext h h') (v:SV):Le (lb h v) (lb h' v):=by
 cases v<;>try exact Le.refl _
 rename_i i x o;intro cs hcs;simp only[lb]at hcs⊢
 cases hl:look h i with
 |none=>rw[hl]at hcs;exact nomatch hcs
 |some B=>rw[hl]at hcs;rw[hh i B hl];exact hcs
theorem ML (hh:Ext h h') (v:SV):Le (lenOf h v) (lenOf h' v):=by
 intro n hn
 cases v with
 |own i=>
  simp only[lenOf]at hn⊢
  cases hl:look h i with
  |none=>rw[hl]at hn;exact nomatch hn
  |some B=>rw[hl]at hn;rw[hh i B hl];exact hn
 |r d x=>cases x<;>exact hn
 |_=>exact hn
theorem IK (hh:Ext h h') (T:TypeId) (v:SV) (lo hi:Option SV):Le (iX P T h v lo hi) (iX P T h' v lo hi):=by
 intro cs hcs
 cases v with
 |own i=>
  simp only[iX]at hcs⊢
  cases hl:look h i with
  |none=>rw[hl]at hcs;exact nomatch hcs
  |some B=>rw[hl]at hcs;rw[hh i B hl];exact hcs
 |sub i o n=>
  simp only[iX]at hcs⊢
  cases hl:look h i with
  |none=>rw[hl]at hcs;exact nomatch hcs
  |some B=>rw[hl]at hcs;rw[hh i B hl];exact hcs
 |r d x=>cases x<;>exact hcs
 |_=>exact hcs
theorem zO (hh:Ext h h') (T:TypeId) (v:SV) (k:Int):Le (bL P T h v k) (bL P T h' v k):=by
 intro cs hcs
 cases v with
 |own i=>
  simp only[bL]at hcs⊢
  cases hl:look h i with
  |none=>rw[hl]at hcs;exact nomatch hcs
  |some B=>rw[hl]at hcs;rw[hh i B hl];exact hcs
 |sub i o n=>
  simp only[bL]at hcs⊢
  cases hl:look h i with
  |none=>rw[hl]at hcs;exact nomatch hcs
  |some B=>rw[hl]at hcs;rw[hh i B hl];exact hcs
 |r d x=>cases x<;>exact hcs
 |_=>exact hcs
theorem FH (hh:Ext h h') (t:Ty) (v:SV):Le (v.list h t) (v.list h' t):=by
 intro p hp
 cases v<;>try exact hp
 all_goals
  simp only[SV.list]at hp⊢;split at hp
  ·rename_i hl;rw[hh _ _ hl];exact hp
  ·exact nomatch hp
theorem P5 (hh:Ext h h') (T:TypeId) (x:SV):Le (slN P T h x) (slN P T h' x):=by
 intro n hn
 cases x with
 |own i=>
  simp only[slN]at hn⊢
  cases hl:look h i with
  |none=>rw[hl]at hn;exact nomatch hn
  |some B=>rw[hl]at hn;rw[hh i B hl];exact hn
 |r d x=>cases x<;>exact hn
 |_=>exact hn
theorem uo (hs:Ext s s') (hh:Ext h h') (op:Op):Le (gl P s h op) (gl P s' h' op):=by
 intro v hv;unfold gl at hv;split at hv<;>simp only[gl]
 ·exact cT hs _ v hv
 ·exact cT hs _ v hv
 ·revert hv;exact((cT hs _).bind λc=>(Le.refl _).bind λb=>Le.cond (cT hs _) (cT hs _)) v
 ·revert hv
  split
  ·exact((Le.refl _).bind λ_=>(Le.refl _).bind λ_=>(pc hs _).bind λ_=>Le.refl _) v
  ·exactλh=>nomatch h
 ·exact((cT hs _).bind λa=>(IJ hh a).bind λ_=>Le.refl _) v hv
 ·exact((cT hs _).bind λa=>Le.refl _) v hv
 ·exact((cT hs _).bind λa=>(cT hs _).bind λ_=>Le.refl _) v hv
 ·exact((cT hs _).bind λa=>Le.refl _) v hv
 ·exact((cT hs _).bind λa=>Le.cond ((FH hh _ _).bind λ_=>Le.refl _) (Le.refl _)) v hv
 ·exact((iZ hs _).bind λa=>(iZ hs _).bind λ_=>Le.refl _) v hv
 ·exact((cT hs _).bind λa=>(FG hs _).bind λ_=>(FG hs _).bind λ_=>IK hh _ _ _ _) v hv
 ·exact((cT hs _).bind λa=>(FG hs _).bind λ_=>(cT hs _).bind λ_=>(cT hs _).bind λ_=>(P5 hh _ _).bind λ_=>Le.refl _) v hv
 ·exact((cT hs _).bind λa=>Le.refl _) v hv
 ·exact((cT hs _).bind λa=>Le.refl _) v hv
 ·exact((cT hs _).bind λa=>(cT hs _).bind λ_=>(Le.refl _).bind λ_=>zO hh _ _ _) v hv
 ·exact((cT hs _).bind λa=>(cT hs _).bind λ_=>Le.refl _) v hv
 ·exact((cT hs _).bind λa=>Le.refl _) v hv
 ·refine((iZ hs _).bind λvs=>?_) v hv;split
  ·exact Le.cond ((ML hh _).bind λ_=>Le.refl _) (Le.refl _)
  ·exact Le.refl _
 ·exact((iZ hs _).bind λa=>Le.refl _) v hv
 ·exact((iZ hs _).bind λa=>Le.refl _) v hv
 ·exact((iZ hs _).bind λa=>Le.refl _) v hv
 ·exact nomatch hv
theorem Du (hh:Ext h h') (t:Ty) (v:SV):Le (v.asR h t) (v.asR h' t):=by
 cases t with
 |sl t=>exact(FH hh t v).bind λ_=>Le.refl _
 |_=>exact Le.refl _
theorem FI (hh:Ext h h'):(ts:List Ty)->(vs:List SV)->Le (J0 h ts vs) (J0 h' ts vs)
 |[],[]=>Le.refl _
 |t::ts,v::vs=>(Du hh t v).bind λ_=>(FI hh ts vs).bind λ_=>Le.refl _
 |[],_::_=>Le.refl _
 |_::_,[]=>Le.refl _
theorem OE (hh:Ext h h') (t:Ty) (vs:List SV):Le (QB h t vs) (QB h' t vs):=(FI hh _ _).bind λ_=>Le.refl _
theorem Hs (hh:Ext h h') (t:Ty):(n:Nat)->(c:List SV)->Le (IC h t n c) (IC h' t n c)
 |0,_=>Le.refl _
 |n+1,_=>(OE hh t _).bind λ_=>(Hs hh t n _).bind λ_=>Le.refl _
theorem BI (hh:Ext h h') (t:Ty) (v:SV):Le (v.J2 h t) (v.J2 h' t):=by
 intro p hp
 cases t with
 |sl t=>
  cases v with
  |own i=>
   simp only[SV.J2]at hp⊢
   cases hl:look h i with
   |none=>rw[hl]at hp;exact nomatch hp
   |some B=>rw[hl]at hp;rw[hh i B hl];exact hp
  |_=>exact hp
 |_=>exact hp
theorem Ht (hh:Ext h h'):(ts:List Ty)->(vs:List SV)->Le (Fz h ts vs) (Fz h' ts vs)
 |[],[]=>Le.refl _
 |t::ts,v::vs=>(BI hh t v).bind λ_=>(Ht hh ts vs).bind λ_=>Le.refl _
 |[],_::_=>Le.refl _
 |_::_,[]=>Le.refl _
theorem lf (hh:Ext h h') (t:Ty):(n:Nat)->(c:List SV)->Le (iU h t n c) (iU h' t n c)
 |0,_=>Le.refl _
 |n+1,_=>(Ht hh _ _).bind λ_=>(Le.refl _).bind λ_=>(lf hh t n _).bind λ_=>Le.refl _
theorem Dv (hh:Ext h h'):(c:List SV)->Le (Dp h c) (Dp h' c)
 |[]=>Le.refl _
 |v::l=>by
  have ih:=Dv hh l
  cases v with
  |own i=>
   refine(OD hh i).bind λb=>?_
   cases b with
   |box _=>exact Le.refl _
   |arr sh _ _=>cases sh with
    |none=>exact ih
    |some _=>exact Le.refl _
  |r d x=>cases x with
   |sl _ _=>exact Le.refl _
   |_=>exact ih
  |sub _ _ _=>exact Le.refl _
  |bsl _ _=>exact Le.refl _
  |_=>exact ih
theorem Kn (hh:Ext h h') (t:Ty) (n:Nat) (c:List SV):Le (Hl h t n c) (Hl h' t n c):=
 (Dv hh c).bind λb=>Le.cond ((lf hh t n c).bind λ_=>Le.refl _) ((Hs hh t n c).bind λ_=>Le.refl _)
theorem Aj (hh:Ext h h') (t:Ty) (v:SV):Le (rK h t v) (rK h' t v):=by
 have ind:∀(v:SV) (p:List Nat× List t.El),v.list h t=some p->oU h' v p.1=oU h v p.1:=λv p hp=>by
  cases v with
  |own i=>
   simp only[SV.list]at hp
   cases hl:look h i with
   |none=>rw[hl]at hp;exact nomatch hp
   |some B=>simp only[oU,hl,hh i B hl]
  |_=>rfl
 have lst:∀v:SV,Le ((v.list h t).bind λp=>cond (o9 t) (some (none,[],p.2)) (some (some (oU h v p.1),[],p.2)):Option (Option (List Nat)× List Nat× List t.El)) ((v.list h' t).bind λp=>cond (o9 t) (some (none,[],p.2)) (some (some (oU h' v p.1),[],p.2))):=λv q hq=>by
  rw[An]at hq⊢;obtain⟨p,hp,hq⟩:=hq;exact⟨p,FH hh t v p hp,by rw[ind v p hp];exact hq⟩
 cases v with
 |bsl i n=>
  intro p hp;simp only[rK]at hp⊢
  cases hl:look h i with
  |none=>rw[hl]at hp;exact nomatch hp
  |some B=>
   rw[hl]at hp;rw[hh i B hl]
   cases B with
   |box cs=>exact((Kn hh t n cs).bind λ_=>Le.refl _) p hp
   |arr _ _ _=>exact nomatch hp
 |r d x=>exact lst (.r d x)
 |cj=>exact lst .cj
 |o6=>exact lst .o6
 |own i=>exact lst (.own i)
 |sub i o n=>exact lst (.sub i o n)
 |ptr i x o=>exact lst (.ptr i x o)
 |inn i x o=>exact lst (.inn i x o)
 |ki d x=>exact lst (.ki d x)
 |agg x=>exact lst (.agg x)
 |tup x=>exact lst (.tup x)
 |fn f a b=>exact lst (.fn f a b)
 |undef=>exact lst .undef
end
end
section
abbrev Cell:=Nat× Nat
def _root_.Go.World.at? (w:World) (p:Cell):Option Value:=w.cell? ⟨p.1,p.2,none⟩
def _root_.Go.World.ez (w:World) (p:Cell):Nat× Nat× Nat:=
 match w.heap[p.1]? with
 |some (.cells c _ fr)=>(fr.1,fr.2,c.size)
 |_=>(0,0,0)
def calm (r:Nat× Nat× Nat):Bool:=decide (r.1=r.2.1\/r.2.2<=r.1)
def whole (r:Nat× Nat× Nat) (o n:Nat):Bool:=calm r&&decide (o=0/\r.2.2=n)
theorem qj {r:Nat× Nat× Nat} {o n:Nat} (h:whole r o n=true):calm r=true:=by
 unfold whole at h;rw[Rq]at h;exact h.1
theorem Hu {n:Nat}:whole (0,0,n) 0 n=true:=by simp[whole,calm]
theorem lg {w:World} {b o:Nat} {u:Value} (h:w.at? (b,o)=some u) (hc:calm (w.ez (b,o))=true):w.frozen? ⟨b,o,none⟩=false:=by
 unfold World.at? World.cell? at h;unfold calm World.ez at hc;unfold World.frozen?
 cases hb:w.heap[b]? with
 |none=>rfl
 |some ob=>
  cases ob with
  |cells c t fr=>
   simp only[hb,Sw,SR,if_false]at h;simp only[hb,decide_eq_true_eq]at hc;have:=(RO.1 h).1;obtain⟨lo,hi⟩:=fr;simp only at hc⊢;rw[Bool.and_eq_false_iff,decide_eq_false_iff_not,decide_eq_false_iff_not]
   omega
  |_=>rfl
theorem Dw (w:World) (a:Addr) (v:Value) (p:Cell):(w.setCell a v).ez p=w.ez p:=by
 unfold World.ez World.setCell;simp only[Array.getElem?_modify];by_cases e:a.block=p.1
 ·rw[if_pos e]
  cases hb:w.heap[p.1]? with
  |none=>rfl
  |some ob=>
   cases ob with
   |cells c t fr=>simp only[SL];split<;>simp
   |_=>rfl
 ·rw[if_neg e]
theorem fN (b:Nat):∀(vs:List Value) (o:Nat) (w:World) (p:Cell),(w.setCells b o vs).ez p=w.ez p
 |[],_,_,_=>rfl
 |v::vs,o,w,p=>(fN b vs (o+1) (w.setCell ⟨b,o,none⟩ v) p).trans (Dw w _ v p)
def one:Value->Bool
 |.agg _|.tuple _=>false
 |_=>true
class Tok where
 env:Nat->Value
 Ko:∀n,one (env n)=true
 Kp:env 0=.slice none 0 0
variable [Tok]
def reg (b o n:Nat) (p:Cell):Prop:=p.1=b/\o<=p.2/\p.2<o+n
def az (t:Ty) (xs:List t.El) (i j:Nat) (r:R):Prop:=∃x,xs[i]? =some x/\(t.cells x)[j]? =some r
theorem aJ {t:Ty} {xs:List t.El} {i j:Nat} {r:R} (h:az t xs i j r):i<xs.length/\j<t.sz:=by
 obtain⟨x,hx,hr⟩:=h;refine⟨(Of.1 hx).1,?_⟩;have:=(Of.1 hr).1;rwa [Ty.cf]at this
theorem dv {t:Ty} {xs:List t.El} {i j:Nat} (hi:i<xs.length) (hj:j<t.sz):∃r,az t xs i j r:=by
 refine⟨(t.cells xs[i])[j]'(by rw[Ty.cf];exact hj),xs[i],?_,?_⟩<;>simp
theorem pd {i j n s c:Nat} (hi:i<n) (hj:j<s) (h:n<=c):i*s+j<c*s:=by
 have h1:(i+1)*s<=c*s:=RG s (by omega);have:(i+1)*s=i*s+s:=SM i s;omega
inductive ja (w:World) (ok:Cell->Prop):R->Value->Prop
 |int (k:IntKind) (n:Int):ja w ok (.int k n) (.int k n)
 |bool (b:Bool):ja w ok (.bool b) (.bool b)
 |str (l:List UInt8):ja w ok (.str l) (.string ⟨l.toArray⟩)
 |sl (t:Ty) (xs:List t.El) (a:Option Addr) (cap b o:Nat) (vs:Nat->Nat->Value)
   (ib:xs.length<=cap) (ha:xs=[]\/a=some ⟨b,o,none⟩)
   (hc:∀i j r,az t xs i j r->ok (b,o+(i*t.sz+j))/\w.at? (b,o+(i*t.sz+j))=some (vs i j))
   (hr:∀i j r,az t xs i j r->ja w ok r (vs i j)):ja w ok (.sl t xs) (.slice a xs.length cap)
 |tok (n:Nat):ja w ok (.tok n) (Tok.env n)
 |lN (v:Value) (h:one v=true):ja w ok .lN v
theorem ja.frame {w w':World} {ok ok':Cell->Prop} {r:R} {v:Value} (h:ja w ok r v)
  (hf:∀p u,ok p->w.at? p=some u->ok' p/\w'.at? p=some u):ja w' ok' r v:=by
 induction h with
 |int=>exact .int _ _
 |bool=>exact .bool _
 |str=>exact .str _
 |tok=>exact .tok _
 |lN v h=>exact .lN v h
 |sl t xs a cap b o vs ib ha hc _ ih=>
  exact .sl t xs a cap b o vs ib ha (λi j r hr=>hf _ _ (hc i j r hr).1 (hc i j r hr).2) ih
structure Row (w:World) (inner:R->Value->(Cell->Prop)->Prop) (t:Ty) (xs:List t.El) (hdr:Value) (fp:Cell->Prop) where
 a:Option Addr
 cap:Nat
 b:Nat
 o:Nat
 vs:Nat->Nat->Value
 fs:Nat->Nat->Cell->Prop
 xj:hdr=.slice a xs.length cap
 ib:xs.length<=cap
 ha:cap=0\/a=some ⟨b,o,none⟩
 kj:∀j,j<cap*t.sz->(∃v,w.at? (b,o+j)=some v)/\whole (w.ez (b,o+j)) o (cap*t.sz)=true
 hc:∀i j r,az t xs i j r->w.at? (b,o+(i*t.sz+j))=some (vs i j)
 hr:∀i j r,az t xs i j r->inner r (vs i j) (fs i j)
 hd1:∀i j r p,az t xs i j r->fs i j p->¬reg b o (cap*t.sz) p
 hd2:∀i j r i' j' r' p,az t xs i j r->az t xs i' j' r'->fs i j p->fs i' j' p->i=i'/\j=j'
 hfp:∀p,fp p↔reg b o (cap*t.sz) p\/∃i j r,az t xs i j r/\fs i j p
inductive fj (w:World):R->Value->(Cell->Prop)->Prop
 |int (k:IntKind) (n:Int):fj w (.int k n) (.int k n) (λ_=>False)
 |bool (b:Bool):fj w (.bool b) (.bool b) (λ_=>False)
 |str (l:List UInt8):fj w (.str l) (.string ⟨l.toArray⟩) (λ_=>False)
 |sl (t:Ty) (xs:List t.El) (a:Option Addr) (cap b o:Nat) (vs:Nat->Nat->Value) (fs:Nat->Nat->Cell->Prop) (fp:Cell->Prop)
   (ib:xs.length<=cap) (ha:cap=0\/a=some ⟨b,o,none⟩)
   (kj:∀j,j<cap*t.sz->(∃v,w.at? (b,o+j)=some v)/\whole (w.ez (b,o+j)) o (cap*t.sz)=true)
   (hc:∀i j r,az t xs i j r->w.at? (b,o+(i*t.sz+j))=some (vs i j))
   (hr:∀i j r,az t xs i j r->fj w r (vs i j) (fs i j))
   (hd1:∀i j r p,az t xs i j r->fs i j p->¬reg b o (cap*t.sz) p)
   (hd2:∀i j r i' j' r' p,az t xs i j r->az t xs i' j' r'->fs i j p->fs i' j' p->i=i'/\j=j')
   (hfp:∀p,fp p↔reg b o (cap*t.sz) p\/∃i j r,az t xs i j r/\fs i j p):fj w (.sl t xs) (.slice a xs.length cap) fp
 |tok (n:Nat):fj w (.tok n) (Tok.env n) (λ_=>False)
 |lN (v:Value) (h:one v=true):fj w .lN v (λ_=>False)
theorem fj.row {w:World} {t:Ty} {xs:List t.El} {v:Value} {fp:Cell->Prop} (h:fj w (.sl t xs) v fp):Nonempty (Row w (fj w) t xs v fp):=by
 cases h with
 |sl t xs a cap b o vs fs fp ib ha kj hc hr hd1 hd2 hfp=>exact⟨⟨a,cap,b,o,vs,fs,rfl,ib,ha,kj,hc,hr,hd1,hd2,hfp⟩⟩
theorem Row.QF {w:World} {t:Ty} {xs:List t.El} {v:Value} {fp:Cell->Prop} (h:Row w (fj w) t xs v fp):fj w (.sl t xs) v fp:=by
 obtain⟨a,cap,b,o,vs,fs,rfl,ib,ha,kj,hc,hr,hd1,hd2,hfp⟩:=h;exact .sl t xs a cap b o vs fs fp ib ha kj hc hr hd1 hd2 hfp
theorem fj.frame {w w':World} {r:R} {v:Value} {fp:Cell->Prop} (h:fj w r v fp)
  (hf:∀p u,fp p->w.at? p=some u->w'.at? p=some u/\w'.ez p=w.ez p):fj w' r v fp:=by
 induction h with
 |int=>exact .int _ _
 |bool=>exact .bool _
 |str=>exact .str _
 |tok=>exact .tok _
 |lN v h=>exact .lN v h
 |sl t xs a cap b o vs fs fp ib ha kj hc _ hd1 hd2 hfp ih=>
  have hin:∀i j r,az t xs i j r->fp (b,o+(i*t.sz+j)):=λi j r hr=>(hfp _).2 (.inl ⟨rfl,by simp,by
   have:=pd (aJ hr).1 (aJ hr).2 ib;simp;omega⟩)
  refine .sl t xs a cap b o vs fs fp ib ha (λj hj=>?_) (λi j r hr=>(hf _ _ (hin i j r hr) (hc i j r hr)).1)
   (λi j r hr=>ih i j r hr λp u hp=>hf p u ((hfp p).2 (.inr ⟨i,j,r,hr,hp⟩))) hd1 hd2 hfp
  obtain⟨⟨v,hv⟩,hi⟩:=kj j hj;have:=hf (b,o+j) v ((hfp _).2 (.inl ⟨rfl,by simp,by simp;omega⟩)) hv;exact⟨⟨v,this.1⟩,by rw[this.2];exact hi⟩
theorem fj.Mv {w:World} {r:R} {v:Value} {fp:Cell->Prop} {ok:Cell->Prop} (h:fj w r v fp) (hok:∀p,fp p->ok p):ja w ok r v:=by
 induction h with
 |int=>exact .int _ _
 |bool=>exact .bool _
 |str=>exact .str _
 |tok=>exact .tok _
 |lN v h=>exact .lN v h
 |sl t xs a cap b o vs fs fp ib ha kj hc _ hd1 hd2 hfp ih=>
  refine .sl t xs a cap b o vs ib ?_ (λi j r hr=>⟨hok _ ((hfp _).2 (.inl ⟨rfl,by simp,by
   have:=pd (aJ hr).1 (aJ hr).2 ib;simp;omega⟩)),hc i j r hr⟩)
   (λi j r hr=>ih i j r hr λp hp=>hok p ((hfp p).2 (.inr ⟨i,j,r,hr,hp⟩)))
  rcases ha with rfl|h
  ·exact .inl (Sj.1 (by omega))
  ·exact .inr h
theorem fj.there {w:World} {r:R} {v:Value} {fp:Cell->Prop} (h:fj w r v fp):∀p,fp p->∃u,w.at? p=some u:=by
 induction h with
 |int=>exactλ_ h=>h.elim
 |bool=>exactλ_ h=>h.elim
 |str=>exactλ_ h=>h.elim
 |tok=>exactλ_ h=>h.elim
 |lN=>exactλ_ h=>h.elim
 |sl t xs a cap b o vs fs fp ib ha kj hc _ hd1 hd2 hfp ih=>
  intro p hp
  rcases(hfp p).1 hp with⟨h1,h2,h3⟩|⟨i,j,r,hr,hp⟩
  ·obtain⟨p1,p2⟩:=p;have h1:p1=b:=h1;simp only at h1 h2 h3;subst h1;have:=(kj (p2-o) (by omega)).1;rwa [show o+(p2-o)=p2 from by omega]at this
  ·exact ih i j r hr p hp
structure Pl where
 hdr:Nat->Value
 fp:Nat->Cell->Prop
 base:Cell->Prop
def Blk.kn:Blk->Bool
 |.box _=>true
 |.arr _ _ _=>false
def okd (H:aI) (pl:Pl) (d:List Nat) (p:Cell):Prop:=pl.base p/\∀i B,look H i=some B->(mem i d=true->B.kn=true)->¬pl.fp i p
inductive au (w:World) (H:aI) (pl:Pl):SV->Value->Prop
 |r (d:List Nat) (x:R) (v:Value) (h:ja w (okd H pl d) x v):au w H pl (.r d x) v
 |cj:au w H pl .cj (.slice none 0 0)
 |o6:au w H pl .o6 (.pointer none)
 |own (i:Nat) (sh:Option (List Nat)) (t:Ty) (xs:List t.El) (h:look H i=some (.arr sh t xs)):au w H pl (.own i) (pl.hdr i)
 |sub (i o n:Nat) (sh:Option (List Nat)) (t:Ty) (xs:List t.El) (a a':Option Addr) (cap cap':Nat) (h:look H i=some (.arr sh t xs))
   (hh:pl.hdr i=.slice a xs.length cap) (hn:o+n<=xs.length) (hc:n<=cap') (hc':o+cap'=cap) (ha:cap'=0\/a'=a.map (·.add (o*t.sz))):
   au w H pl (.sub i o n) (.slice a' n cap')
 |bsl (i n:Nat) (cs:List SV) (a:Addr) (h:look H i=some (.box cs)) (hh:pl.hdr i=.pointer (some a)):au w H pl (.bsl i n) (.slice (some a) n n)
 |uq (i o:Nat) (cs:List SV) (b k:Nat) (h:look H i=some (.box cs)) (hh:pl.hdr i=.pointer (some ⟨b,k,none⟩)):au w H pl (.ptr i 0 o) (.pointer (some ⟨b,k+o,none⟩))
 |sD (i x o:Nat) (sh:Option (List Nat)) (t:Ty) (xs:List t.El) (b k n cap:Nat) (h:look H i=some (.arr sh t xs)) (hx:x<xs.length)
   (hh:pl.hdr i=.slice (some ⟨b,k,none⟩) n cap):au w H pl (.ptr i x o) (.pointer (some ⟨b,k+(x*t.sz+o),none⟩))
 |inn (i x c:Nat) (sh:Option (List Nat)) (t:Ty) (xs:List t.El) (b k n cap:Nat) (v:Value) (h:look H i=some (.arr sh t xs)) (hx:x<xs.length) (hc:c<t.sz)
   (hh:pl.hdr i=.slice (some ⟨b,k,none⟩) n cap) (hok:okd H pl [i] (b,k+(x*t.sz+c))) (hv:w.at? (b,k+(x*t.sz+c))=some v) (h1:one v=true):au w H pl (.inn i x c) v
 |ki (d:List Nat) (cs:List R) (b o:Nat) (vs:Nat->Value) (hc:∀j r,cs[j]? =some r->okd H pl d (b,o+j)/\w.at? (b,o+j)=some (vs j))
   (hr:∀j r,cs[j]? =some r->ja w (okd H pl d) r (vs j)):au w H pl (.ki d cs) (.pointer (some ⟨b,o,none⟩))
 |agg (cs:List SV) (vs:Array Value) (hl:cs.length=vs.size) (h1:∀(j:Nat) (v:Value),vs[j]? =some v->one v=true) (h:∀(j:Nat) (x:SV) (v:Value),cs[j]? =some x->vs[j]? =some v->au w H pl x v):au w H pl (.agg cs) (.agg vs)
 |tup (cs:List SV) (vs:Array Value) (hl:cs.length=vs.size) (h:∀(j:Nat) (x:SV) (v:Value),cs[j]? =some x->vs[j]? =some v->au w H pl x v):au w H pl (.tup cs) (.tuple vs)
 |fn (f:Fn) (as bs:List SV) (us vs:Array Value) (hl:as.length=us.size) (h:∀(j:Nat) (x:SV) (v:Value),as[j]? =some x->us[j]? =some v->au w H pl x v)
   (hl':bs.length=vs.size) (h':∀(j:Nat) (x:SV) (v:Value),bs[j]? =some x->vs[j]? =some v->au w H pl x v):au w H pl (.fn f as bs) (.func f us vs)
 |undef (v:Value):au w H pl .undef v
def dS (w:World) (H:aI) (pl:Pl) (i:Nat):Blk->Prop
 |.box cs=>∃b o,pl.hdr i=.pointer (some ⟨b,o,none⟩)/\(∀p,pl.fp i p↔reg b o cs.length p)/\
   ∀j v,cs[j]? =some v->∃u,w.at? (b,o+j)=some u/\calm (w.ez (b,o+j))=true/\one u=true/\au w H pl v u
 |.arr none t xs=>Nonempty (Row w (fj w) t xs (pl.hdr i) (pl.fp i))
 |.arr (some d) t xs=>Nonempty (Row w (λr v f=>ja w (okd H pl d) r v/\∀p,¬f p) t xs (pl.hdr i) (pl.fp i))
structure cH (H:aI) (pl:Pl) (w:World):Prop where
 blk:∀i B,look H i=some B->dS w H pl i B
 dis:∀i j B B' p,look H i=some B->look H j=some B'->pl.fp i p->pl.fp j p->i=j
 ob:∀i B p,look H i=some B->pl.fp i p->pl.base p
 nb:∀p,w.at? p=none->pl.base p
end
section
variable [Tok]
section lists
variable {α:Type}
theorem aA (k:Nat) (v:α) (l:List (Nat× α)) (n:Nat):look ((k,v)::l) n=if k=n then some v else look l n:=by
 simp only[look];cases h:Nat.beq k n
 ·have:¬k=n:=λe=>by subst e;simp at h
  simp[this]
 ·have:k=n:=Rp h;simp[this]
theorem eF (l:List (Nat× α)) (n m:Nat) (v:α):look (put l n v) m=if n=m then some v else look l m:=by
 induction l with
 |nil=>rw[put,aA]
 |cons x l ih=>
  obtain⟨k,u⟩:=x;simp only[put];cases hk:Nat.beq k n
  ·simp only[cond_false,look,ih];cases hm:Nat.beq k m
   ·simp
   ·have h1:k=m:=Rp hm;subst h1
    have:¬n=k:=λe=>by subst e;simp at hk
    simp[this]
  ·have h1:k=n:=Rp hk;subst h1;simp only[cond_true,look];cases hm:Nat.beq k m
   ·have:¬k=m:=λe=>by subst e;simp at hm
    simp[this]
   ·have:k=m:=Rp hm;simp[this]
theorem aE (l l':List (Nat× α)) (n:Nat):look (l++l') n=(look l n).or (look l' n):=by
 induction l with
 |nil=>simp[look]
 |cons x l ih=>
  obtain⟨k,u⟩:=x;simp only[SU,look];cases Nat.beq k n<;>simp[ih]
theorem mem_iff (i:Nat) (l:List Nat):mem i l=true↔i∈l:=by
 induction l with
 |nil=>simp[mem]
 |cons k l ih=>
  simp only[mem];cases h:Nat.beq k i
  ·have:¬i=k:=λe=>by subst e;simp at h
   simp[ih,this]
  ·have:k=i:=Rp h;simp[this]
theorem fk (T d:List Nat) (h:hit T d=false):∀i,mem i d=true->mem i T=false:=by
 induction d with
 |nil=>intro i hi;simp[mem]at hi
 |cons k l ih=>
  simp only[hit]at h;cases hk:mem k T
  ·rw[hk]at h;intro i hi;rw[mem_iff]at hi
   rcases RN.1 hi with rfl|hi
   ·exact hk
   ·exact ih h i ((mem_iff i l).2 hi)
  ·rw[hk]at h;simp at h
theorem bn (n:Nat) (l:List Blk) (i:Nat):look (aK n l) i=if n<=i then l[i-n]? else none:=by
 induction l generalizing n with
 |nil=>simp[aK,look]
 |cons b l ih=>
  rw[aK,aA,ih];by_cases h:n=i
  ·subst h;simp
  ·by_cases h2:n<=i
   ·rw[if_neg h,if_pos (by omega),if_pos h2];rw[show i-n=(i-(n+1))+1 from by omega];rfl
   ·rw[if_neg h,if_neg (by omega),if_neg h2]
theorem Dx (u h:aI) (i:Nat):look (ru u h) i=match look u.reverse i with|some b=>some b|none=>look h i:=by
 induction u generalizing h with
 |nil=>simp[ru,look]
 |cons x l ih=>
  obtain⟨k,b⟩:=x;rw[ru,ih,List.reverse_cons,aE,eF,aA]
  cases look l.reverse i with
  |some c=>simp
  |none=>by_cases hk:k=i<;>simp[hk,look]
theorem FJ (T:Kil) (s:List (Nat× SV)) (t:Nat):look (Hi T s) t=(look s t).map (SV.aL T):=by
 induction s with
 |nil=>rfl
 |cons x l ih=>
  obtain⟨k,v⟩:=x;rw[Hi,aA,aA,ih];by_cases h:k=t<;>simp[h]
theorem xk (T:Kil) (h h':aI) (e:xd T h=some h') (i:Nat):
  look h' i=cond (mem i T.1) none ((look h i).bind (Blk.aL T))/\(∀b,look h i=some b->mem i T.1=false->∃b',b.aL T=some b'):=by
 induction h generalizing h' with
 |nil=>simp only[xd,It]at e;subst e;simp[look]
 |cons x l ih=>
  obtain⟨k,b⟩:=x;simp only[xd]at e;cases hk:mem k T.1
  ·simp only[hk,cond_false,An,It]at e;obtain⟨b',hb,l',hl,rfl⟩:=e;rw[aA,aA];by_cases hi:k=i
   ·subst hi;simp[hk,hb]
   ·simpa[hi]using ih l' hl
  ·simp only[hk,cond_true]at e;have:=ih h' e;rw[aA];by_cases hi:k=i
   ·subst hi;simp[hk]at this⊢;exact this
   ·simpa[hi]using this
theorem dY {α:Type} {l:List α} (h:isNil l=true):l=[]:=by cases l with|nil=>rfl|cons _ _=>exact nomatch h
theorem FK {T:Kil} (h:T.2=[]) (h1:∀i,mem i T.1=true->mem i T.2=true):T=([],[]):=by
 obtain⟨a,b⟩:=T;simp only at h h1;subst h
 cases a with
 |nil=>rfl
 |cons x l=>have:=h1 x (by simp[mem]);exact nomatch this
theorem xl (i:Nat) (a b:List Nat):mem i (a++b)=(mem i a||mem i b):=by
 induction a with
 |nil=>simp[mem]
 |cons x l ih=>simp only[SU,mem,ih];cases Nat.beq x i<;>simp
theorem CR.fD (c:CR):∀i,mem i c.kil.1=true->mem i c.kil.2=true:=λi h=>by
 show mem i (c.gone++c.ld)=true;rw[xl,show mem i c.gone=true from h];rfl
theorem mY (T:Kil) (l:List SV) (j:Nat):(gX T l)[j]? =(l[j]?).map (SV.aL T):=by
 induction l generalizing j with
 |nil=>rfl
 |cons v l ih=>cases j with
  |zero=>rfl
  |succ j=>simpa[gX]using ih j
theorem fO (T:Kil) (l:List SV):(gX T l).length=l.length:=by
 induction l with
 |nil=>rfl
 |cons v l ih=>simp[gX,ih]
end lists
def Blk.lQ:Blk->Blk->Prop
 |.box a,.box b=>a.length=b.length
 |.arr _ t xs,.arr _ t' ys=>t.sz=t'.sz/\xs.length=ys.length
 |_,_=>False
theorem Blk.dh (b:Blk):b.lQ b:=by cases b<;>simp[Blk.lQ]
structure lh (T:Kil) (w:World) (H:aI) (pl:Pl) (w':World) (H':aI) (pl':Pl):Prop where
 k1:∀i B,look H i=some B->mem i T.1=false->∃B',look H' i=some B'/\B.lQ B'/\pl'.hdr i=pl.hdr i
 k2:∀d p u,(∀i,mem i d=true->mem i T.2=false)->okd H pl d p->w.at? p=some u->okd H' pl' d p/\w'.at? p=some u
theorem au.bz {T:Kil} {w w':World} {H H':aI} {pl pl':Pl} (hk:lh T w H pl w' H' pl') {v:SV} {u:Value} (h:au w H pl v u):
  au w' H' pl' (v.aL T) u:=by
 induction h with
 |r d x v h=>
  simp only[SV.aL];cases hd:hit T.2 d
  ·exact .r d x v (h.frame λp u hp hu=>hk.k2 d p u (fk T.2 d hd) hp hu)
  ·exact .undef _
 |cj=>exact .cj
 |o6=>exact .o6
 |own i sh t xs h=>
  simp only[SV.aL];cases hi:mem i T.1
  ·obtain⟨B',h1,h2,h3⟩:=hk.k1 i _ h hi
   cases B' with
   |box cs=>exact h2.elim
   |arr sh' t' ys=>rw[<-h3];exact .own i sh' t' ys h1
  ·exact .undef _
 |sub i o n sh t xs a a' cap cap' h hh hn hc hc' ha=>
  simp only[SV.aL];cases hi:mem i T.1
  ·obtain⟨B',h1,h2,h3⟩:=hk.k1 i _ h hi
   cases B' with
   |box cs=>exact h2.elim
   |arr sh' t' ys=>
    obtain⟨hz,hl⟩:=h2;exact .sub i o n sh' t' ys a a' cap cap' h1 (by rw[h3,hh,hl]) (hl▸hn) hc hc' (by rw[<-hz];exact ha)
  ·exact .undef _
 |bsl i n cs a h hh=>
  simp only[SV.aL];cases hi:mem i T.1
  ·obtain⟨B',h1,h2,h3⟩:=hk.k1 i _ h hi
   cases B' with
   |arr _ _ _=>exact h2.elim
   |box ds=>
    exact .bsl i n ds a h1 (h3.trans hh)
  ·exact .undef _
 |uq i o cs b k h hh=>
  simp only[SV.aL];cases hi:mem i T.1
  ·obtain⟨B',h1,h2,h3⟩:=hk.k1 i _ h hi
   cases B' with
   |arr _ _ _=>exact h2.elim
   |box ds=>exact .uq i o ds b k h1 (h3.trans hh)
  ·exact .undef _
 |sD i x o sh t xs b k n cap h hx hh=>
  simp only[SV.aL];cases hi:mem i T.1
  ·obtain⟨B',h1,h2,h3⟩:=hk.k1 i _ h hi
   cases B' with
   |box cs=>exact h2.elim
   |arr sh' t' ys=>
    obtain⟨hz,hl⟩:=h2;rw[hz];exact .sD i x o sh' t' ys b k n cap h1 (hl▸hx) (h3.trans hh)
  ·exact .undef _
 |inn i x c sh t xs b k n cap v h hx hc hh hok hv h1=>
  simp only[SV.aL];cases hi:(mem i T.1||mem i T.2)
  ·rw[Bool.or_eq_false_iff]at hi;obtain⟨B',g1,g2,g3⟩:=hk.k1 i _ h hi.1
   have g4:=hk.k2 [i] _ v (λj hj=>by
    simp only[mem]at hj;cases hb:Nat.beq i j<;>simp only[hb,cond_true,cond_false]at hj
    ·exact nomatch hj
    ·rw[<-Rp hb];exact hi.2) hok hv
   cases B' with
   |box cs=>exact g2.elim
   |arr sh' t' ys=>
    obtain⟨hz,hl⟩:=g2;rw[hz]at g4 hc;exact .inn i x c sh' t' ys b k n cap v g1 (hl▸hx) hc (g3.trans hh) g4.1 g4.2 h1
  ·exact .undef _
 |ki d cs b o vs hc hr=>
  simp only[SV.aL];cases hd:hit T.2 d
  ·exact .ki d cs b o vs (λj r hj=>hk.k2 d _ _ (fk T.2 d hd) (hc j r hj).1 (hc j r hj).2)
    λj r hj=>(hr j r hj).frame λp u hp hu=>hk.k2 d p u (fk T.2 d hd) hp hu
  ·exact .undef _
 |agg cs vs hl h1 h ih=>
  refine .agg _ vs (by rw[fO,hl]) h1 λj x v hx hv=>?_;rw[mY]at hx;obtain⟨y,hy,rfl⟩:=Rv.1 hx
  exact ih j y v hy hv
 |tup cs vs hl h ih=>
  refine .tup _ vs (by rw[fO,hl]) λj x v hx hv=>?_;rw[mY]at hx;obtain⟨y,hy,rfl⟩:=Rv.1 hx
  exact ih j y v hy hv
 |fn f as bs us vs hl h hl' h' ih ih'=>
  refine .fn f _ _ us vs (by rw[fO,hl]) (λj x v hx hv=>?_) (by rw[fO,hl']) λj x v hx hv=>?_
  ·rw[mY]at hx;obtain⟨y,hy,rfl⟩:=Rv.1 hx;exact ih j y v hy hv
  ·rw[mY]at hx;obtain⟨y,hy,rfl⟩:=Rv.1 hx
   exact ih' j y v hy hv
 |undef v=>exact .undef _
theorem BJ (d:List Nat):hit [] d=false:=by
 induction d with
 |nil=>rfl
 |cons k l ih=>simpa[hit,mem]using ih
mutual
theorem di:(v:SV)->v.aL ([],[])=v
 |.r d x=>by simp[SV.aL,BJ]
 |.own j=>by simp[SV.aL,mem]
 |.sub j o n=>by simp[SV.aL,mem]
 |.bsl j n=>by simp[SV.aL,mem]
 |.ptr j x o=>by simp[SV.aL,mem]
 |.inn j x c=>by simp[SV.aL,mem]
 |.ki d cs=>by simp[SV.aL,BJ]
 |.agg cs=>by simp[SV.aL,jb cs]
 |.tup cs=>by simp[SV.aL,jb cs]
 |.fn f a b=>by simp[SV.aL,jb a,jb b]
 |.cj=>by simp[SV.aL]
 |.o6=>by simp[SV.aL]
 |.undef=>by simp[SV.aL]
theorem jb:(l:List SV)->gX ([],[]) l=l
 |[]=>rfl
 |v::l=>by simp[gX,di v,jb l]
end
theorem au.we {w w':World} {H H':aI} {pl pl':Pl} (hk:lh ([],[]) w H pl w' H' pl') {v:SV} {u:Value} (h:au w H pl v u):
  au w' H' pl' v u:=by have:=h.bz hk;rwa [di]at this
end
section
variable [Tok]
section
variable {w:World} {H:aI} {pl:Pl}
theorem ja.scalar {ok:Cell->Prop} {x:R} {v:Value} (h:ja w ok x v) (ok':Cell->Prop) (hs:∀t xs,x≠.sl t xs):ja w ok' x v:=by
 cases h with
 |int=>exact .int _ _
 |bool=>exact .bool _
 |str=>exact .str _
 |tok=>exact .tok _
 |lN v h=>exact .lN v h
 |sl t xs=>exact(hs t xs rfl).elim
theorem xm {d:List Nat} {x:R} {v:Value} (h:ja w (okd H pl d) x v):au w H pl (mkR d x) v:=by
 cases x with
 |sl t xs=>exact .r _ _ _ h
 |_=>exact .r _ _ _ (h.scalar _ (λ_ _ e=>nomatch e))
theorem ja.rl {ok:Cell->Prop} {x:R} {v:Value} (h:ja w ok x v):one v=true:=by cases h<;>first|rfl|exact Tok.Ko _|assumption
def gn (w:World) (H:aI) (pl:Pl) (s:List (Nat× SV)) (a:Act):Prop:=∀t v,look s t=some v->au w H pl v (a.tmps.getD t undef)
theorem xn {v:Value} {x:SV} (h:uh v=some x):au w H pl x v:=by
 unfold uh at h
 split at h<;>first|(cases h)|skip
 ·exact .r _ _ _ (.bool _)
 ·exact .r _ _ _ (.int _ _)
 ·exact .r _ _ _ (.str _)
 ·exact .cj
 ·exact .o6
theorem Ak:∀{vs:List Value} {l:List SV},Ag vs=some l->l.length=vs.length/\∀(j:Nat) (x:SV) (v:Value),l[j]? =some x->vs[j]? =some v->au w H pl x v
 |[],l,h=>by cases h;exact⟨rfl,λj x v hx _=>by simp at hx⟩
 |v::vs,l,h=>by
  simp only[Ag,An,It]at h;obtain⟨x,hx,xs,hxs,rfl⟩:=h;obtain⟨h1,h2⟩:=Ak hxs;refine⟨by simp[h1],λj y u hy hu=>?_⟩
  cases j with
  |zero=>simp at hy hu;subst hy hu;exact xn hx
  |succ j=>exact h2 j y u (by simpa using hy) (by simpa using hu)
theorem FL {v:Value} {x:SV} (h:uh v=some x):one v=true:=by
 unfold uh at h
 split at h<;>first|rfl|(cases h)
theorem Al:∀{vs:List Value} {l:List SV},Ag vs=some l->∀(j:Nat) (v:Value),vs[j]? =some v->one v=true
 |[],l,_,j,v,hv=>by simp at hv
 |u::vs,l,h,j,v,hv=>by
  simp only[Ag,An,It]at h;obtain⟨x,hx,xs,hxs,rfl⟩:=h
  cases j with
  |zero=>simp at hv;subst hv;exact FL hx
  |succ j=>exact Al hxs j v (by simpa using hv)
theorem ur {v:Value} {x:SV} (h:Hj v=some x):au w H pl x v:=by
 unfold Hj at h;split at h
 ·simp only[An,It]at h;obtain⟨l,hl,rfl⟩:=h;obtain⟨h1,h2⟩:=Ak (w:=w) (H:=H) (pl:=pl) hl;refine .agg _ _ (by simpa using h1) (λj v hv=>?_) λj x v hx hv=>h2 j x v hx (by simpa using hv);exact Al hl j v (by simpa using hv)
 ·exact xn h
theorem aQ {s:List (Nat× SV)} {a:Act} (hs:gn w H pl s a) {o:Operand} {x:SV} (h:opd s o=some x):au w H pl x (a.eval o):=by
 cases o with
 |tmp t=>exact hs t x h
 |const v=>exact ur h
 |func f=>
  simp only[opd,It]at h;subst h
  exact .fn _ _ _ _ _ rfl (λj x v hx _=>by simp at hx) rfl (λj x v hx _=>by simp at hx)
 |global g=>exact nomatch h
theorem dI {P:Program} {T:TypeId} {i:TypeInfo} (h:P.info? T=some i) (w:World):(sizeOf T).run P w=.ok i.size w:=by
 simp[sizeOf,typeInfo,h]
theorem cF {P:Program} {T:TypeId} {d:TypeDesc} (h:P.underlying T=some d) (w:World):(underlying T).run P w=.ok d w:=by
 simp[underlying,h]
theorem kV {P:Program} {T:TypeId} {d:TypeDesc} (h:P.underlying T=some d) (w:World):(isAgg T).run P w=.ok (xe P T) w:=by
 simp only[isAgg,Sem.run_bind,cF h,Result.andThen_ok,xe,h];cases d<;>rfl
theorem xo (hr:cH H pl w) {p:SV} {u:Value} (hp:au w H pl p u) {cs:List SV} (h:lb H p=some cs):
  ∃b o,u=.pointer (some ⟨b,o,none⟩)/\∀(j:Nat) (x:SV),cs[j]? =some x->∃y,w.at? (b,o+j)=some y/\one y=true/\au w H pl x y:=by
 cases hp with
 |ki d cs' b o vs hc hr'=>
  simp only[lb,It]at h;subst h;refine⟨b,o,rfl,λj x hx=>?_⟩;rw[Sa]at hx;obtain⟨r,hj,rfl⟩:=Rv.1 hx
  exact⟨vs j,(hc j r hj).2,(hr' j r hj).rl,xm (hr' j r hj)⟩
 |uq i o cs' b k hl hh=>
  simp only[lb,hl,It]at h;subst h;obtain⟨b',o',e,_,hc⟩:=hr.blk i _ hl;rw[hh]at e;cases e;refine⟨b,k+o,rfl,λj x hx=>?_⟩;rw[RF]at hx;obtain⟨y,h1,_,h3,h4⟩:=hc _ _ hx
  exact⟨y,by rw[Sv];exact h1,h3,h4⟩
 |sD i x o sh t xs b k n cap hl hx hh=>
  simp only[lb,hl,An,It]at h;obtain⟨e,he,rfl⟩:=h;have hb:=hr.blk i _ hl;refine⟨b,k+(x*t.sz+o),rfl,λj y hy=>?_⟩;rw[RF,Sa]at hy;obtain⟨r,hj,rfl⟩:=Rv.1 hy;have hcell:az t xs x (o+j) r:=⟨e,he,hj⟩
  cases sh with
  |none=>
   obtain⟨R⟩:=hb;obtain⟨a',cap',b',o',vs,fs,h1,h2,h3,h4,h5,h6,h7,h8,h9⟩:=R;rw[hh]at h1;cases h1
   have hne:cap≠0:=by omega
   have h3:=h3.resolve_left hne;cases h3;refine⟨vs x (o+j),by rw[show k+(x*t.sz+o)+j=k+(x*t.sz+(o+j))from by omega];exact h5 _ _ _ hcell,?_,?_⟩
   ·exact((h6 _ _ _ hcell).Mv (ok:=λ_=>True) (λ_ _=>trivial)).rl
   ·refine xm ((h6 _ _ _ hcell).Mv λp hp=>⟨hr.ob i _ p hl ((h9 p).2 (.inr ⟨_,_,_,hcell,hp⟩)),λi' B hB hm hf=>?_⟩);have hp':pl.fp i p:=(h9 p).2 (.inr ⟨_,_,_,hcell,hp⟩);have:=hr.dis i' i _ _ p hB hl hf hp';subst this;have hbx:=hm (by simp[Kc,mem]);rw[hl]at hB;cases hB
    simp[Blk.kn]at hbx
  |some d=>
   obtain⟨R⟩:=hb;obtain⟨a',cap',b',o',vs,fs,h1,h2,h3,h4,h5,h6,h7,h8,h9⟩:=R;rw[hh]at h1;cases h1
   have hne:cap≠0:=by omega
   have h3:=h3.resolve_left hne;cases h3
   exact⟨vs x (o+j),by rw[show k+(x*t.sz+o)+j=k+(x*t.sz+(o+j))from by omega];exact h5 _ _ _ hcell,(h6 _ _ _ hcell).1.rl,xm (h6 _ _ _ hcell).1⟩
 |_=>exact nomatch h
theorem Am {α:Type} {n:Nat} {l m:List α} (h:takeN n l=some m):m.length=n/\∀j,j<n->m[j]? =l[j]? :=by
 unfold takeN at h;cases hn:Nat.ble n l.length
 ·simp[hn]at h
 ·simp only[hn,cond_true,It]at h;subst h;have:=RC hn;exact⟨by simp[this],λj hj=>by simp[hj]⟩
theorem BK {P:Program} {T:TypeId} {cs:List SV} {v:SV} (h:ik P T cs=some v) (b o:Nat)
  (hc:∀(j:Nat) (x:SV),cs[j]? =some x->∃y,w.at? (b,o+j)=some y/\one y=true/\au w H pl x y):
  ∃u,(loadVar T ⟨b,o,none⟩).run P w=.ok u w/\au w H pl v u:=by
 simp only[ik,An]at h;obtain⟨d,hd,i,hi,l,hl,h⟩:=h;obtain⟨h1,h2⟩:=Am hl
 have hy:∀j,j<i.size->∃y x,l[j]? =some x/\w.at? (b,o+j)=some y/\au w H pl x y:=λj hj=>by
  have hx:l[j]? =some (l[j]'(by omega)):=On (by omega);obtain⟨y,h3,_,h5⟩:=hc j _ ((h2 j hj)▸hx);exact⟨y,_,hx,h3,h5⟩
 cases ha:xe P T
 ·simp only[ha,cond_false]at h
  match l,h1,hl,h,hy,h2 with
  |[x],h1,hl,h,hy,h2=>
   simp only[It]at h;subst h;have h1:i.size=1:=h1.symm;obtain⟨y,x',h3,h4,h5⟩:=hy 0 (by omega);simp at h3;subst h3;refine⟨y,?_,h5⟩;have h4:w.cell? ⟨b,o,none⟩=some y:=h4;simp[loadVar,kV hd,ha,h4]
 ·simp only[ha,cond_true,It]at h;subst h
  let f:Nat->Value:=λj=>(w.at? (b,o+j)).getD undef
  have hf:∀j,j<i.size->w.cell? (Addr.add ⟨b,o,none⟩ j)=some (f j):=λj hj=>by
   obtain⟨y,x,_,h4,_⟩:=hy j hj
   have e:Addr.add ⟨b,o,none⟩ j=⟨b,o+j,none⟩:=by
    unfold Addr.add;split
    ·rename_i h0;subst h0;rfl
    ·rfl
   rw[e];show w.at? (b,o+j)=some (f j);simp only[f,h4];rfl
  have hone:∀j,j<i.size->one (f j)=true:=λj hj=>by
   have hx:l[j]? =some (l[j]'(by omega)):=On (by omega);obtain⟨y,h3,h4,_⟩:=hc j _ ((h2 j hj)▸hx);simp only[f,h3];exact h4
  refine⟨.agg ((List.range i.size).map f).toArray,?_,?_⟩
  ·simp[loadVar,kV hd,ha,dI hi,run_loadCells (P:=P) w ⟨b,o,none⟩ i.size f hf]
  ·refine .agg _ _ (by simp[h1]) (λj v hv=>by
    by_cases hj:j<i.size
    ·have:v=f j:=by simp[hj]at hv;exact hv.symm
     rw[this];exact hone j hj
    ·simp[hj]at hv) λj x v hx hv=>?_
   have hj:j<i.size:=by have:=(Of.1 hx).1;omega
   obtain⟨y,x',h3,h4,h5⟩:=hy j hj;rw[h3]at hx;cases hx
   have:v=f j:=by simp[hj]at hv;exact hv.symm
   subst this;simp only[f,h4];exact h5
end
end
end Go.Proofs.Ev
