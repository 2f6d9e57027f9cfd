/- The evaluator over the model's code, and that it is sound: part 1. -/
import Derived.Calls
import Derived.Laws.IdiomCopy
import Derived.Laws.Cells
import Derived.Laws.Sem
set_option linter.unusedVariables false
set_option linter.unusedSimpArgs false
set_option linter.unusedSectionVars false
namespace Go.Proofs.Ev
theorem An:type_of% @Option.bind_eq_some_iff:=@Option.bind_eq_some_iff
theorem It:type_of% @Option.some.injEq:=@Option.some.injEq
theorem Of:type_of% @List.getElem?_eq_some_iff:=@List.getElem?_eq_some_iff
theorem On:type_of% @List.getElem?_eq_getElem:=@List.getElem?_eq_getElem
theorem So:type_of% @Nat.eq_of_beq_eq_true:=@Nat.eq_of_beq_eq_true
theorem VP:type_of% @Bool.and_eq_true:=@Bool.and_eq_true
theorem VQ:type_of% @Int.toNat_natCast:=@Int.toNat_natCast
theorem VR:type_of% @List.length_append:=@List.length_append
theorem VS:type_of% @List.length_cons:=@List.length_cons
theorem VT:type_of% @Bool.not_true:=@Bool.not_true
theorem VU:type_of% @List.getElem?_append_right:=@List.getElem?_append_right
theorem VV:type_of% @List.getElem_mem:=@List.getElem_mem
theorem VW:type_of% @Option.map_eq_some_iff:=@Option.map_eq_some_iff
theorem VX:type_of% @Option.elim_some:=@Option.elim_some
theorem VY:type_of% @List.mem_cons_of_mem:=@List.mem_cons_of_mem
theorem VZ:type_of% @Bool.true_and:=@Bool.true_and
theorem V0:type_of% @List.mem_cons:=@List.mem_cons
theorem V1:type_of% @List.getElem?_append_left:=@List.getElem?_append_left
theorem V2:type_of% @Nat.zero_add:=@Nat.zero_add
theorem V3:type_of% @Array.getElem?_eq_getElem:=@Array.getElem?_eq_getElem
theorem V4:type_of% @Nat.le_of_ble_eq_true:=@Nat.le_of_ble_eq_true
theorem V5:type_of% @List.length_nil:=@List.length_nil
theorem V6:type_of% @List.mem_cons_self:=@List.mem_cons_self
theorem V7:type_of% @List.getElem?_drop:=@List.getElem?_drop
theorem V8:type_of% @List.mem_iff_getElem:=@List.mem_iff_getElem
theorem V9:type_of% @Nat.mul_le_mul_right:=@Nat.mul_le_mul_right
theorem Wa:type_of% @List.mem_of_getElem?:=@List.mem_of_getElem?
theorem Wb:type_of% @Prod.mk.injEq:=@Prod.mk.injEq
theorem Wc:type_of% @Nat.le_refl:=@Nat.le_refl
theorem Wd:type_of% @List.append_assoc:=@List.append_assoc
theorem We:type_of% @Array.getD_eq_getD_getElem?:=@Array.getD_eq_getD_getElem?
theorem Wg:type_of% @Option.bind_some:=@Option.bind_some
theorem Wh:type_of% @List.mem_append:=@List.mem_append
theorem Wi:type_of% @Array.getElem?_eq_some_iff:=@Array.getElem?_eq_some_iff
theorem Wj:type_of% @Bool.not_false:=@Bool.not_false
theorem Wk:type_of% @Nat.add_mul:=@Nat.add_mul
theorem Wl:type_of% @List.getElem?_eq_none:=@List.getElem?_eq_none
theorem Wm:type_of% @List.map_cons:=@List.map_cons
theorem Wn:type_of% @List.length_take:=@List.length_take
theorem Wo:type_of% @List.all_eq_true:=@List.all_eq_true
theorem Wp:type_of% @List.getD_eq_getElem?_getD:=@List.getD_eq_getElem?_getD
theorem Wq:type_of% @Nat.add_zero:=@Nat.add_zero
theorem Wr:type_of% @List.foldl_cons:=@List.foldl_cons
theorem Ws:type_of% @Nat.mul_comm:=@Nat.mul_comm
theorem Wt:type_of% @List.getElem?_take:=@List.getElem?_take
theorem Wu:type_of% @Option.bind_assoc:=@Option.bind_assoc
theorem Wv:type_of% @Nat.add_sub_cancel_left:=@Nat.add_sub_cancel_left
theorem Ww:type_of% @List.append_nil:=@List.append_nil
theorem Wx:type_of% @List.length_set:=@List.length_set
theorem Wy:type_of% @Nat.zero_le:=@Nat.zero_le
theorem Wz:type_of% @List.mem_filter:=@List.mem_filter
theorem WA:type_of% @List.mem_append_right:=@List.mem_append_right
theorem WB:type_of% @List.getElem?_map:=@List.getElem?_map
theorem WC:type_of% @Nat.mod_eq_of_lt:=@Nat.mod_eq_of_lt
theorem WD:type_of% @List.mem_singleton:=@List.mem_singleton
theorem WE:type_of% @Bool.and_eq_true_iff:=@Bool.and_eq_true_iff
theorem WG:type_of% @Int.tdiv_eq_ediv_of_nonneg:=@Int.tdiv_eq_ediv_of_nonneg
theorem WH:type_of% @List.take_length:=@List.take_length
theorem WI:type_of% @Nat.sub_zero:=@Nat.sub_zero
theorem WJ:type_of% @List.length_filter_le:=@List.length_filter_le
theorem WK:type_of% @Nat.mul_le_mul:=@Nat.mul_le_mul
theorem WL:type_of% @List.map_append:=@List.map_append
theorem WM:type_of% @List.foldl_append:=@List.foldl_append
theorem WN:type_of% @List.length_eq_zero_iff:=@List.length_eq_zero_iff
theorem WO:type_of% @List.getElem?_of_mem:=@List.getElem?_of_mem
theorem WQ:type_of% @List.getElem?_set_self:=@List.getElem?_set_self
theorem WR:type_of% @Option.some.inj:=@Option.some.inj
theorem WS:type_of% @List.cons.injEq:=@List.cons.injEq
theorem WT:type_of% @Nat.add_assoc:=@Nat.add_assoc
theorem WU:type_of% @List.mem_append_left:=@List.mem_append_left
theorem WV:type_of% @Option.or_none:=@Option.or_none
theorem WW:type_of% @Nat.mul_add_mod:=@Nat.mul_add_mod
theorem WX:type_of% @List.nodup_cons:=@List.nodup_cons
theorem WY:type_of% @Int.mul_nonneg:=@Int.mul_nonneg
theorem WZ:type_of% @Bool.false_and:=@Bool.false_and
theorem W0:type_of% @Int.natCast_mul:=@Int.natCast_mul
theorem W1:type_of% @List.findIdx?_eq_some_iff_getElem:=@List.findIdx?_eq_some_iff_getElem
theorem W2:type_of% @Option.bind_none:=@Option.bind_none
theorem W3:type_of% @List.sum_cons:=@List.sum_cons
theorem W4:type_of% @List.filter_eq_self:=@List.filter_eq_self
theorem W5:type_of% @Array.getElem?_toList:=@Array.getElem?_toList
theorem W6:type_of% @List.take_append_drop:=@List.take_append_drop
theorem W7:type_of% @List.cons_append:=@List.cons_append
theorem W8:type_of% @Nat.le_trans:=@Nat.le_trans
theorem W9:type_of% @List.length_drop:=@List.length_drop
theorem Xa:type_of% @Nat.div_eq_of_lt:=@Nat.div_eq_of_lt
theorem Xb:type_of% @List.findIdx?_eq_none_iff:=@List.findIdx?_eq_none_iff
theorem Xc:type_of% @List.take_append_of_le_length:=@List.take_append_of_le_length
theorem Xd:type_of% @Nat.ble_eq_true_of_le:=@Nat.ble_eq_true_of_le
theorem Xe:type_of% @List.nil_append:=@List.nil_append
theorem Xf:type_of% @Bool.false_eq_true:=@Bool.false_eq_true
theorem Xg:type_of% @Option.getD_some:=@Option.getD_some
theorem Xh:type_of% @List.getElem?_set_ne:=@List.getElem?_set_ne
theorem Xi:type_of% @Nat.succ_mul:=@Nat.succ_mul
theorem Xj:type_of% @Array.getElem?_append_left:=@Array.getElem?_append_left
theorem Xk:type_of% @List.take_of_length_le:=@List.take_of_length_le
theorem Xl:type_of% @Nat.mul_add_div:=@Nat.mul_add_div
theorem Xm:type_of% @List.range_succ:=@List.range_succ
theorem Xn:type_of% @List.sum_append:=@List.sum_append
theorem Xo:type_of% @List.mem_or_eq_of_mem_set:=@List.mem_or_eq_of_mem_set
theorem Xp:type_of% @Option.isSome_none:=@Option.isSome_none
theorem Xq:type_of% @List.filter_cons:=@List.filter_cons
theorem Xr:type_of% @Bool.or_true:=@Bool.or_true
theorem Xt:type_of% @List.map_nil:=@List.map_nil
theorem Xu:type_of% @Int.mul_le_mul:=@Int.mul_le_mul
theorem Xv:type_of% @List.getElem?_cons_succ:=@List.getElem?_cons_succ
theorem Xw:type_of% @List.any_eq_not_all_not:=@List.any_eq_not_all_not
theorem Xx:type_of% @Option.map_some:=@Option.map_some
theorem Xy:type_of% @Array.ext':=@Array.ext'
theorem Xz:type_of% @List.length_map:=@List.length_map
theorem XA:type_of% @Bool.or_eq_true:=@Bool.or_eq_true
theorem XB:type_of% @Int.le_refl:=@Int.le_refl
theorem XC:type_of% @List.filter_append:=@List.filter_append
theorem XD:type_of% @List.length_replicate:=@List.length_replicate
theorem XE:type_of% @Nat.min_eq_left:=@Nat.min_eq_left
theorem XG:type_of% @List.mem_map:=@List.mem_map
theorem XH:type_of% @List.mem_of_mem_take:=@List.mem_of_mem_take
theorem XI:type_of% @Int.add_zero:=@Int.add_zero
theorem XJ:type_of% @List.flatMap_append:=@List.flatMap_append
theorem XK:type_of% @List.getElem?_cons_zero:=@List.getElem?_cons_zero
theorem XL:type_of% @List.mem_flatMap:=@List.mem_flatMap
theorem XM:type_of% @List.not_mem_nil:=@List.not_mem_nil
theorem XN:type_of% @List.mem_replicate:=@List.mem_replicate
theorem XO:type_of% @Nat.div_add_mod:=@Nat.div_add_mod
theorem XP:type_of% @Nat.div_lt_iff_lt_mul:=@Nat.div_lt_iff_lt_mul
theorem XQ:type_of% @Bool.not_eq_true':=@Bool.not_eq_true'
theorem XR:type_of% @Nat.lt_trichotomy:=@Nat.lt_trichotomy
theorem XU:type_of% @Bool.and_false:=@Bool.and_false
theorem XV:type_of% @List.mem_of_mem_drop:=@List.mem_of_mem_drop
theorem XW:type_of% @List.drop_length:=@List.drop_length
theorem XX:type_of% @List.getElem_set:=@List.getElem_set
theorem X2:type_of% @Int.add_assoc:=@Int.add_assoc
theorem X3:type_of% @Bool.eq_iff_iff:=@Bool.eq_iff_iff
theorem X4:type_of% @Nat.lt_of_lt_of_le:=@Nat.lt_of_lt_of_le
theorem X5:type_of% @List.findIdx?_cons:=@List.findIdx?_cons
theorem X6:type_of% @List.pairwise_cons:=@List.pairwise_cons
theorem X7:type_of% @Option.isSome_some:=@Option.isSome_some
theorem X9:type_of% @Nat.zero_mul:=@Nat.zero_mul
theorem Yb:type_of% @Bool.not_not:=@Bool.not_not
theorem Yc:type_of% @Nat.le_of_lt:=@Nat.le_of_lt
theorem Yd:type_of% @List.map_id':=@List.map_id'
theorem Yh:type_of% @Nat.mod_lt:=@Nat.mod_lt
theorem Yk:type_of% @List.all_cons:=@List.all_cons
theorem Yl:type_of% @Int.mul_assoc:=@Int.mul_assoc
theorem Ym:type_of% @Bool.and_true:=@Bool.and_true
theorem Yy:type_of% @Iff.rfl:=@Iff.rfl
section
structure Shape where
 h:Int
 w:Int
 c:Int
 deriving DecidableEq
structure aF where
 sh:Shape
 data:List Int
 deriving DecidableEq
structure av where
 kind:Int
 out:Int
 size:Int
 step:Int
 mult:Int
 shift:Int
 zero:Int
 weights:List Int
 ny:List Int
 deriving DecidableEq
structure Model where
 inp:Shape
 aC:List av
 deriving DecidableEq
structure Job where
 model:Model
 at_:Int
 act:aF
 ke:Int
 deriving DecidableEq
structure Task where
 id:Int
 ay:List Int
 at_:Int
 due:Int
 born:Int
 deriving DecidableEq
structure ak where
 now:Int
 ai:Int
 age:Int
 tasks:List Task
 run:Int
 left:Int
 turns:Int
 next:Int
 deriving DecidableEq
structure Request where
 id:Int
 model:Int
 job:Job
 due:Int
 deriving DecidableEq
structure Runtime where
 sched:ak
 ao:List Model
 au:List Bool
 ae:List Request
 deriving DecidableEq
structure Step where
 kind:Int
 a:Int
 b:Int
 data:List Int
 input:aF
 deriving DecidableEq
structure Event where
 kind:Int
 a:Int
 b:Int
 out:aF
 deriving DecidableEq
structure Entry where
 id:Int
 model:Model
 input:aF
 at_:Int
 due:Int
 end_:Int
 done:Bool
 deriving DecidableEq
structure SU where
 id:Int
 model:Int
 due:Int
 deriving DecidableEq
structure dY where
 id:Int
 ay:Nat
 at_:Int
 due:Int
 born:Int
 deriving DecidableEq
structure uS where
 id:Int
 model:Int
 mh:Int
 mw:Int
 mc:Int
 aC:Nat
 jat:Int
 ah:Int
 aw:Int
 ac:Int
 data:Nat
 ke:Int
 due:Int
 deriving DecidableEq
structure Reader where
 b:List Int
 at_:Int
 bad:Bool
 deriving DecidableEq
inductive S where
 |shape|en|aP|model|task|request|step|event|entry|O8|dn|jx
 deriving DecidableEq
inductive Ty where
 |int (k:IntKind)|bool|str|sl (t:Ty)|st (s:S)|tok
 |ho (s:S)|hl (t:Ty)
 deriving DecidableEq
def S.E:S->Type
 |.shape=>Shape|.en=>aF|.aP=>av|.model=>Model|.task=>Task|.request=>Request
 |.step=>Step|.event=>Event|.entry=>Entry|.O8=>SU|.dn=>dY|.jx=>uS
def Ty.El:Ty->Type
 |.int _=>Int
 |.bool=>Bool
 |.str=>List UInt8
 |.sl t=>List t.El
 |.st s=>s.E
 |.tok=>Nat
 |.ho s=>Option s.E
 |.hl t=>Option (List t.El)
inductive R where
 |int (k:IntKind) (n:Int)
 |bool (b:Bool)
 |str (l:List UInt8)
 |sl (t:Ty) (xs:List t.El)
 |tok (n:Nat)
 |nz
abbrev R.i (n:Int):R:=.int .i64 n
abbrev R.ints (xs:List Int):R:=.sl (.int .i64) xs
abbrev R.bytes (xs:List Int):R:=.sl (.int .u8) xs
def Mu (x:Shape):List R:=[.i x.h,.i x.w,.i x.c]
def Mv (x:aF):List R:=[.i x.sh.h,.i x.sh.w,.i x.sh.c,.ints x.data]
def QM (x:av):List R:=[.i x.kind,.i x.out,.i x.size,.i x.step,.i x.mult,.i x.shift,.i x.zero,.ints x.weights,.ints x.ny]
def QN (x:Model):List R:=[.i x.inp.h,.i x.inp.w,.i x.inp.c,.sl (.st .aP) x.aC]
def Pg (x:Task):List R:=[.i x.id,.ints x.ay,.i x.at_,.i x.due,.i x.born]
def Jw (x:Request):List R:=[.i x.id,.i x.model,.i x.job.model.inp.h,.i x.job.model.inp.w,.i x.job.model.inp.c,.sl (.st .aP) x.job.model.aC,.i x.job.at_,.i x.job.act.sh.h,.i x.job.act.sh.w,.i x.job.act.sh.c,.ints x.job.act.data,.i x.job.ke,.i x.due]
def SW (x:Step):List R:=[.i x.kind,.i x.a,.i x.b,.bytes x.data,.i x.input.sh.h,.i x.input.sh.w,.i x.input.sh.c,.ints x.input.data]
def QO (x:Event):List R:=[.i x.kind,.i x.a,.i x.b,.i x.out.sh.h,.i x.out.sh.w,.i x.out.sh.c,.ints x.out.data]
def QP (x:Entry):List R:=[.i x.id,.i x.model.inp.h,.i x.model.inp.w,.i x.model.inp.c,.sl (.st .aP) x.model.aC,.i x.input.sh.h,.i x.input.sh.w,.i x.input.sh.c,.ints x.input.data,.i x.at_,.i x.due,.i x.end_,.bool x.done]
def Rm (x:SU):List R:=[.i x.id,.i x.model,.i x.due]
def CC (x:dY):List R:=[.i x.id,.tok x.ay,.i x.at_,.i x.due,.i x.born]
def zN (x:uS):List R:=[.i x.id,.i x.model,.i x.mh,.i x.mw,.i x.mc,.tok x.aC,.i x.jat,.i x.ah,.i x.aw,.i x.ac,.tok x.data,.i x.ke,.i x.due]
def S.sz:S->Nat
 |.shape=>3|.en=>4|.aP=>9|.model=>4|.task=>5|.request=>13|.step=>8|.event=>7|.entry=>13|.O8=>3|.dn=>5|.jx=>13
def S.cells:(s:S)->s.E->List R
 |.shape=>Mu|.en=>Mv|.aP=>QM|.model=>QN|.task=>Pg|.request=>Jw
 |.step=>SW|.event=>QO|.entry=>QP|.O8=>Rm|.dn=>CC|.jx=>zN
def Ty.sz:Ty->Nat
 |.st s=>s.sz
 |.ho s=>s.sz
 |_=>1
def Ty.cells:(t:Ty)->t.El->List R
 |.int k,n=>[.int k n]
 |.bool,b=>[.bool b]
 |.str,l=>[.str l]
 |.sl t,xs=>[.sl t xs]
 |.st s,x=>s.cells x
 |.tok,n=>[.tok n]
 |.ho s,x=>match x with
  |some x=>s.cells x
  |none=>List.replicate s.sz .nz
 |.hl t,x=>match x with
  |some xs=>[.sl t xs]
  |none=>[.nz]
theorem S.cD (s:S) (x:s.E):(s.cells x).length=s.sz:=by cases s<;>rfl
theorem Ty.cD (t:Ty) (x:t.El):(t.cells x).length=t.sz:=by
 cases t with
 |st s=>exact s.cD x
 |ho s=>cases x with
  |none=>simp[Ty.cells,Ty.sz]
  |some x=>exact s.cD x
 |hl t=>cases x<;>rfl
 |_=>rfl
theorem Ty.ia (t:Ty):0<t.sz:=by
 cases t with
 |st s=>cases s<;>simp[Ty.sz,S.sz]
 |ho s=>cases s<;>simp[Ty.sz,S.sz]
 |_=>simp[Ty.sz]
def R.asI:R->Option Int
 |.int .i64 n=>some n
 |_=>none
def R.asB:R->Option Bool
 |.bool b=>some b
 |_=>none
def R.asL (t:Ty):R->Option (List t.El)
 |.sl t' xs=>if h:t'=t then some (h▸xs)else none
 |_=>none
def R.asT:R->Option Nat
 |.tok n=>some n
 |_=>none
theorem R.DS {r:R} {n:Nat} (h:r.asT=some n):r=.tok n:=by
 unfold R.asT at h;split at h
 ·cases h;rfl
 ·cases h
theorem R.aH {r:R} {n:Int} (h:r.asI=some n):r=.int .i64 n:=by
 unfold R.asI at h;split at h
 ·cases h;rfl
 ·cases h
theorem R.Ph {r:R} {n:Bool} (h:r.asB=some n):r=.bool n:=by
 unfold R.asB at h;split at h
 ·cases h;rfl
 ·cases h
theorem R.gy {t:Ty} {r:R} {n:List t.El} (h:r.asL t=some n):r=.sl t n:=by
 unfold R.asL at h;split at h
 ·split at h
  ·rename_i e;subst e;cases h;rfl
  ·cases h
 ·cases h
def FH:List R->Option Shape
 |[a',b',c']=>(a'.asI).bind λa=>(b'.asI).bind λb=>(c'.asI).bind λc=>some ⟨a,b,c⟩
 |_=>none
theorem HJ (cs:List R) (x:Shape) (h:FH cs=some x):Mu x=cs:=by
 unfold FH at h;split at h
 ·simp only[An]at h;obtain⟨a,ha,b,hb,c,hc,h⟩:=h;cases h;rw[R.aH ha,R.aH hb,R.aH hc];rfl
 ·cases h
def zO:List R->Option aF
 |[a',b',c',d']=>(a'.asI).bind λa=>(b'.asI).bind λb=>(c'.asI).bind λc=>(d'.asL (.int .i64)).bind λd=>some ⟨⟨a,b,c⟩,d⟩
 |_=>none
theorem FI (cs:List R) (x:aF) (h:zO cs=some x):Mv x=cs:=by
 unfold zO at h;split at h
 ·simp only[An]at h;obtain⟨a,ha,b,hb,c,hc,d,hd,h⟩:=h;cases h;rw[R.aH ha,R.aH hb,R.aH hc,R.gy hd];rfl
 ·cases h
def FJ:List R->Option av
 |[a',b',c',d',e',f',g',h',i']=>(a'.asI).bind λa=>(b'.asI).bind λb=>(c'.asI).bind λc=>(d'.asI).bind λd=>(e'.asI).bind λe=>(f'.asI).bind λf=>(g'.asI).bind λg=>(h'.asL (.int .i64)).bind λh=>(i'.asL (.int .i64)).bind λi=>some ⟨a,b,c,d,e,f,g,h,i⟩
 |_=>none
theorem HK (cs:List R) (x:av) (h:FJ cs=some x):QM x=cs:=by
 unfold FJ at h;split at h
 ·simp only[An]at h;obtain⟨a,ha,b,hb,c,hc,d,hd,e,he,f,hf,g,hg,h,hh,i,hi,h⟩:=h;cases h;rw[R.aH ha,R.aH hb,R.aH hc,R.aH hd,R.aH he,R.aH hf,R.aH hg,R.gy hh,R.gy hi];rfl
 ·cases h
def FK:List R->Option Model
 |[a',b',c',d']=>(a'.asI).bind λa=>(b'.asI).bind λb=>(c'.asI).bind λc=>(d'.asL (.st .aP)).bind λd=>some ⟨⟨a,b,c⟩,d⟩
 |_=>none
theorem HL (cs:List R) (x:Model) (h:FK cs=some x):QN x=cs:=by
 unfold FK at h;split at h
 ·simp only[An]at h;obtain⟨a,ha,b,hb,c,hc,d,hd,h⟩:=h;cases h;rw[R.aH ha,R.aH hb,R.aH hc,R.gy hd];rfl
 ·cases h
def Mw:List R->Option Task
 |[a',b',c',d',e']=>(a'.asI).bind λa=>(b'.asL (.int .i64)).bind λb=>(c'.asI).bind λc=>(d'.asI).bind λd=>(e'.asI).bind λe=>some ⟨a,b,c,d,e⟩
 |_=>none
theorem KL (cs:List R) (x:Task) (h:Mw cs=some x):Pg x=cs:=by
 unfold Mw at h;split at h
 ·simp only[An]at h;obtain⟨a,ha,b,hb,c,hc,d,hd,e,he,h⟩:=h;cases h;rw[R.aH ha,R.gy hb,R.aH hc,R.aH hd,R.aH he];rfl
 ·cases h
def uT:List R->Option Request
 |[a',b',c',d',e',f',g',h',i',j',k',l',m']=>(a'.asI).bind λa=>(b'.asI).bind λb=>(c'.asI).bind λc=>(d'.asI).bind λd=>(e'.asI).bind λe=>(f'.asL (.st .aP)).bind λf=>(g'.asI).bind λg=>(h'.asI).bind λh=>(i'.asI).bind λi=>(j'.asI).bind λj=>(k'.asL (.int .i64)).bind λk=>(l'.asI).bind λl=>(m'.asI).bind λm=>some ⟨a,b,⟨⟨⟨c,d,e⟩,f⟩,g,⟨⟨h,i,j⟩,k⟩,l⟩,m⟩
 |_=>none
theorem DT (cs:List R) (x:Request) (h:uT cs=some x):Jw x=cs:=by
 unfold uT at h;split at h
 ·simp only[An]at h;obtain⟨a,ha,b,hb,c,hc,d,hd,e,he,f,hf,g,hg,h,hh,i,hi,j,hj,k,hk,l,hl,m,hm,h⟩:=h;cases h;rw[R.aH ha,R.aH hb,R.aH hc,R.aH hd,R.aH he,R.gy hf,R.aH hg,R.aH hh,R.aH hi,R.aH hj,R.gy hk,R.aH hl,R.aH hm];rfl
 ·cases h
def Mx:List R->Option Step
 |[a',b',c',d',e',f',g',h']=>(a'.asI).bind λa=>(b'.asI).bind λb=>(c'.asI).bind λc=>(d'.asL (.int .u8)).bind λd=>(e'.asI).bind λe=>(f'.asI).bind λf=>(g'.asI).bind λg=>(h'.asL (.int .i64)).bind λh=>some ⟨a,b,c,d,⟨⟨e,f,g⟩,h⟩⟩
 |_=>none
theorem KM (cs:List R) (x:Step) (h:Mx cs=some x):SW x=cs:=by
 unfold Mx at h;split at h
 ·simp only[An]at h;obtain⟨a,ha,b,hb,c,hc,d,hd,e,he,f,hf,g,hg,h,hh,h⟩:=h;cases h;rw[R.aH ha,R.aH hb,R.aH hc,R.gy hd,R.aH he,R.aH hf,R.aH hg,R.gy hh];rfl
 ·cases h
def FL:List R->Option Event
 |[a',b',c',d',e',f',g']=>(a'.asI).bind λa=>(b'.asI).bind λb=>(c'.asI).bind λc=>(d'.asI).bind λd=>(e'.asI).bind λe=>(f'.asI).bind λf=>(g'.asL (.int .i64)).bind λg=>some ⟨a,b,c,⟨⟨d,e,f⟩,g⟩⟩
 |_=>none
theorem HM (cs:List R) (x:Event) (h:FL cs=some x):QO x=cs:=by
 unfold FL at h;split at h
 ·simp only[An]at h;obtain⟨a,ha,b,hb,c,hc,d,hd,e,he,f,hf,g,hg,h⟩:=h;cases h;rw[R.aH ha,R.aH hb,R.aH hc,R.aH hd,R.aH he,R.aH hf,R.gy hg];rfl
 ·cases h
def FM:List R->Option Entry
 |[a',b',c',d',e',f',g',h',i',j',k',l',m']=>(a'.asI).bind λa=>(b'.asI).bind λb=>(c'.asI).bind λc=>(d'.asI).bind λd=>(e'.asL (.st .aP)).bind λe=>(f'.asI).bind λf=>(g'.asI).bind λg=>(h'.asI).bind λh=>(i'.asL (.int .i64)).bind λi=>(j'.asI).bind λj=>(k'.asI).bind λk=>(l'.asI).bind λl=>(m'.asB).bind λm=>some ⟨a,⟨⟨b,c,d⟩,e⟩,⟨⟨f,g,h⟩,i⟩,j,k,l,m⟩
 |_=>none
theorem HN (cs:List R) (x:Entry) (h:FM cs=some x):QP x=cs:=by
 unfold FM at h;split at h
 ·simp only[An]at h;obtain⟨a,ha,b,hb,c,hc,d,hd,e,he,f,hf,g,hg,h,hh,i,hi,j,hj,k,hk,l,hl,m,hm,h⟩:=h;cases h;rw[R.aH ha,R.aH hb,R.aH hc,R.aH hd,R.gy he,R.aH hf,R.aH hg,R.aH hh,R.gy hi,R.aH hj,R.aH hk,R.aH hl,R.Ph hm];rfl
 ·cases h
def My:List R->Option SU
 |[a',b',c']=>(a'.asI).bind λa=>(b'.asI).bind λb=>(c'.asI).bind λc=>some ⟨a,b,c⟩
 |_=>none
theorem KN (cs:List R) (x:SU) (h:My cs=some x):Rm x=cs:=by
 unfold My at h;split at h
 ·simp only[An]at h;obtain⟨a,ha,b,hb,c,hc,h⟩:=h;cases h;rw[R.aH ha,R.aH hb,R.aH hc];rfl
 ·cases h
def Jx:List R->Option dY
 |[a',b',c',d',e']=>(a'.asI).bind λa=>(b'.asT).bind λb=>(c'.asI).bind λc=>(d'.asI).bind λd=>(e'.asI).bind λe=>some ⟨a,b,c,d,e⟩
 |_=>none
theorem HO (cs:List R) (x:dY) (hq:Jx cs=some x):CC x=cs:=by
 unfold Jx at hq;split at hq
 ·simp only[An]at hq;obtain⟨a,ha,b,hb,c,hc,d,hd,e,he,hq⟩:=hq;cases hq;rw[R.aH ha,R.DS hb,R.aH hc,R.aH hd,R.aH he];rfl
 ·cases hq
def uU:List R->Option uS
 |[a',b',c',d',e',f',g',h',i',j',k',l',m']=>(a'.asI).bind λa=>(b'.asI).bind λb=>(c'.asI).bind λc=>(d'.asI).bind λd=>(e'.asI).bind λe=>(f'.asT).bind λf=>(g'.asI).bind λg=>(h'.asI).bind λh=>(i'.asI).bind λi=>(j'.asI).bind λj=>(k'.asT).bind λk=>(l'.asI).bind λl=>(m'.asI).bind λm=>some ⟨a,b,c,d,e,f,g,h,i,j,k,l,m⟩
 |_=>none
theorem Cc (cs:List R) (x:uS) (hq:uU cs=some x):zN x=cs:=by
 unfold uU at hq;split at hq
 ·simp only[An]at hq;obtain⟨a,ha,b,hb,c,hc,d,hd,e,he,f,hf,g,hg,h0,hh,i,hi,j,hj,k,hk,l,hl,m,hm,hq⟩:=hq;cases hq;rw[R.aH ha,R.aH hb,R.aH hc,R.aH hd,R.aH he,R.DS hf,R.aH hg,R.aH hh,R.aH hi,R.aH hj,R.DS hk,R.aH hl,R.aH hm];rfl
 ·cases hq
def S.fc:(s:S)->List R->Option s.E
 |.shape=>FH
 |.en=>zO
 |.aP=>FJ
 |.model=>FK
 |.task=>Mw
 |.request=>uT
 |.step=>Mx
 |.event=>FL
 |.entry=>FM
 |.O8=>My
 |.dn=>Jx
 |.jx=>uU
def Ty.xQ:(t:Ty)->R->Option t.El
 |.int k,.int k' n=>if k'=k then some n else none
 |.bool,.bool b=>some b
 |.str,.str l=>some l
 |.sl t,.sl t' xs=>if h:t'=t then some (h▸xs)else none
 |.tok,.tok n=>some n
 |.hl t,.sl t' xs=>if h:t'=t then some (some (h▸xs))else none
 |_,_=>none
def Ty.fc:(t:Ty)->List R->Option t.El
 |.st s,cs=>s.fc cs
 |.ho s,cs=>(s.fc cs).bind λx=>some (some x)
 |t,[r]=>t.xQ r
 |_,_=>none
theorem Ty.HP (t:Ty) (r:R) (x:t.El) (h:t.xQ r=some x):t.cells x=[r]:=by
 cases t with
 |st s=>cases r<;>exact nomatch h
 |int k=>
  cases r with
  |int k' n=>
   replace h:(if k'=k then some n else none)=some x:=h
   split at h
   ·rename_i e;subst e;cases h;rfl
   ·cases h
  |_=>exact nomatch h
 |bool=>
  cases r with
  |bool b=>cases h;rfl
  |_=>exact nomatch h
 |str=>
  cases r with
  |str b=>cases h;rfl
  |_=>exact nomatch h
 |sl t=>
  cases r with
  |sl t' xs=>
   replace h:(if h:t'=t then some (h▸xs)else none)=some x:=h
   split at h
   ·rename_i e;subst e;cases h;rfl
   ·cases h
  |_=>exact nomatch h
 |tok=>
  cases r with
  |tok n=>cases h;rfl
  |_=>exact nomatch h
 |ho s=>cases r<;>exact nomatch h
 |hl t=>
  cases r with
  |sl t' xs=>
   replace h:(if h:t'=t then some (some (h▸xs))else none)=some x:=h
   split at h
   ·rename_i e;subst e;cases h;rfl
   ·cases h
  |_=>exact nomatch h
theorem S.cQ (s:S) (cs:List R) (x:s.E) (h:s.fc cs=some x):s.cells x=cs:=by
 cases s
 ·exact HJ cs x h
 ·exact FI cs x h
 ·exact HK cs x h
 ·exact HL cs x h
 ·exact KL cs x h
 ·exact DT cs x h
 ·exact KM cs x h
 ·exact HM cs x h
 ·exact HN cs x h
 ·exact KN cs x h
 ·exact HO cs x h
 ·exact Cc cs x h
theorem Ty.cQ (t:Ty) (cs:List R) (x:t.El) (h:t.fc cs=some x):t.cells x=cs:=by
 cases t with
 |st s=>exact S.cQ s cs x h
 |ho s=>
  replace h:(s.fc cs).bind (λx=>some (some x))=some x:=h
  obtain⟨y,hy,e⟩:=An.1 h;cases e
  exact S.cQ s cs y hy
 |_=>
  match cs,h with
  |[r],h=>exact Ty.HP _ r x h
end
section
inductive SV where
 |r (d:List Nat) (x:R)
 |bS
 |qX
 |own (i:Nat)
 |sub (i off len:Nat)
 |bsl (i n:Nat)
 |ptr (i idx off:Nat)
 |inn (i x c:Nat)
 |lO (d:List Nat) (cs:List R)
 |agg (cs:List SV)
 |tup (vs:List SV)
 |fn (f:Fn) (first cap:List SV)
 |undef
abbrev SV.i (n:Int):SV:=.r [] (.int .i64 n)
abbrev SV.b (b:Bool):SV:=.r [] (.bool b)
inductive Blk where
 |box (cs:List SV)
 |arr (sh:Option (List Nat)) (t:Ty) (xs:List t.El)
abbrev aO:=List (Nat× Blk)
structure St where
 cE:List (Nat× SV)
 heap:aO
 nid:Nat
 n:Nat
 gh:List (Option Nat):=[]
def look {α:Type}:List (Nat× α)->Nat->Option α
 |[],_=>none
 |(k,v)::l,n=>cond (Nat.beq k n) (some v) (look l n)
def put {α:Type}:List (Nat× α)->Nat->α->List (Nat× α)
 |[],n,v=>[(n,v)]
 |(k,u)::l,n,v=>cond (Nat.beq k n) ((k,v)::l) ((k,u)::put l n v)
def idx {α:Type} (xs:List α) (i:Int):Option α:=cond (decide (0<=i)) xs[i.toNat]? none
def mem (i:Nat):List Nat->Bool
 |[]=>false
 |k::l=>cond (Nat.beq k i) true (mem i l)
def hit (T:List Nat):List Nat->Bool
 |[]=>false
 |k::l=>cond (mem k T) true (hit T l)
abbrev Kil:=List Nat× List Nat
mutual
def SV.aS (T:Kil):SV->SV
 |.r d x=>cond (hit T.2 d) .undef (.r d x)
 |.own j=>cond (mem j T.1) .undef (.own j)
 |.sub j o n=>cond (mem j T.1) .undef (.sub j o n)
 |.bsl j n=>cond (mem j T.1) .undef (.bsl j n)
 |.ptr j x o=>cond (mem j T.1) .undef (.ptr j x o)
 |.inn j x c=>cond (mem j T.1||mem j T.2) .undef (.inn j x c)
 |.lO d cs=>cond (hit T.2 d) .undef (.lO d cs)
 |.agg cs=>.agg (jg T cs)
 |.tup cs=>.tup (jg T cs)
 |.fn f a b=>.fn f (jg T a) (jg T b)
 |.bS=>.bS
 |.qX=>.qX
 |.undef=>.undef
def jg (T:Kil):List SV->List SV
 |[]=>[]
 |v::l=>v.aS T::jg T l
end
def Blk.aS (T:Kil):Blk->Option Blk
 |.box cs=>some (.box (jg T cs))
 |.arr none t xs=>some (.arr none t xs)
 |.arr (some d) t xs=>cond (hit T.2 d) none (some (.arr (some d) t xs))
def zP (T:Kil):aO->Option aO
 |[]=>some []
 |(k,b)::l=>cond (mem k T.1) (zP T l) ((b.aS T).bind λb=>(zP T l).bind λl=>some ((k,b)::l))
def Jy (T:Kil):List (Nat× SV)->List (Nat× SV)
 |[]=>[]
 |(k,v)::l=>(k,v.aS T)::Jy T l
def jy (T:Kil) (h:aO):Option aO:=
 match T.2 with
 |[]=>some h
 |_=>zP T h
def pK (T:Kil) (s:List (Nat× SV)):List (Nat× SV):=
 match T.2 with
 |[]=>s
 |_=>Jy T s
def SV.list (h:aO) (t:Ty):SV->Option (List Nat× List t.El)
 |.r d x=>(x.asL t).bind λxs=>some (d,xs)
 |.bS=>some ([],[])
 |.own i=>match look h i with
  |some (.arr sh t' xs)=>if e:t'=t then some (i::sh.getD [],e▸xs)else none
  |_=>none
 |.sub i o n=>match look h i with
  |some (.arr sh t' xs)=>if e:t'=t then some (i::sh.getD [],((e▸xs).drop o).take n)else none
  |_=>none
 |_=>none
def SV.asInt (k:IntKind):SV->Option Int
 |.r _ (.int k' n)=>cond (decide (k'=k)) (some n) none
 |_=>none
def SV.asI:SV->Option Int
 |.r _ (.int _ n)=>some n
 |_=>none
def SV.asB:SV->Option Bool
 |.r _ (.bool b)=>some b
 |_=>none
def SV.asR (h:aO) (t:Ty) (v:SV):Option (List Nat× R):=
 match t with
 |.sl t'=>(v.list h t').bind λp=>some (p.1,.sl t' p.2)
 |.st _=>none
 |.tok=>match v with
  |.r d (.tok n)=>some (d,.tok n)
  |.bS=>some ([],.tok 0)
  |_=>none
 |_=>match v with
  |.r d x=>some (d,x)
  |_=>none
def S.tys:S->List Ty
 |.shape=>[.int .i64,.int .i64,.int .i64]
 |.en=>[.int .i64,.int .i64,.int .i64,.sl (.int .i64)]
 |.aP=>[.int .i64,.int .i64,.int .i64,.int .i64,.int .i64,.int .i64,.int .i64,.sl (.int .i64),.sl (.int .i64)]
 |.model=>[.int .i64,.int .i64,.int .i64,.sl (.st .aP)]
 |.task=>[.int .i64,.sl (.int .i64),.int .i64,.int .i64,.int .i64]
 |.request=>[.int .i64,.int .i64,.int .i64,.int .i64,.int .i64,.sl (.st .aP),.int .i64,.int .i64,.int .i64,.int .i64,.sl (.int .i64),.int .i64,.int .i64]
 |.step=>[.int .i64,.int .i64,.int .i64,.sl (.int .u8),.int .i64,.int .i64,.int .i64,.sl (.int .i64)]
 |.event=>[.int .i64,.int .i64,.int .i64,.int .i64,.int .i64,.int .i64,.sl (.int .i64)]
 |.entry=>[.int .i64,.int .i64,.int .i64,.int .i64,.sl (.st .aP),.int .i64,.int .i64,.int .i64,.sl (.int .i64),.int .i64,.int .i64,.int .i64,.bool]
 |.O8=>[.int .i64,.int .i64,.int .i64]
 |.dn=>[.int .i64,.tok,.int .i64,.int .i64,.int .i64]
 |.jx=>[.int .i64,.int .i64,.int .i64,.int .i64,.int .i64,.tok,.int .i64,.int .i64,.int .i64,.int .i64,.tok,.int .i64,.int .i64]
def Ty.tys:Ty->List Ty
 |.st s=>s.tys
 |.ho s=>s.tys
 |.hl t=>[.sl t]
 |t=>[t]
def Mm (h:aO):List Ty->List SV->Option (List Nat× List R)
 |[],[]=>some ([],[])
 |t::ts,v::vs=>(v.asR h t).bind λp=>(Mm h ts vs).bind λq=>some (p.1++q.1,p.2::q.2)
 |_,_=>none
def TX (h:aO) (t:Ty) (vs:List SV):Option (List Nat× t.El):=
 (Mm h t.tys vs).bind λp=>(t.fc p.2).bind λx=>some (p.1,x)
def SV.cells:SV->Option (List SV)
 |.agg cs=>some cs
 |.tup _=>none
 |.undef=>none
 |v=>some [v]
mutual
def SV.ids:SV->List Nat
 |.own i=>[i]
 |.sub i _ _=>[i]
 |.bsl i _=>[i]
 |.ptr i _ _=>[i]
 |.agg cs=>KO cs
 |.tup cs=>KO cs
 |.fn _ a b=>KO a++KO b
 |_=>[]
def KO:List SV->List Nat
 |[]=>[]
 |v::l=>v.ids++KO l
end
def qJ:List Nat->List Nat->List Nat
 |acc,[]=>acc
 |acc,i::l=>cond (mem i acc) (qJ acc l) (qJ (acc++[i]) l)
def QQ (h:aO):List Nat->List Nat
 |[]=>[]
 |i::l=>(match look h i with
  |some (.box cs)=>KO cs
  |_=>[])++QQ h l
def reach (h:aO):Nat->List Nat->List Nat
 |0,L=>L
 |n+1,L=>reach h n (qJ L (QQ h L))
def wH:Value->Option SV
 |.bool b=>some (.b b)
 |.int k n=>some (.r [] (.int k n))
 |.string s=>some (.r [] (.str s.data.toList))
 |.slice none 0 0=>some .bS
 |.pointer none=>some .qX
 |_=>none
def CD:List Value->Option (List SV)
 |[]=>some []
 |v::l=>(wH v).bind λx=>(CD l).bind λxs=>some (x::xs)
def Jz:Value->Option SV
 |.agg cs=>(CD cs.toList).bind λl=>some (.agg l)
 |v=>wH v
def opd (cE:List (Nat× SV)):Operand->Option SV
 |.tmp t=>look cE t
 |.const v=>Jz v
 |.func f=>some (.fn (.func f) [] [])
 |.global _=>none
def tY (cE:List (Nat× SV)):List Operand->Option (List SV)
 |[]=>some []
 |x::l=>(opd cE x).bind λv=>(tY cE l).bind λvs=>some (v::vs)
end
section
abbrev TT:=TypeId->Option Ty
def aU:Nat:=2^38
def zQ (P:Program) (T:TypeId):Bool:=
 match P.underlying T with
 |some (.struct _)=>true
 |some (.array _ _)=>true
 |_=>false
def nA (P:Program) (T:TypeId):Option TypeId:=
 match P.underlying T with
 |some (.slice e)=>some e
 |_=>none
def wI (P:Program) (T:TypeId) (f:Nat):Option Field:=
 match P.underlying T with
 |some (.struct fs)=>(fs[f]?).bind λf=>(P.info? f.type).bind λi=>cond (Nat.beq i.size 0) none (some f)
 |_=>none
def j6 (P:Program) (T:TypeId):Option Nat:=(P.info? T).bind λi=>some i.size
def uV (P:Program):List Field->Option (List (Nat× Nat))
 |[]=>some []
 |f::fs=>(j6 P f.type).bind λs=>(uV P fs).bind λl=>some ((f.offset,s)::l)
def takeN {α:Type} (n:Nat) (l:List α):Option (List α):=cond (Nat.ble n l.length) (some (l.take n)) none
def jz (P:Program) (T:TypeId) (cs:List SV):Option SV:=
  (P.underlying T).bind λ_=>(P.info? T).bind λi=>(takeN i.size cs).bind λl=>
    cond (zQ P T) (some (.agg l)) (match l with|[v]=>some v|_=>none)
def mkR (d:List Nat):R->SV
 |.sl t xs=>.r d (.sl t xs)
 |x=>.r [] x
def Mz (i:Nat):Option (List Nat)->List Nat
 |none=>[i]
 |some d=>d
def mO (h:aO):SV->Option (List SV)
 |.lO d cs=>some (cs.map (mkR d))
 |.ptr i x o=>match look h i with
  |some (.box cs)=>some (cs.drop o)
  |some (.arr sh t xs)=>(xs[x]?).bind λe=>some (((t.cells e).map (mkR (Mz i sh))).drop o)
  |_=>none
 |_=>none
def ib (P:Program) (T:TypeId):Option (List SV):=
 (P.info? T).bind λi=>i.zero.bind λz=>(Jz z).bind λv=>v.cells
def qY (place:Nat->Option (Nat× Nat)):List SV->List (Nat× SV)->Option (List SV)
 |cs,[]=>some cs
 |cs,(k,v)::l=>(place k).bind λp=>v.cells.bind λvs=>
   cond (Nat.beq vs.length p.2) (cond (Nat.ble (p.1+vs.length) cs.length) (qY place (cs.take p.1++vs++cs.drop (p.1+vs.length)) l) none) none
def SI (op:BinOp) (k:IntKind) (a b:Int):Option R:=
 match op with
 |.add=>some (.int k (k.wrap (a+b)))
 |.sub=>some (.int k (k.wrap (a-b)))
 |.mul=>some (.int k (k.wrap (a*b)))
 |.quo=>cond (decide (b=0)) none (some (.int k (k.wrap (a.tdiv b))))
 |.rem=>cond (decide (b=0)) none (some (.int k (a.tmod b)))
 |.and=>some (.int k (k.wrap (BitVec.ofInt k.bits a&&& BitVec.ofInt k.bits b).toNat))
 |.or=>some (.int k (k.wrap (BitVec.ofInt k.bits a||| BitVec.ofInt k.bits b).toNat))
 |.xor=>some (.int k (k.wrap (BitVec.ofInt k.bits a^^^ BitVec.ofInt k.bits b).toNat))
 |.eql=>some (.bool (a==b))
 |.neq=>some (.bool (a !=b))
 |.lss=>some (.bool (decide (a<b)))
 |.leq=>some (.bool (decide (a<=b)))
 |.gtr=>some (.bool (decide (a>b)))
 |.geq=>some (.bool (decide (a>=b)))
 |_=>none
def FN (op:BinOp) (k:IntKind) (a b:Int):Option R:=
  cond (decide (b<0)) none
    (match op with
     |.shl=>some (.int k (k.wrap (a*2^(min b.toNat k.bits))))
     |.shr=>some (.int k (a.fdiv (2^(min b.toNat k.bits))))
     |_=>none)
def SX (op:BinOp) (a b:List UInt8):Option R:=
 match op with
 |.add=>cond (decide (a.length+b.length<=aU)) (some (.str (a++b))) none
 |.eql=>some (.bool (a==b))
 |.neq=>some (.bool (!(a==b)))
 |.lss=>some (.bool (Op.bytesLess a b))
 |.leq=>some (.bool (Op.bytesLess a b||a==b))
 |.gtr=>some (.bool (!(Op.bytesLess a b||a==b)))
 |.geq=>some (.bool (!(Op.bytesLess a b)))
 |_=>none
def Pj (P:Program) (xs ys:List SV):List Field->Option Bool
 |[]=>some true
 |f::fs=>cond (decide (f.name= "_")) none (match P.underlying f.type,xs[f.offset]?,ys[f.offset]? with
  |some (.int _),some (.r _ (.int k a)),some (.r _ (.int l b))=>cond (decide (k=l)) ((Pj P xs ys fs).bind λt=>some (cond (a==b) t false)) none
  |_,_,_=>none)
def SY (P:Program) (T:TypeId) (xs ys:List SV):Option Bool:=
 cond (P.stoodInHeld T) none (cond (P.eqGuardType P.depth T) none (match P.underlying T with
  |some (.struct fs)=>Pj P xs ys fs.toList
  |_=>none))
def MA:BinOp->Bool
 |.shl|.shr=>true
 |_=>false
def isEq:BinOp->Option Bool
 |.eql=>some true
 |.neq=>some false
 |_=>none
def bin (P:Program) (T:TypeId) (op:BinOp) (x y:SV):Option SV:=
 match x,y with
 |.r _ (.int k a),.r _ (.int l b)=>cond (MA op) ((FN op k a b).bind λr=>some (.r [] r)) (cond (decide (k=l)) ((SI op k a b).bind λr=>some (.r [] r)) none)
 |.r _ (.str a),.r _ (.str b)=>(SX op a b).bind λr=>some (.r [] r)
 |.r _ (.bool a),.r _ (.bool b)=>match P.underlying T with
  |some .bool=>(isEq op).bind λe=>some (.b (cond e (a==b) (!(a==b))))
  |_=>none
 |.agg a,.agg b=>(isEq op).bind λe=>(SY P T a b).bind λt=>some (.b (cond e t (!t)))
 |_,_=>none
def un (op:UnOp) (x:SV):Option SV:=
 match op,x with
 |.neg,.r _ (.int k n)=>some (.r [] (.int k (k.wrap (0-n))))
 |.not,.r _ (.bool b)=>some (.b (!b))
 |_,_=>none
def lenOf (h:aO):SV->Option Nat
 |.r _ (.str l)=>some l.length
 |.r _ (.sl _ xs)=>some xs.length
 |.bS=>some 0
 |.own i=>match look h i with
  |some (.arr _ _ xs)=>some xs.length
  |_=>none
 |.sub _ _ n=>some n
 |.bsl _ n=>some n
 |_=>none
def TY (P:Program) (T:TypeId):SV->Bool
 |.r _ (.str _)=>match P.underlying T with
  |some .string=>true
  |_=>false
 |_=>match P.underlying T with
  |some (.slice _)=>true
  |_=>false
def bounds (n:Nat) (lo hi:Option SV):Option (Nat× Nat):=
  (match hi with
   |none=>some n
   |some v=>v.asI.bind λx=>cond (decide (0<=x/\x<=(n:Int))) (some x.toNat) none).bind λh=>
  (match lo with
   |none=>some 0
   |some v=>v.asI.bind λx=>cond (decide (0<=x/\x<=(h:Int))) (some x.toNat) none).bind λl=>some (l,h)
def slT (P:Program) (T:TypeId) (t:Ty):Bool:=
 match P.underlying T with
 |some (.slice e)=>match j6 P e with
  |some n=>Nat.beq n t.sz
  |none=>false
 |_=>false
def JA (P:Program) (T:TypeId):Bool:=
 match P.underlying T with
 |some (.slice e)=>(j6 P e).isSome
 |_=>false
def isStr (P:Program) (T:TypeId):Bool:=
 match P.underlying T with
 |some .string=>true
 |_=>false
def Ue (n m:Nat):Option SV->Nat
 |none=>n
 |some _=>m
def kg (P:Program) (T:TypeId) (h:aO) (x:SV) (lo hi:Option SV):Option SV:=
 match x with
 |.r d (.str l)=>cond (isStr P T) ((bounds l.length lo hi).bind λb=>some (.r d (.str ((l.take b.2).drop b.1)))) none
 |.r d (.sl t xs)=>cond (slT P T t) ((bounds xs.length lo hi).bind λb=>some (.r d (.sl t ((xs.take b.2).drop b.1)))) none
 |.bS=>cond (JA P T) ((bounds 0 lo hi).bind λ_=>some .bS) none
 |.own i=>match look h i with
  |some (.arr _ t xs)=>cond (slT P T t) ((bounds xs.length lo hi).bind λb=>some (.sub i b.1 (b.2-b.1))) none
  |_=>none
 |.sub i o n=>match look h i with
  |some (.arr _ t xs)=>cond (slT P T t) ((bounds (Ue n (xs.length-o) hi) lo hi).bind λb=>some (.sub i (o+b.1) (b.2-b.1))) none
  |_=>none
 |_=>none
def slN (P:Program) (T:TypeId) (h:aO) (x:SV):Option Nat:=
 match x with
 |.r _ (.sl t xs)=>cond (slT P T t) (some xs.length) none
 |.own i=>match look h i with
  |some (.arr _ t xs)=>cond (slT P T t) (some xs.length) none
  |_=>none
 |_=>none
def zl (P:Program) (T:TypeId) (h:aO) (x:SV) (lo:Option SV) (hi m:SV):Option SV:=
 (slN P T h x).bind λn=>m.asI.bind λz=>cond (decide (0<=z/\z<=(n:Int))) ((bounds z.toNat lo (some hi)).bind λ_=>some .undef) none
def bX (P:Program) (T:TypeId) (h:aO) (x:SV) (k:Int):Option SV:=
 match x with
 |.r d (.sl t xs)=>cond (slT P T t) ((idx xs k).bind λe=>some (.lO d (t.cells e))) none
 |.own i=>match look h i with
  |some (.arr _ t xs)=>cond (slT P T t) (cond (decide (0<=k/\k<(xs.length:Int))) (some (.ptr i k.toNat 0)) none) none
  |_=>none
 |.sub i o n=>match look h i with
  |some (.arr _ t _)=>cond (slT P T t) (cond (decide (0<=k/\k<(n:Int))) (some (.ptr i (o+k.toNat) 0)) none) none
  |_=>none
 |.bsl i n=>(nA P T).bind λe=>(j6 P e).bind λsz=>cond (decide (0<=k/\k<(n:Int))) (some (.ptr i 0 (k.toNat*sz))) none
 |_=>none
def MB (P:Program) (src dst:TypeId) (x:SV):Option SV:=
 match P.underlying src,P.underlying dst,x with
 |some (.int _),some (.int k),.r _ (.int _ n)=>some (.r [] (.int k (k.wrap n)))
 |some .string,some .string,.r _ (.str l)=>some (.r [] (.str l))
 |_,_,_=>none
def xR (P:Program) (T:TypeId):Bool:=
 match nA P T with
 |some e=>match P.underlying e with
  |some (.int .u8)=>true
  |_=>false
 |none=>false
def bytesOf (l:List Int):List UInt8:=l.map λn=>UInt8.ofNat n.toNat
def O9 (cE:List (Nat× SV)):Option Operand->Option (Option SV)
 |none=>some none
 |some x=>(opd cE x).bind λv=>some (some v)
def tK (cE:List (Nat× SV)):List (Nat× Operand)->Option (List (Nat× SV))
 |[]=>some []
 |(k,x)::l=>(opd cE x).bind λv=>(tK cE l).bind λvs=>some ((k,v)::vs)
def ij (P:Program) (s:List (Nat× SV)) (h:aO) (op:Op):Option SV:=
 match op with
 |.move x|.assign x=>opd s x
 |.pick c a b=>(opd s c).bind λc=>c.asB.bind λc=>cond c (opd s a) (opd s b)
 |.build T parts=>
  match P.underlying T with
  |some (.struct fs)=>(uV P fs.toList).bind λpl=>(ib P T).bind λz=>(tK s parts.toList).bind λps=>
   (qY (λk=>pl[k]?) z ps).bind λcs=>some (.agg cs)
  |_=>none
 |.load T a=>(opd s a).bind λa=>(mO h a).bind λcs=>jz P T cs
 |.nilCheck x=>(opd s x).bind λv=>match v with
  |.ptr i x o=>some (.ptr i x o)
  |.lO d cs=>some (.lO d cs)
  |_=>none
 |.binOp op T x y _=>(opd s x).bind λx=>(opd s y).bind λy=>bin P T op x y
 |.unOp op _ x=>(opd s x).bind λx=>un op x
 |.convert src dst x=>(opd s x).bind λx=>cond (xR P src&&isStr P dst) ((x.list h (.int .u8)).bind λp=>some (.r [] (.str (bytesOf p.2)))) (MB P src dst x)
 |.makeFunc fn first cap=>(tY s first.toList).bind λa=>(tY s cap.toList).bind λb=>some (.fn fn a b)
 |.slice T x lo hi none=>(opd s x).bind λx=>(O9 s lo).bind λlo=>(O9 s hi).bind λhi=>kg P T h x lo hi
 |.slice T x lo (some hi) (some m)=>(opd s x).bind λx=>(O9 s lo).bind λlo=>(opd s hi).bind λhi=>(opd s m).bind λm=>zl P T h x lo hi m
 |.fieldAddr T x f=>(opd s x).bind λx=>(wI P T f).bind λf=>match x with
  |.lO d cs=>some (.lO d (cs.drop f.offset))
  |.ptr i k o=>some (.ptr i k (o+f.offset))
  |_=>none
 |.field T x f=>(opd s x).bind λx=>(wI P T f).bind λf=>match x with
  |.agg cs=>jz P f.type (cs.drop f.offset)
  |_=>none
 |.indexAddr T x k=>(opd s x).bind λx=>(opd s k).bind λk=>k.asI.bind λk=>bX P T h x k
 |.index T x k=>(opd s x).bind λx=>(opd s k).bind λk=>k.asI.bind λk=>match x with
  |.r _ (.str l)=>cond (isStr P T) ((idx l k).bind λc=>some (.r [] (.int .u8 c.toNat))) none
  |_=>none
 |.extract x k=>(opd s x).bind λx=>match x with
  |.tup vs=>vs[k]?
  |_=>none
 |.call {callee:=.builtin .len,args,argTypes}=>(tY s args.toList).bind λvs=>match vs,argTypes.toList with
  |[v],T::_=>cond (TY P T v) ((lenOf h v).bind λn=>some (.i n)) none
  |_,_=>none
 |.call {callee:=.builtin .cap,args,argTypes}=>(tY s args.toList).bind λvs=>match vs,argTypes.toList with
  |[.bS],T::_=>cond (JA P T) (some (.i 0)) none
  |_,_=>none
 |.call {callee:=.builtin .min,args,.. }=>(tY s args.toList).bind λvs=>match vs with
  |[.r _ (.int k a),.r _ (.int _ b)]=>some (.r [] (.int k (if b<a then b else a)))
  |[.r _ (.int k a),.r _ (.int _ b),.r _ (.int _ c)]=>some (.r [] (.int k (if c<(if b<a then b else a)then c else(if b<a then b else a))))
  |_=>none
 |.call {callee:=.builtin .max,args,.. }=>(tY s args.toList).bind λvs=>match vs with
  |[.r _ (.int k a),.r _ (.int _ b)]=>some (.r [] (.int k (if b>a then b else a)))
  |_=>none
 |_=>none
def DU {α:Type} (h:aO) (v:SV) (K:List SV->Option α):Option α:=
 match v with
 |.lO d cs=>K (cs.map (mkR d))
 |.ptr i x o=>match look h i with
  |some (.box cs)=>K (cs.drop o)
  |some (.arr sh t xs)=>(xs[x]?).bind λe=>K (((t.cells e).map (mkR (Mz i sh))).drop o)
  |_=>none
 |_=>none
def Rn {α:Type} (op:BinOp) (k:IntKind) (a b:Int) (K:R->Option α):Option α:=
 match op with
 |.quo=>cond (decide (b=0)) none (K (.int k (k.wrap (a.tdiv b))))
 |.rem=>cond (decide (b=0)) none (K (.int k (a.tmod b)))
 |op=>(SI op k a b).bind K
def HQ {α:Type} (op:BinOp) (k:IntKind) (a b:Int) (K:R->Option α):Option α:=
  cond (decide (b<0)) none
    (match op with
     |.shl=>K (.int k (k.wrap (a*2^(min b.toNat k.bits))))
     |.shr=>K (.int k (a.fdiv (2^(min b.toNat k.bits))))
     |_=>none)
def Ro {α:Type} (op:BinOp) (a b:List UInt8) (K:R->Option α):Option α:=
 match op with
 |.add=>cond (decide (a.length+b.length<=aU)) (K (.str (a++b))) none
 |op=>(SX op a b).bind K
def Uf {α:Type} (P:Program) (T:TypeId) (op:BinOp) (x y:SV) (K:SV->Option α):Option α:=
 match x,y with
 |.r _ (.int k a),.r _ (.int l b)=>cond (MA op) (HQ op k a b λr=>K (.r [] r)) (cond (decide (k=l)) (Rn op k a b λr=>K (.r [] r)) none)
 |.r _ (.str a),.r _ (.str b)=>Ro op a b λr=>K (.r [] r)
 |x,y=>(bin P T op x y).bind K
def qZ {α:Type} (n:Nat) (lo hi:Option SV) (K:Nat->Nat->Option α):Option α:=
 let lower (h:Nat):Option α:=match lo with
  |none=>K 0 h
  |some v=>v.asI.bind λx=>cond (decide (0<=x/\x<=(h:Int))) (K x.toNat h) none
 match hi with
 |none=>lower n
 |some v=>v.asI.bind λx=>cond (decide (0<=x/\x<=(n:Int))) (lower x.toNat) none
def MC {α:Type} (P:Program) (T:TypeId) (h:aO) (x:SV) (lo hi:Option SV) (K:SV->Option α):Option α:=
 match x with
 |.r d (.str l)=>cond (isStr P T) (qZ l.length lo hi λa b=>K (.r d (.str ((l.take b).drop a)))) none
 |.r d (.sl t xs)=>cond (slT P T t) (qZ xs.length lo hi λa b=>K (.r d (.sl t ((xs.take b).drop a)))) none
 |.bS=>cond (JA P T) (qZ 0 lo hi λ_ _=>K .bS) none
 |.own i=>match look h i with
  |some (.arr _ t xs)=>cond (slT P T t) (qZ xs.length lo hi λa b=>K (.sub i a (b-a))) none
  |_=>none
 |.sub i o n=>match look h i with
  |some (.arr _ t xs)=>cond (slT P T t) (qZ (Ue n (xs.length-o) hi) lo hi λa b=>K (.sub i (o+a) (b-a))) none
  |_=>none
 |_=>none
def wJ {α:Type} (P:Program) (T:TypeId) (h:aO) (x:SV) (k:Int) (K:SV->Option α):Option α:=
 match x with
 |.r d (.sl t xs)=>cond (slT P T t) ((idx xs k).bind λe=>K (.lO d (t.cells e))) none
 |.own i=>match look h i with
  |some (.arr _ t xs)=>cond (slT P T t) (cond (decide (0<=k/\k<(xs.length:Int))) (K (.ptr i k.toNat 0)) none) none
  |_=>none
 |.sub i o n=>match look h i with
  |some (.arr _ t _)=>cond (slT P T t) (cond (decide (0<=k/\k<(n:Int))) (K (.ptr i (o+k.toNat) 0)) none) none
  |_=>none
 |x=>(bX P T h x k).bind K
def FO {α:Type} (P:Program) (T:TypeId) (h:aO) (x:SV) (lo:Option SV) (hi m:SV) (K:SV->Option α):Option α:=
 (slN P T h x).bind λn=>m.asI.bind λz=>cond (decide (0<=z/\z<=(n:Int))) (qZ z.toNat lo (some hi) λ_ _=>K .undef) none
def pL {α:Type} (P:Program) (s:List (Nat× SV)) (h:aO) (op:Op) (K:SV->Option α):Option α:=
 match op with
 |.load T a=>(opd s a).bind λa=>DU h a λcs=>(jz P T cs).bind K
 |.binOp op T x y _=>(opd s x).bind λx=>(opd s y).bind λy=>Uf P T op x y K
 |.slice T x lo hi none=>(opd s x).bind λx=>(O9 s lo).bind λlo=>(O9 s hi).bind λhi=>MC P T h x lo hi K
 |.slice T x lo (some hi) (some m)=>(opd s x).bind λx=>(O9 s lo).bind λlo=>(opd s hi).bind λhi=>(opd s m).bind λm=>FO P T h x lo hi m K
 |.indexAddr T x k=>(opd s x).bind λx=>(opd s k).bind λk=>k.asI.bind λk=>wJ P T h x k K
 |.index T x k=>(opd s x).bind λx=>(opd s k).bind λk=>k.asI.bind λk=>match x with
  |.r _ (.str l)=>cond (isStr P T) ((idx l k).bind λc=>K (.r [] (.int .u8 c.toNat))) none
  |_=>none
 |op=>(ij P s h op).bind K
theorem fX {α β:Type} (b:Bool) (x y:Option α) (K:α->Option β):(cond b x y).bind K=cond b (x.bind K) (y.bind K):=by cases b<;>rfl
theorem HR {α:Type} (h:aO) (v:SV) (K:List SV->Option α):DU h v K=(mO h v).bind K:=by
 unfold DU mO;grind
theorem Pk {α:Type} (op:BinOp) (k:IntKind) (a b:Int) (K:R->Option α):Rn op k a b K=(SI op k a b).bind K:=by
 unfold Rn;split
 ·show _=(cond _ none (some _)).bind K;rw[fX];rfl
 ·show _=(cond _ none (some _)).bind K;rw[fX];rfl
 ·rfl
theorem KP {α:Type} (op:BinOp) (k:IntKind) (a b:Int) (K:R->Option α):HQ op k a b K=(FN op k a b).bind K:=by
 unfold HQ FN;grind
theorem Pm {α:Type} (op:BinOp) (a b:List UInt8) (K:R->Option α):Ro op a b K=(SX op a b).bind K:=by
 unfold Ro;split
 ·show _=(cond _ (some _) none).bind K;rw[fX];rfl
 ·rfl
theorem Rp {α:Type} (P:Program) (T:TypeId) (op:BinOp) (x y:SV) (K:SV->Option α):Uf P T op x y K=(bin P T op x y).bind K:=by
 unfold Uf;split
 ·simp only[bin,fX,KP,Pk,Wu,Wg,W2]
 ·simp only[bin,Pm,Wu,Wg]
 ·rfl
theorem mE {α:Type} (n:Nat) (lo hi:Option SV) (K:Nat->Nat->Option α):qZ n lo hi K=(bounds n lo hi).bind λb=>K b.1 b.2:=by
 unfold qZ bounds;cases hi<;>cases lo<;>simp only[Wu,Wg,fX,W2]
theorem MD {α:Type} (P:Program) (T:TypeId) (h:aO) (x:SV) (lo hi:Option SV) (K:SV->Option α):MC P T h x lo hi K=(kg P T h x lo hi).bind K:=by
 unfold MC kg;split
 ·simp only[fX,mE,Wu,Wg,W2]
 ·simp only[fX,mE,Wu,Wg,W2]
 ·simp only[fX,mE,Wu,Wg,W2]
 ·split
  ·simp only[fX,mE,Wu,Wg,W2]
  ·rfl
 ·split
  ·simp only[fX,mE,Wu,Wg,W2]
  ·rfl
 ·rfl
theorem DW {α:Type} (P:Program) (T:TypeId) (h:aO) (x:SV) (k:Int) (K:SV->Option α):wJ P T h x k K=(bX P T h x k).bind K:=by
 unfold wJ;split
 ·simp only[bX,fX,Wu,Wg,W2]
 ·simp only[bX];grind
 ·simp only[bX];grind
 ·rfl
theorem pM {α:Type} (P:Program) (s:List (Nat× SV)) (h:aO) (op:Op) (K:SV->Option α):pL P s h op K=(ij P s h op).bind K:=by
 unfold pL;split
 ·simp only[ij,HR,Wu]
 ·simp only[ij,Rp,Wu]
 ·simp only[ij,MD,Wu]
 ·simp only[ij,FO,zl,mE,Wu,fX,Wg,W2]
 ·simp only[ij,DW,Wu]
 ·simp only[ij,Wu];grind
 ·rfl
structure CR where
 v:SV
 news:List Blk:=[]
 upd:aO:=[]
 gone:List Nat:=[]
 mP:List Nat:=[]
def CR.kil (c:CR):Kil:=(c.gone,c.gone++c.mP)
abbrev Out:=SV× List Blk
abbrev Orc:=(ρ:Type)->Nat->List SV->aO->(CR->Option ρ)->Option ρ
def SZ:Orc:=λ_ _ _ _ _=>none
def aR:Nat->List Blk->aO
 |_,[]=>[]
 |n,b::l=>(n,b)::aR (n+1) l
inductive Co where
 |k6 (sh:Bool) (t:Ty)
 |ro (t:Ty)
 |drop
 |dep (j:Nat)
 |Pn (t j:Nat)
inductive ik where
 |slot (t:Nat)
 |cell (t j:Nat)
 |box (i j:Nat)
 |FQ (t j:Nat)
 |gh (k:Nat)
def coV (n:Nat) (h:aO):Co->SV->SV× List Blk
 |.k6 sh t,.bS=>(.own n,[.arr (cond sh (some []) none) t []])
 |.ro t,v=>match v.list h t with
  |some p=>(.r p.1 (.sl t p.2),[])
  |none=>(v,[])
 |.drop,_=>(.undef,[])
 |.dep j,.r d x=>(.r (cond (mem j d) d (d++[j])) x,[])
 |_,v=>(v,[])
def Po (st:St) (i j:Nat) (c:Co):St:=
 match look st.heap i with
 |some (.box cs)=>match cs[j]? with
  |some v=>{st with heap:=put (st.heap++aR st.nid (coV st.nid st.heap c v).2) i (.box (cs.set j (coV st.nid st.heap c v).1)),nid:=st.nid+(coV st.nid st.heap c v).2.length}
  |none=>st
 |_=>st
def FR (st:St):ik× Co->St
  | (.slot t, c) => match look st.cE t with
    |some v=>{st with cE:=put st.cE t (coV st.nid st.heap c v).1,heap:=st.heap++aR st.nid (coV st.nid st.heap c v).2,nid:=st.nid+(coV st.nid st.heap c v).2.length}
    |none=>st
  | (.cell t j, c) => match look st.cE t with
    | some (.agg cs) => match cs[j]? with
      |some v=>{st with cE:=put st.cE t (.agg (cs.set j (coV st.nid st.heap c v).1)),heap:=st.heap++aR st.nid (coV st.nid st.heap c v).2,nid:=st.nid+(coV st.nid st.heap c v).2.length}
      |none=>st
    |_=>st
  |(.box i j,c)=>Po st i j c
  | (.FQ t j, c) => match look st.cE t with
    |some (.ptr i _ _)=>Po st i j c
    |_=>st
  |(.gh k,_)=>{st with gh:=st.gh.set k none}
def Ug (st:St):Co->Co
 |.Pn t j=>match look st.cE t with
  |some (.ptr i _ _)=>match look st.heap i with
   |some (.box cs)=>match cs[j]? with
    |some (.own k)=>.dep k
    |_=>.dep 0
   |_=>.dep 0
  |_=>.dep 0
 |c=>c
def S0 (st:St) (x:ik× Co):St:=FR st (x.1,Ug st x.2)
def ME:List (ik× Co)->St->St
 |[],st=>st
 |x::l,st=>ME l (S0 st x)
structure Env where
 P:Program
 tt:TT
 orc:FuncId->Orc
 wr:FuncId->Bool:=λ_=>false
 wt:Bool:=false
 inn:Bool:=false
 fz:Nat->List (Bool× Nat× List Nat):=λ_=>[]
 wk:Nat->List (ik× Co):=λ_=>[]
 lit:Bool:=false
 tak:Bool:=false
 tkt:List Nat:=[]
 swp:Bool:=false
def tL:aO->aO->aO
 |[],h=>h
 |(k,b)::l,h=>tL l (put h k b)
def S1 (s:List (Nat× SV)) (n:Nat) (dst:Option Tmp) (v:SV):Option (List (Nat× SV)):=
 match dst with
 |some t=>cond (Nat.ble (t+1) n) (some (put s t v)) none
 |none=>some s
def St.take (st:St) (dst:Option Tmp) (c:CR):Option St:=
  (jy c.kil (tL c.upd st.heap)).bind λh=>(S1 (pK c.kil st.cE) st.n dst c.v).bind λs=>
    some {st with cE:=s,heap:=h++aR st.nid c.news,nid:=st.nid+c.news.length}
def setCells (cs:List SV) (o:Nat) (vs:List SV):Option (List SV):=
 cond (Nat.ble (o+vs.length) cs.length) (some (cs.take o++vs++cs.drop (o+vs.length))) none
def ra:Ty->Bool
 |.sl _=>false
 |.ho _|.hl _=>false
 |.st .shape|.st .O8|.st .dn|.st .jx=>true
 |.st _=>false
 |_=>true
def isNil {α:Type}:List α->Bool
 |[]=>true
 |_=>false
def KQ (h:aO) (t:Ty):Nat->List SV->Option (List Nat× List t.El)
 |0,_=>some ([],[])
 |n+1,cs=>(TX h t (cs.take t.sz)).bind λp=>(KQ h t n (cs.drop t.sz)).bind λq=>some (p.1++q.1,p.2::q.2)
def SV.Mn (h:aO) (t:Ty) (v:SV):Option (List Nat× R):=
 match t with
 |.sl t'=>match v with
  |.bS=>some ([],.sl t' [])
  |.own i=>match look h i with
   |some (.arr none t1 xs)=>if e:t1=t' then some ([i],.sl t' (e▸xs))else none
   |_=>none
  |_=>none
 |.st _=>none
 |.tok=>match v with
  |.r _ (.tok n)=>some ([],.tok n)
  |.bS=>some ([],.tok 0)
  |_=>none
 |_=>match v with
  |.r _ (.int k n)=>some ([],.int k n)
  |.r _ (.bool b)=>some ([],.bool b)
  |.r _ (.str l)=>some ([],.str l)
  |_=>none
def HS (h:aO):List Ty->List SV->Option (List Nat× List R)
 |[],[]=>some ([],[])
 |t::ts,v::vs=>(v.Mn h t).bind λp=>(HS h ts vs).bind λq=>some (p.1++q.1,p.2::q.2)
 |_,_=>none
def j8 (h:aO) (t:Ty):Nat->List SV->Option (List Nat× List t.El)
 |0,_=>some ([],[])
 |n+1,cs=>(HS h t.tys (cs.take t.sz)).bind λp=>(t.fc p.2).bind λx=>(j8 h t n (cs.drop t.sz)).bind λq=>some (p.1++q.1,x::q.2)
def iu:List Nat->Bool
 |[]=>true
 |i::l=>cond (mem i l) false (iu l)
def FT (h:aO):List SV->Option Bool
 |[]=>some true
 |.own i::l=>(look h i).bind λb=>match b with
  |.arr none _ _=>FT h l
  |.arr (some _) _ _=>some false
  |.box _=>none
 |.r _ (.sl _ _)::_=>some false
 |.sub _ _ _::_=>some false
 |.bsl _ _::_=>some false
 |_::l=>FT h l
def JB (h:aO) (t:Ty) (n:Nat) (cs:List SV):Option (Option (List Nat)× List Nat× List t.El):=
 (FT h cs).bind λb=>cond b ((j8 h t n cs).bind λq=>cond (iu q.1) (some (none,q.1,q.2)) none) ((KQ h t n cs).bind λq=>some (some q.1,[],q.2))
def qK (h:aO):SV->List Nat->List Nat
 |.own i,d=>match look h i with
  |some (.arr (some d') _ _)=>d'
  |_=>d
 |_,d=>d
def tZ (h:aO) (t:Ty) (v:SV):Option (Option (List Nat)× List Nat× List t.El):=
 match v with
 |.bsl i n=>match look h i with
  |some (.box cs)=>(JB h t n cs).bind λq=>some (q.1,i::q.2.1,q.2.2)
  |_=>none
 |_=>(v.list h t).bind λp=>cond (ra t) (some (none,[],p.2)) (some (some (qK h v p.1),[],p.2))
def JC (a b:Option (List Nat)):Option (Option (List Nat)):=
 match a,b with
 |none,none=>some none
 |some d,some d'=>some (some (d++d'))
 |some d,none=>some (some d)
 |none,some d=>some (some d)
def rb (P:Program) (T:TypeId):Bool:=
 match P.info? T with
 |some i=>Nat.ble i.bytes 512
 |none=>false
def S2 (E:Env) (s:List (Nat× SV)) (h:aO) (T:TypeId) (a:Operand):Option SV:=
 cond E.inn (cond (JA E.P T) (match opd s a with
  |some (.ptr i x o)=>match look h i with
   |some (.arr none t _)=>cond (Nat.ble (o+1) t.sz) (some (.inn i x o)) none
   |_=>none
  |_=>none) none) none
def S3 {α:Type} (xs:List α) (x:Nat):List (Option α):=(xs.map some).set x none
def FU {α:Type}:List (Option α)->Option (List α)
 |[]=>some []
 |none::_=>none
 |some x::l=>(FU l).bind λl=>some (x::l)
def uW (n:Nat):List R->List SV
 |[]=>[]
 |.sl _ _::l=>.own n::uW (n+1) l
 |r::l=>.r [] r::uW n l
def nB:List R->List Blk
 |[]=>[]
 |.sl t ys::l=>.arr none t ys::nB l
 |_::l=>nB l
def S4 (P:Program) (s:List (Nat× SV)) (h:aO) (src dst:TypeId) (x:Operand):Option Nat:=
 cond (Nat.beq src dst&&xR P src) (match opd s x with
  |some (.own i)=>match look h i with
   |some (.arr _ _ (_::_))=>some i
   |_=>none
  |_=>none) none
def HT (h:aO):SV->Option (Nat× Nat× Nat)
 |.sub i o n=>some (i,o,n)
 |.own i=>match look h i with
  |some (.arr _ _ xs)=>some (i,0,xs.length)
  |_=>none
 |_=>none
variable {ρ:Type}
def zm (P:Program) (T:TypeId) (h:aO) (i:Nat) (sh:Option (List Nat)) (t:Ty) (ys:List t.El) (k o:Nat) (x:SV) (K:CR->Option ρ):Option ρ:=
 x.cells.bind λxs=>(j6 P T).bind λsz=>cond (Nat.beq sz xs.length&&Nat.ble (o+sz) t.sz) (
  match sh with
  |none=>(HS h ((t.tys.drop o).take sz) xs).bind λp=>cond (iu (i::p.1)) (
    cond (Nat.beq sz t.sz)
     ((t.fc p.2).bind λy=>K {v:=.undef,upd:=[(i,.arr none t (ys.set k y))],gone:=p.1,mP:=[i]})
     ((ys[k]?).bind λe=>(t.fc ((t.cells e).take o++p.2++(t.cells e).drop (o+sz))).bind λy=>K {v:=.undef,upd:=[(i,.arr none t (ys.set k y))],gone:=p.1,mP:=[i]})) none
  |some d=>(Mm h ((t.tys.drop o).take sz) xs).bind λp=>cond (mem i p.1) none (
    cond (Nat.beq sz t.sz)
     ((t.fc p.2).bind λy=>K {v:=.undef,upd:=[(i,.arr (some (d++p.1)) t (ys.set k y))],mP:=[i]})
     ((ys[k]?).bind λe=>(t.fc ((t.cells e).take o++p.2++(t.cells e).drop (o+sz))).bind λy=>K {v:=.undef,upd:=[(i,.arr (some (d++p.1)) t (ys.set k y))],mP:=[i]}))) none
def S5 (P:Program) (T:TypeId):Bool:=
 match P.underlying T with
 |some (.int _)=>true
 |_=>false
def U0 (E:Env) (h:aO) (nid n sz:Nat) (t:Ty) (cs:List SV) (K:CR->Option ρ):Option ρ:=
 cond (E.lit&&Nat.beq t.sz sz) (match j8 h t n cs with
  |some ([],xs)=>K {v:=.own nid,news:=[.arr none t xs]}
  |_=>K {v:=.bsl nid n,news:=[.box cs]}) (K {v:=.bsl nid n,news:=[.box cs]})
def HU (E:Env) (h:aO) (nid:Nat) (e:TypeId) (sz:Nat) (t:Ty) (T':TypeId) (b x:SV) (K:CR->Option ρ):Option ρ:=
 match b with
 |.bS=>cond (S5 E.P T'&&(rb E.P e&&Nat.beq t.sz sz)) (x.asI.bind λl=>(ib E.P e).bind λz=>(j8 h t 1 z).bind λq=>cond (isNil q.1&&Nat.beq z.length sz) (match q.2 with
   |[y]=>cond (decide (1<=l/\l<=(aU:Int))) (K {v:=.own nid,news:=[.arr none t (List.replicate l.toNat y)]}) none
   |_=>none) none) none
 |_=>none
def HV (h:aO) (t:Ty) (b x:SV) (K:CR->Option ρ):Option ρ:=
 match b,x with
 |.sub i 0 a,.sub i' o n=>cond (Nat.beq i i') (match look h i with
  |some (.arr (some d) t' xs)=>if he:t'=t then cond (mem i d) none (cond (Nat.ble (a+n) xs.length&&(Nat.ble (o+n) xs.length&&Nat.ble 1 xs.length))
    (K {v:=.sub i 0 (a+n),upd:=[(i,.arr (some d) t ((he▸xs).take a++((he▸xs).drop o).take n++(he▸xs).drop (a+n)))],mP:=[i]}) none)else none
  |_=>none) none
 |_,_=>none
def S6 (E:Env) (s:List (Nat× SV)) (h:aO) (nid:Nat) (T:TypeId) (a:Operand) (K:CR->Option ρ) (D:Option ρ):Option ρ:=
 cond E.tak (match opd s a with
  |some (.ptr i x 0)=>match look h i with
   |some (.arr none (.st st) xs)=>cond (ra (.st st)) D ((xs[x]?).bind λe=>(jz E.P T (uW nid (st.cells e))).bind λv=>
     K {v:=v,news:=nB (st.cells e),upd:=[(i,.arr none (.ho st) (S3 xs x))],mP:=[i]})
   |_=>D
  |_=>D) D
def taken (E:Env):Operand->Bool
 |.tmp t=>mem t E.tkt
 |_=>false
def S7 (E:Env) (s:List (Nat× SV)) (h:aO) (nid:Nat) (T:TypeId) (a:Operand) (K:CR->Option ρ) (D:Option ρ):Option ρ:=
  cond (taken E a) (match opd s a with
    | some (.ptr i x 0) => match look h i with
      |some (.arr none (.sl t) xs)=>(xs[x]?).bind λe=>(jz E.P T (uW nid ((Ty.sl t).cells e))).bind λv=>
          K {v:=v,news:=nB ((Ty.sl t).cells e),upd:=[(i,.arr none (.hl t) (S3 xs x))],mP:=[i]}
      |_=>none
    |_=>none) D
def DX (E:Env) (s:List (Nat× SV)) (h:aO) (nid:Nat) (op:Op) (K:CR->Option ρ):Option ρ:=
  match op with
  |.alloc T=>(ib E.P T).bind λz=>K {v:=.ptr nid 0 0,news:=[.box z]}
  |.box _ x=>(opd s x).bind λv=>v.cells.bind λcs=>K {v:=.ptr nid 0 0,news:=[.box cs]}
  | .buildSlice T n parts =>
    (nA E.P T).bind λe=>(j6 E.P e).bind λsz=>(tK s parts.toList).bind λps=>(ib E.P e).bind λz=>
      cond (Nat.ble (n*sz) 16777216&&Nat.beq z.length sz) ((qY (λi=>some (i*sz,sz)) (List.replicate (n*sz) .undef) ps).bind λcs=>
        match E.tt e with
        |none=>K {v:=.bsl nid n,news:=[.box cs]}
        |some t=>cond ((ra t||Nat.beq n 0)&&Nat.beq t.sz sz) ((j8 h t n cs).bind λx=>cond (isNil x.1) (K {v:=.own nid,news:=[.arr none t x.2]}) none) (U0 E h nid n sz t cs K)) none
  | .makeSlice T l c =>
    (nA E.P T).bind λe=>(j6 E.P e).bind λsz=>(E.tt e).bind λt=>(ib E.P e).bind λz=>(opd s l).bind λl=>(opd s c).bind λc=>l.asI.bind λl=>c.asI.bind λc=>
      cond (rb E.P e&&Nat.beq t.sz sz) ((j8 h t 1 z).bind λx=>cond (isNil x.1&&Nat.beq z.length sz) (match x.2 with
        |[y]=>cond (decide (0<=l/\l<=c/\c<=(aU:Int))) (K {v:=.own nid,news:=[.arr none t (List.replicate l.toNat y)]}) none
        |_=>none) none) none
  | .call { callee := .builtin .append, args, argTypes } => (tY s args.toList).bind λ vs => match vs, argTypes.toList with
    | [b, x], [T, T'] => (nA E.P T).bind λ e => (j6 E.P e).bind λ sz => (E.tt e).bind λ t => cond (rb E.P e && (Nat.beq t.sz sz && Nat.beq T T')) ((ib E.P e).bind λ z => cond (Nat.beq z.length sz)
      ((tZ h t x).bind λy=>match b with
        |.bS=>cond (hit y.2.1 (y.1.getD [])) none (cond (Nat.ble y.2.2.length aU) (K {v:=.own nid,news:=[.arr y.1 t y.2.2],gone:=y.2.1}) none)
        | .own i => match look h i with
          | some (.arr sh t' xs) => if he : t' = t then
              (JC sh y.1).bind λsh'=>cond (mem i y.2.1) none (cond (hit (i::y.2.1) (sh'.getD [])) none (cond (Nat.ble (xs.length+y.2.2.length) aU) (K {v:=.own nid,news:=[.arr sh' t ((he▸xs)++y.2.2)],gone:=i::y.2.1}) none))
            else none
          |_=>none
        |b=>HV h t b x K) none) (HU E h nid e sz t T' b x K)
    |_,_=>none
  | .call { callee := .builtin .clear, args, argTypes } => (tY s args.toList).bind λ vs => match vs, argTypes.toList with
    | [v], [T] => (nA E.P T).bind λ e => (ib E.P e).bind λ z => (HT h v).bind λ p => match look h p.1 with
      | some (.arr sh t xs) => cond (Nat.beq z.length t.sz) ((j8 h t 1 z).bind λ x => cond (isNil x.1) (match x.2 with
        |[y]=>K {v:=.undef,upd:=[(p.1,.arr sh t (xs.take p.2.1++List.replicate p.2.2 y++xs.drop (p.2.1+p.2.2)))],mP:=[p.1]}
        |_=>none) none) none
      |_=>none
    |_,_=>none
  | .store T a x => (opd s a).bind λ a => (opd s x).bind λ x => match a with
    | .ptr i k o => match look h i with
      |some (.box cs)=>cond (Nat.beq k 0) (x.cells.bind λxs=>(j6 E.P T).bind λsz=>cond (Nat.beq sz xs.length) ((setCells cs o xs).bind λcs=>K {v:=.undef,upd:=[(i,.box cs)]}) none) none
      |some (.arr sh t ys)=>zm E.P T h i sh t ys k o x K
      |_=>none
    |_=>none
  | .call { callee := .value f, args, .. } => (opd s f).bind λ f => (tY s args.toList).bind λ vs => match f with
    |.fn (.func g) first cap=>E.orc g ρ nid (first++vs++cap) h K
    |_=>none
  | .load T a => S7 E s h nid T a K (match S2 E s h T a with
    |some v=>K {v:=v}
    |none=>S6 E s h nid T a K (pL E.P s h (.load T a) λv=>K {v:=v}))
  | .convert src dst x => match S4 E.P s h src dst x with
    |some i=>K {v:=.own i}
    |none=>pL E.P s h (.convert src dst x) λv=>K {v:=v}
  |op=>pL E.P s h op λv=>K {v:=v}
noncomputable def both (x y:Option ρ):Option ρ:=open Classical in if x=y then x else none
def JD:Op->Option (TypeId× Operand× Bool)
 |.binOp .eql T x (.const (.slice none 0 0)) _=>some (T,x,true)
 |.binOp .neq T x (.const (.slice none 0 0)) _=>some (T,x,false)
 |_=>none
noncomputable def Uh (h:aO) (v:SV) (K:Bool->Option ρ):Option ρ:=
 match v with
 |.bS=>K true
 |.r _ (.sl _ xs)=>cond (isNil xs) (both (K true) (K false)) (K false)
 |.own i=>match look h i with
  |some (.arr _ _ xs)=>cond (isNil xs) (both (K true) (K false)) (K false)
  |_=>none
 |_=>none
noncomputable def SJ (E:Env) (o:Oper) (st:St) (K:St->Option ρ):Option ρ:=
 match JD o.op with
 |some (T,x,e)=>cond (JA E.P T) ((opd st.cE x).bind λv=>Uh st.heap v λb=>(st.take o.dst {v:=.b (cond b e (!e))}).bind K) none
 |none=>DX E st.cE st.heap st.nid o.op λc=>(st.take o.dst c).bind K
def Rq (ops:List Oper) (j:Nat):Option Tmp:=(ops[j]?).bind (·.dst)
def FV (o:Oper) (st:St) (K:St->Option ρ):Option ρ:=
 (S1 st.cE st.n o.dst (.tup [])).bind λs=>K {st with cE:=s}
noncomputable def DY (E:Env) (all:List Oper):List Oper->St->(St->Option ρ)->Option ρ
  |[],st,K=>K st
  | o :: rest, st, K =>
    match o.guard with
    |none=>SJ E o st λst=>DY E all rest st K
    | some (j, want) => (Rq all j).bind λ t => (look st.cE t).bind λ v => match v with
      |.tup []=>FV o st λst=>DY E all rest st K
      | v => v.asB.bind λ b =>
        cond b
          (cond want (SJ E o {st with cE:=put st.cE t (.b true)} λst=>DY E all rest st K)
            (FV o {st with cE:=put st.cE t (.b true)} λst=>DY E all rest st K))
          (cond want (FV o {st with cE:=put st.cE t (.b false)} λst=>DY E all rest st K)
            (SJ E o {st with cE:=put st.cE t (.b false)} λst=>DY E all rest st K))
def after (H:aO) (nid:Nat) (c:CR):Option aO:=
 (jy c.kil (tL c.upd H)).bind λh=>some (h++aR nid c.news)
structure DR where
 dst:Option Tmp
 n0:Nat
 c:CR
 see:List Nat
 Pp:List SV:=[]
 len:Bool:=false
abbrev SH:=List (Nat× SV)× aO
def JE (s:List (Nat× SV)) (dst:Option Tmp) (v:SV):List (Nat× SV):=
 match dst with
 |some t=>put s t v
 |none=>s
def KR:aO->Nat->Blk->aO
 |[],_,_=>[]
 |(k,u)::l,n,b=>cond (Nat.beq k n) ((k,b)::l) ((k,u)::KR l n b)
def kh:aO->aO->aO
 |[],h=>h
 |(k,b)::l,h=>kh l (KR h k b)
def DR.app (r:DR) (x:SH):Option SH:=
 (jy r.c.kil (kh r.c.upd x.2)).bind λh=>some (JE (pK r.c.kil x.1) r.dst r.c.v,h++aR r.n0 r.c.news)
def replay (p:Nat->Bool):Nat->List DR->SH->Option SH
 |_,[],x=>some x
 |j,r::l,x=>cond (p j) ((r.app x).bind λx=>replay p (j+1) l x) (replay p (j+1) l x)
def wK (n:Nat):List Edge->Bool
 |[]=>true
 |e::l=>cond (Region.binds .any e) (cond (Nat.ble (e.on+1) n) (wK n l) false) (wK n l)
def FW (aN:List Nat):List Edge->Nat
 |[]=>0
 |e::l=>cond (Region.binds .any e) ((aN.getD e.on 0||| 2^e.on)||| FW aN l) (FW aN l)
def zR:List Nat->List Oper->Option (List Nat)
 |acc,[]=>some acc
 |acc,o::l=>cond (wK acc.length o.after.toList) (zR (acc++[FW acc o.after.toList]) l) none
def j9:List Oper->List Nat
 |[]=>[]
 |o::l=>match o.dst with
  |some t=>t::j9 l
  |none=>j9 l
def Pq (aN:List Nat) (i:Nat):Nat->List Oper->List Nat
 |_,[]=>[]
 |j,o::l=>cond ((aN.getD j 0).testBit i) (Pq aN i (j+1) l) (match o.dst with
  |some t=>t::Pq aN i (j+1) l
  |none=>Pq aN i (j+1) l)
def KS (n:Nat):List Nat->Bool
 |[]=>true
 |i::l=>cond (Nat.ble (i+1) n) (KS n l) false
def fu:List Operand->List Nat
 |[]=>[]
 |.tmp t::l=>t::fu l
 |_::l=>fu l
def oV (T:List Nat) (s:List (Nat× SV)):List Nat->List (Nat× SV)
 |[]=>[]
 |t::l=>cond (mem t T) (oV T s l) (match look s t with
  |some v=>(t,v)::oV T s l
  |none=>oV T s l)
def nF (E:Env):Op->Bool
 |.store _ _ _=>true
 |.load _ _=>E.tak
 |.call {callee:=.builtin .len,.. }|.call {callee:=.builtin .cap,.. }|.call {callee:=.builtin .min,.. }|.call {callee:=.builtin .max,.. }=>false
 |.call {callee:=.builtin _,.. }=>true
 |.call {callee:=.value (.func g),.. }=>E.wr g
 |.call {callee:=.value _,.. }=>E.wt
 |.call _=>false
 |_=>false
def S8 (aN:List Nat) (i j:Nat):Bool:=Nat.beq i j||((aN.getD i 0).testBit j||(aN.getD j 0).testBit i)
def xS (E:Env) (aN:List Nat) (i:Nat):Nat->List Oper->Bool
 |_,[]=>false
 |j,o::l=>cond (nF E o.op) (cond (S8 aN i j) (xS E aN i (j+1) l) true) (xS E aN i (j+1) l)
def DZ (s:List (Nat× SV)):List Nat->List SV
 |[]=>[]
 |t::l=>match look s t with
  |some v=>v::DZ s l
  |none=>DZ s l
def xT (h:aO):List Nat->aO
 |[]=>[]
 |i::l=>match look h i with
  |some b=>(i,b)::xT h l
  |none=>xT h l
def Rr:Op->Bool
 |.move _=>true
 |.assign _=>true
 |.extract _ _=>true
 |.nilCheck _=>true
 |.fieldAddr _ _ _=>true
 |_=>false
def S9:Op->Bool
 |.load _ _=>true
 |_=>false
def Ui (E:Env) (aN:List Nat) (i:Nat) (ops:List Oper) (x:SH) (o:Oper):List Nat:=
 cond (xS E aN i 0 ops&&!Rr o.op) (reach x.2 (cond (S9 o.op) 0 3) (qJ [] (KO (DZ x.1 (fu o.op.operands.toList))))) []
def KT (E:Env) (aN:List Nat) (i:Nat) (ops:List Oper) (x:SH) (o:Oper):aO:=
 cond (xS E aN i 0 ops) (xT x.2 (Ui E aN i ops x o)) x.2
def Pt (L:List Nat):aO->Bool
 |[]=>false
 |(k,_)::l=>cond (mem k L) true (Pt L l)
def okW (E:Env) (op:Op) (c:CR):Bool:=cond (nF E op) true (isNil c.kil.2&&isNil c.upd)
mutual
def SV.Mo (T:Kil):SV->Bool
 |.r d _=>!hit T.2 d
 |.own i=>!mem i T.1
 |.sub i _ _=>!mem i T.1
 |.bsl i _=>!mem i T.1
 |.ptr i _ _=>!mem i T.1
 |.inn i _ _=>!(mem i T.1||mem i T.2)
 |.lO d _=>!hit T.2 d
 |.agg cs=>zS T cs
 |.tup cs=>zS T cs
 |.fn _ a b=>zS T a&&zS T b
 |.bS=>true
 |.qX=>true
 |.undef=>true
def zS (T:Kil):List SV->Bool
 |[]=>true
 |v::l=>v.Mo T&&zS T l
end
def Blk.Mo (T:Kil):Blk->Bool
 |.box cs=>zS T cs
 |.arr (some d) _ _=>!hit T.2 d
 |.arr none _ _=>true
def MF (k:Nat) (B:Blk):List DR->Bool
 |[]=>true
 |r::l=>cond ((look r.c.upd k).isNone&&(!mem k r.c.kil.1&&B.Mo r.c.kil)) (MF k B l) false
def TZ (h:aO) (rs:List DR):List Nat->Bool
 |[]=>true
 |k::l=>match look h k with
  |some B=>cond (MF k B rs) (TZ h rs l) false
  |none=>false
def gB (cm:DR->Bool) (r:DR):Bool:=isNil r.c.kil.2&&(isNil r.c.upd&&(isNil r.c.news&&cm r))
def KU (b a:DR):Bool:=a.c.v.Mo b.c.kil&&zS b.c.kil a.Pp
def Ta (b:DR):aO->Bool
 |[]=>true
 |(k,_)::l=>cond (Nat.ble (k+1) b.n0||Nat.ble (b.n0+b.c.news.length) k) (Ta b l) false
def HW (a b:DR):Bool:=(isNil a.c.kil.2&&isNil b.c.kil.2)&&((isNil b.c.upd&&Ta b a.c.upd)||(isNil a.c.upd&&Ta a b.c.upd))&&(!(Pt b.see a.c.upd)&&!(Pt a.see b.c.upd))
def tC (cm:DR->Bool) (a b:DR):Bool:=HW a b||((KU b a&&gB cm a)||(KU a b&&gB cm b))
def zT (cm:DR->Bool) (aN:List Nat) (i:Nat) (r:DR):Nat->List DR->Bool
 |_,[]=>true
 |j,b::l=>cond ((aN.getD j 0).testBit i) (zT cm aN i r (j+1) l) (cond (tC cm r b) (zT cm aN i r (j+1) l) false)
def CE (cm:DR->Bool) (aN:List Nat):Nat->List DR->Bool
 |_,[]=>true
 |i,r::l=>cond (zT cm aN i r (i+1) l) (CE cm aN (i+1) l) false
def Rs:List DR->Nat->SV->List DR
 |[],_,_=>[]
 |r::l,0,v=>{r with c:={r.c with v:=v}}::l
 |r::l,n+1,v=>r::Rs l n v
def Tb:Op->Bool
 |.indexAddr _ _ _=>true
 |_=>false
def Tc (h:aO):List Nat->Bool
 |[]=>true
 |i::l=>cond (look h i).isSome (Tc h l) false
def FX (x:SH) (o:Oper):List Nat:=qJ [] (KO (DZ x.1 (fu o.op.operands.toList)))
def MH (E:Env) (h0:aO) (x:SH) (o:Oper):Bool:=E.swp&&(Tb o.op&&Tc h0 (FX x o))
def MI (E:Env) (aN:List Nat) (i:Nat) (ops:List Oper) (h0:aO) (x:SH) (o:Oper):aO:=cond (MH E h0 x o) (xT h0 (FX x o)) (KT E aN i ops x o)
def T1 (E:Env) (aN:List Nat) (i:Nat) (ops:List Oper) (h0:aO) (x:SH) (o:Oper):List Nat:=cond (MH E h0 x o) (FX x o) (Ui E aN i ops x o)
def Rt (E:Env) (aN:List Nat) (i:Nat) (ops:List Oper) (h0:aO) (x:SH) (o:Oper) (nid:Nat) (c:CR):DR:=⟨o.dst,nid,c,T1 E aN i ops h0 x o,DZ x.1 (fu o.op.operands.toList),MH E h0 x o⟩
def qL (E:Env) (ops:List Oper) (aN dsts:List Nat) (s0:List (Nat× SV)) (h0:aO):Nat->List Oper->Nat->List DR->(List DR->Nat->Option ρ)->Option ρ
  |_,[],nid,rs,K=>K rs nid
  | i, o :: rest, nid, rs, K =>
    (replay (Nat.testBit (aN.getD i 0)) 0 rs (oV (Pq aN i 0 ops) s0 (fu o.op.operands.toList),h0)).bind λx=>
    match o.guard with
    |none=>DX E (oV [] x.1 (fu o.op.operands.toList)) (MI E aN i ops h0 x o) nid o.op λc=>cond (okW E o.op c) (qL E ops aN dsts s0 h0 (i+1) rest (nid+c.news.length) (rs++[Rt E aN i ops h0 x o nid c]) K) none
    | some (g, want) => cond (Nat.testBit (aN.getD i 0) g) ((rs[g]?).bind λ r => r.dst.bind λ _ => match r.c.v with
      |.tup []=>qL E ops aN dsts s0 h0 (i+1) rest nid (rs++[⟨o.dst,nid,{v:=.tup []},[],[],false⟩]) K
      | .r [] (.bool b) => cond b
        (cond want
          (DX E (oV [] x.1 (fu o.op.operands.toList)) (MI E aN i ops h0 x o) nid o.op λc=>cond (okW E o.op c) (qL E ops aN dsts s0 h0 (i+1) rest (nid+c.news.length) (Rs rs g (.b true)++[Rt E aN i ops h0 x o nid c]) K) none)
          (qL E ops aN dsts s0 h0 (i+1) rest nid (Rs rs g (.b true)++[⟨o.dst,nid,{v:=.tup []},[],[],false⟩]) K))
        (cond want
          (qL E ops aN dsts s0 h0 (i+1) rest nid (Rs rs g (.b false)++[⟨o.dst,nid,{v:=.tup []},[],[],false⟩]) K)
          (DX E (oV [] x.1 (fu o.op.operands.toList)) (MI E aN i ops h0 x o) nid o.op λc=>cond (okW E o.op c) (qL E ops aN dsts s0 h0 (i+1) rest (nid+c.news.length) (Rs rs g (.b false)++[Rt E aN i ops h0 x o nid c]) K) none))
      |_=>none) none
def zU:List Nat->List Nat->Bool
 |[],_=>true
 |i::l,T=>cond (mem i T) false (zU l T)
def D0 (L:List Nat):List DR->Bool
 |[]=>true
 |r::l=>cond (zU L r.c.kil.1) (D0 L l) false
def Ca (h:aO) (rs:List DR) (r:DR):Bool:=cond r.len (D0 r.see rs) (TZ h rs r.see)
def CF (cm:DR->Bool):List DR->Bool
 |[]=>true
 |r::l=>cond (!r.len||gB cm r) (CF cm l) false
def HX (E:Env) (ops:List Oper) (st:St) (K:St->Option ρ):Option ρ:=
  cond (E.P.follows .mixedOrders) ((zR [] ops).bind λaN=>
    cond (iu (j9 ops)) (cond (KS st.n (j9 ops))
      (qL E ops aN (j9 ops) st.cE st.heap 0 ops st.nid [] λrs nid=>cond (CE (Ca st.heap rs) aN 0 rs&&CF (Ca st.heap rs) rs)
        ((replay (λ_=>true) 0 rs (st.cE,st.heap)).bind λx=>K {st with cE:=x.1,heap:=x.2,nid:=nid}) none) none) none) none
inductive Ex where
 |normal
 |exit (id:Nat)
 |ret
def refine(c:Operand) (b:Bool) (st:St):St:=
 match c with
 |.tmp t=>{st with cE:=put st.cE t (.b b)}
 |_=>st
abbrev Ev (ρ:Type):=St->(Ex->St->Option ρ)->Option ρ
def inBlock (id:Nat) (K:Ex->St->Option ρ):Ex->St->Option ρ
 |.exit j,st=>cond (Nat.beq j id) (K .normal st) (K (.exit j) st)
 |e,st=>K e st
def Pa (i:Nat):List Nat->List Nat
 |[]=>[]
 |k::l=>cond (Nat.beq k i) (Pa i l) (k::Pa i l)
def JF (i:Nat) (t:Ty) (h:aO) (v:SV):SV:=
 match v.list h t with
 |some p=>.r (Pa i p.1) (.sl t p.2)
 |none=>.undef
mutual
def SV.frz (i:Nat) (t:Ty) (h:aO):SV->SV
 |.r d x=>.r (Pa i d) x
 |.own j=>cond (Nat.beq j i) (JF i t h (.own j)) (.own j)
 |.sub j o n=>cond (Nat.beq j i) (JF i t h (.sub j o n)) (.sub j o n)
 |.bsl j n=>cond (Nat.beq j i) .undef (.bsl j n)
 |.ptr j x o=>cond (Nat.beq j i) .undef (.ptr j x o)
 |.inn j x c=>cond (Nat.beq j i) .undef (.inn j x c)
 |.lO d cs=>.lO (Pa i d) cs
 |.agg cs=>.agg (FD i t h cs)
 |.tup cs=>.tup (FD i t h cs)
 |.fn f a b=>.fn f (FD i t h a) (FD i t h b)
 |.bS=>.bS
 |.qX=>.qX
 |.undef=>.undef
def FD (i:Nat) (t:Ty) (h:aO):List SV->List SV
 |[]=>[]
 |v::l=>v.frz i t h::FD i t h l
end
def Blk.frz (i:Nat) (t:Ty) (h:aO):Blk->Blk
 |.box cs=>.box (FD i t h cs)
 |.arr none t' xs=>.arr none t' xs
 |.arr (some d) t' xs=>.arr (some (Pa i d)) t' xs
def HY (i:Nat) (t:Ty) (h:aO):aO->aO
 |[]=>[]
 |(k,b)::l=>cond (Nat.beq k i) (HY i t h l) ((k,b.frz i t h)::HY i t h l)
def KV (i:Nat) (t:Ty) (h:aO):List (Nat× SV)->List (Nat× SV)
 |[]=>[]
 |(k,v)::l=>(k,v.frz i t h)::KV i t h l
def Uj (i:Nat) (st:St):St:=
 match look st.heap i with
 |some (.arr _ t _)=>{st with cE:=KV i t st.heap st.cE,heap:=HY i t st.heap st.heap}
 |_=>st
def Td (h:aO):SV->List Nat->Option Nat
 |.own i,[]=>some i
 |.sub i _ _,[]=>some i
 |.agg cs,j::p=>match cs[j]? with
  |some v=>Td h v p
  |none=>none
 |.tup cs,j::p=>match cs[j]? with
  |some v=>Td h v p
  |none=>none
 |.ptr i 0 o,j::p=>match look h i with
  |some (.box cs)=>match cs[o+j]? with
   |some v=>Td h v p
   |none=>none
  |_=>none
 |.bsl i _,j::p=>match look h i with
  |some (.box cs)=>match cs[j]? with
   |some v=>Td h v p
   |none=>none
  |_=>none
 |_,_=>none
termination_by structural _ p=>p
def Uk (i:Nat) (st:St):St:=
 match look st.heap i with
 |some (.arr none t xs)=>{st with heap:=put st.heap i (.arr (some []) t xs)}
 |_=>st
def QR (st:St) (x:Bool× Nat× List Nat):St:=
 match look st.cE x.2.1 with
 |some v=>match Td st.heap v x.2.2 with
  |some i=>cond x.1 (Uk i st) (Uj i st)
  |none=>st
 |none=>st
def JG:List (Bool× Nat× List Nat)->St->St
 |[],st=>st
 |x::l,st=>JG l (QR st x)
def Blk.MJ (b:Blk) (K:Blk->Option ρ):Option ρ:=
 match b with
 |.arr none (.ho s) zs=>(FU zs).bind λxs=>K (.arr none (.st s) xs)
 |.arr none (.hl t) zs=>(FU zs).bind λxs=>K (.arr none (.sl t) xs)
 |b=>K b
def MK:aO->(aO->Option ρ)->Option ρ
 |[],K=>K []
 |(k,b)::l,K=>b.MJ λb=>MK l λl=>K ((k,b)::l)
def JH (E:Env) (K:St->Option ρ) (st:St):Option ρ:=cond E.tak (MK st.heap λh=>K {st with heap:=h}) (K st)
noncomputable def ev (E:Env) (LP:Nat->Ev ρ->Ev ρ) (cb:Nat):Code->Ev ρ
 |.skip,st,K=>K .normal st
 |.label _,st,K=>K .normal st
 |.region id ops false,st,K=>DY E ops.toList ops.toList (ME (E.wk id) (JG (E.fz id) st)) (JH E (K .normal))
 |.region id ops true,st,K=>HX E ops.toList (ME (E.wk id) (JG (E.fz id) st)) (JH E (K .normal))
 |.seq a b,st,K=>ev E LP cb a st λe st=>match e with
  |.normal=>ev E LP cb b st K
  |e=>K e st
 |.cond c t f,st,K=>(opd st.cE c).bind λv=>v.asB.bind λb=>cond b (ev E LP cb t (refine c true st) K) (ev E LP cb f (refine c false st) K)
 |.block id c,st,K=>ev E LP id c st (inBlock id K)
 |.loop c,st,K=>LP cb (λst K=>ev E LP cb c st K) st K
 |.exit id,st,K=>K (.exit id) st
 |.scope c,st,K=>ev E LP cb c st K
 |.ret,st,K=>K .ret st
 |_,_,_=>none
def Ru (body:Ev ρ):Nat->Ev ρ
 |0,_,_=>none
 |n+1,st,K=>body st λe st=>match e with
  |.normal=>Ru body n st K
  |e=>K e st
end
section
def Ext {α:Type} (s s':List (Nat× α)):Prop:=∀t v,look s t=some v->look s' t=some v
theorem Ext.rfl' {α:Type} {s:List (Nat× α)}:Ext s s:=λ_ _ h=>h
def Le {α:Type} (x y:Option α):Prop:=∀a,x=some a->y=some a
theorem Le.refl {α:Type} (x:Option α):Le x x:=λ_ h=>h
theorem Le.bind {α β:Type} {x y:Option α} {f g:α->Option β} (h:Le x y) (hf:∀a,Le (f a) (g a)):Le (x.bind f) (y.bind g):=by
 intro b hb;rw[An]at hb⊢;obtain⟨a,h1,h2⟩:=hb;exact⟨a,h a h1,hf a b h2⟩
theorem Le.cond {α:Type} {b:Bool} {x y x' y':Option α} (h:Le x x') (h':Le y y'):Le (cond b x y) (cond b x' y'):=by cases b<;>assumption
theorem Le.none {α:Type} {y:Option α}:Le Option.none y:=λ_ h=>nomatch h
section
variable {s s':List (Nat× SV)} {h h':aO} {P:Program}
theorem Rv (hh:Ext h h') (i:Nat):Le (look h i) (look h' i):=λ_=>hh i _
theorem dp (hs:Ext s s') (x:Operand):Le (opd s x) (opd s' x):=by
 cases x with
 |tmp t=>exactλv hv=>hs t v hv
 |_=>exact Le.refl _
theorem ki (hs:Ext s s'):(l:List Operand)->Le (tY s l) (tY s' l)
 |[]=>Le.refl _
 |x::l=>(dp hs x).bind λ_=>(ki hs l).bind λ_=>Le.refl _
theorem HZ (hs:Ext s s') (x:Option Operand):Le (O9 s x) (O9 s' x):=by
 cases x with
 |none=>exact Le.refl _
 |some x=>exact(dp hs x).bind λ_=>Le.refl _
theorem re (hs:Ext s s'):(l:List (Nat× Operand))->Le (tK s l) (tK s' l)
 |[]=>Le.refl _
 |(_,x)::l=>(dp hs x).bind λ_=>(re hs l).bind λ_=>Le.refl _
theorem KW (hh:Ext h h') (v:SV):Le (mO h v) (mO h' v):=by
 cases v<;>try exact Le.refl _
 rename_i i x o;intro cs hcs;simp only[mO]at hcs⊢
 cases hl:look h i with
 |none=>rw[hl]at hcs;exact nomatch hcs
 |some B=>rw[hl]at hcs;rw[hh i B hl];exact hcs
theorem Pu (hh:Ext h h') (v:SV):Le (lenOf h v) (lenOf h' v):=by
 intro n hn
 cases v with
 |own i=>
  simp only[lenOf]at hn⊢
  cases hl:look h i with
  |none=>rw[hl]at hn;exact nomatch hn
  |some B=>rw[hl]at hn;rw[hh i B hl];exact hn
 |r d x=>cases x<;>exact hn
 |_=>exact hn
theorem KX (hh:Ext h h') (T:TypeId) (v:SV) (lo hi:Option SV):Le (kg P T h v lo hi) (kg P T h' v lo hi):=by
 intro cs hcs
 cases v with
 |own i=>
  simp only[kg]at hcs⊢
  cases hl:look h i with
  |none=>rw[hl]at hcs;exact nomatch hcs
  |some B=>rw[hl]at hcs;rw[hh i B hl];exact hcs
 |sub i o n=>
  simp only[kg]at hcs⊢
  cases hl:look h i with
  |none=>rw[hl]at hcs;exact nomatch hcs
  |some B=>rw[hl]at hcs;rw[hh i B hl];exact hcs
 |r d x=>cases x<;>exact hcs
 |_=>exact hcs
theorem Ce (hh:Ext h h') (T:TypeId) (v:SV) (k:Int):Le (bX P T h v k) (bX P T h' v k):=by
 intro cs hcs
 cases v with
 |own i=>
  simp only[bX]at hcs⊢
  cases hl:look h i with
  |none=>rw[hl]at hcs;exact nomatch hcs
  |some B=>rw[hl]at hcs;rw[hh i B hl];exact hcs
 |sub i o n=>
  simp only[bX]at hcs⊢
  cases hl:look h i with
  |none=>rw[hl]at hcs;exact nomatch hcs
  |some B=>rw[hl]at hcs;rw[hh i B hl];exact hcs
 |r d x=>cases x<;>exact hcs
 |_=>exact hcs
theorem H3 (hh:Ext h h') (t:Ty) (v:SV):Le (v.list h t) (v.list h' t):=by
 intro p hp
 cases v<;>try exact hp
 all_goals
  simp only[SV.list]at hp⊢;split at hp
  ·rename_i hl;rw[hh _ _ hl];exact hp
  ·exact nomatch hp
theorem Te (hh:Ext h h') (T:TypeId) (x:SV):Le (slN P T h x) (slN P T h' x):=by
 intro n hn
 cases x with
 |own i=>
  simp only[slN]at hn⊢
  cases hl:look h i with
  |none=>rw[hl]at hn;exact nomatch hn
  |some B=>rw[hl]at hn;rw[hh i B hl];exact hn
 |r d x=>cases x<;>exact hn
 |_=>exact hn
theorem wL (hs:Ext s s') (hh:Ext h h') (op:Op):Le (ij P s h op) (ij P s' h' op):=by
 intro v hv;unfold ij at hv;split at hv<;>simp only[ij]
 ·exact dp hs _ v hv
 ·exact dp hs _ v hv
 ·revert hv;exact((dp hs _).bind λc=>(Le.refl _).bind λb=>Le.cond (dp hs _) (dp hs _)) v
 ·revert hv
  split
  ·exact((Le.refl _).bind λ_=>(Le.refl _).bind λ_=>(re hs _).bind λ_=>Le.refl _) v
  ·exactλh=>nomatch h
 ·exact((dp hs _).bind λa=>(KW hh a).bind λ_=>Le.refl _) v hv
 ·exact((dp hs _).bind λa=>Le.refl _) v hv
 ·exact((dp hs _).bind λa=>(dp hs _).bind λ_=>Le.refl _) v hv
 ·exact((dp hs _).bind λa=>Le.refl _) v hv
 ·exact((dp hs _).bind λa=>Le.cond ((H3 hh _ _).bind λ_=>Le.refl _) (Le.refl _)) v hv
 ·exact((ki hs _).bind λa=>(ki hs _).bind λ_=>Le.refl _) v hv
 ·exact((dp hs _).bind λa=>(HZ hs _).bind λ_=>(HZ hs _).bind λ_=>KX hh _ _ _ _) v hv
 ·exact((dp hs _).bind λa=>(HZ hs _).bind λ_=>(dp hs _).bind λ_=>(dp hs _).bind λ_=>(Te hh _ _).bind λ_=>Le.refl _) v hv
 ·exact((dp hs _).bind λa=>Le.refl _) v hv
 ·exact((dp hs _).bind λa=>Le.refl _) v hv
 ·exact((dp hs _).bind λa=>(dp hs _).bind λ_=>(Le.refl _).bind λ_=>Ce hh _ _ _) v hv
 ·exact((dp hs _).bind λa=>(dp hs _).bind λ_=>Le.refl _) v hv
 ·exact((dp hs _).bind λa=>Le.refl _) v hv
 ·refine((ki hs _).bind λvs=>?_) v hv;split
  ·exact Le.cond ((Pu hh _).bind λ_=>Le.refl _) (Le.refl _)
  ·exact Le.refl _
 ·exact((ki hs _).bind λa=>Le.refl _) v hv
 ·exact((ki hs _).bind λa=>Le.refl _) v hv
 ·exact((ki hs _).bind λa=>Le.refl _) v hv
 ·exact nomatch hv
theorem FY (hh:Ext h h') (t:Ty) (v:SV):Le (v.asR h t) (v.asR h' t):=by
 cases t with
 |sl t=>exact(H3 hh t v).bind λ_=>Le.refl _
 |_=>exact Le.refl _
theorem H4 (hh:Ext h h'):(ts:List Ty)->(vs:List SV)->Le (Mm h ts vs) (Mm h' ts vs)
 |[],[]=>Le.refl _
 |t::ts,v::vs=>(FY hh t v).bind λ_=>(H4 hh ts vs).bind λ_=>Le.refl _
 |[],_::_=>Le.refl _
 |_::_,[]=>Le.refl _
theorem Rw (hh:Ext h h') (t:Ty) (vs:List SV):Le (TX h t vs) (TX h' t vs):=(H4 hh _ _).bind λ_=>Le.refl _
theorem JI (hh:Ext h h') (t:Ty):(n:Nat)->(c:List SV)->Le (KQ h t n c) (KQ h' t n c)
 |0,_=>Le.refl _
 |n+1,_=>(Rw hh t _).bind λ_=>(JI hh t n _).bind λ_=>Le.refl _
theorem D1 (hh:Ext h h') (t:Ty) (v:SV):Le (v.Mn h t) (v.Mn h' t):=by
 intro p hp
 cases t with
 |sl t=>
  cases v with
  |own i=>
   simp only[SV.Mn]at hp⊢
   cases hl:look h i with
   |none=>rw[hl]at hp;exact nomatch hp
   |some B=>rw[hl]at hp;rw[hh i B hl];exact hp
  |_=>exact hp
 |_=>exact hp
theorem JJ (hh:Ext h h'):(ts:List Ty)->(vs:List SV)->Le (HS h ts vs) (HS h' ts vs)
 |[],[]=>Le.refl _
 |t::ts,v::vs=>(D1 hh t v).bind λ_=>(JJ hh ts vs).bind λ_=>Le.refl _
 |[],_::_=>Le.refl _
 |_::_,[]=>Le.refl _
theorem mQ (hh:Ext h h') (t:Ty):(n:Nat)->(c:List SV)->Le (j8 h t n c) (j8 h' t n c)
 |0,_=>Le.refl _
 |n+1,_=>(JJ hh _ _).bind λ_=>(Le.refl _).bind λ_=>(mQ hh t n _).bind λ_=>Le.refl _
theorem FZ (hh:Ext h h'):(c:List SV)->Le (FT h c) (FT h' c)
 |[]=>Le.refl _
 |v::l=>by
  have ih:=FZ hh l
  cases v with
  |own i=>
   refine(Rv hh i).bind λb=>?_
   cases b with
   |box _=>exact Le.refl _
   |arr sh _ _=>cases sh with
    |none=>exact ih
    |some _=>exact Le.refl _
  |r d x=>cases x with
   |sl _ _=>exact Le.refl _
   |_=>exact ih
  |sub _ _ _=>exact Le.refl _
  |bsl _ _=>exact Le.refl _
  |_=>exact ih
theorem ML (hh:Ext h h') (t:Ty) (n:Nat) (c:List SV):Le (JB h t n c) (JB h' t n c):=
 (FZ hh c).bind λb=>Le.cond ((mQ hh t n c).bind λ_=>Le.refl _) ((JI hh t n c).bind λ_=>Le.refl _)
theorem CG (hh:Ext h h') (t:Ty) (v:SV):Le (tZ h t v) (tZ h' t v):=by
 have ind:∀(v:SV) (p:List Nat× List t.El),v.list h t=some p->qK h' v p.1=qK h v p.1:=λv p hp=>by
  cases v with
  |own i=>
   simp only[SV.list]at hp
   cases hl:look h i with
   |none=>rw[hl]at hp;exact nomatch hp
   |some B=>simp only[qK,hl,hh i B hl]
  |_=>rfl
 have lst:∀v:SV,Le ((v.list h t).bind λp=>cond (ra t) (some (none,[],p.2)) (some (some (qK h v p.1),[],p.2)):Option (Option (List Nat)× List Nat× List t.El)) ((v.list h' t).bind λp=>cond (ra t) (some (none,[],p.2)) (some (some (qK h' v p.1),[],p.2))):=λv q hq=>by
  rw[An]at hq⊢;obtain⟨p,hp,hq⟩:=hq;exact⟨p,H3 hh t v p hp,by rw[ind v p hp];exact hq⟩
 cases v with
 |bsl i n=>
  intro p hp;simp only[tZ]at hp⊢
  cases hl:look h i with
  |none=>rw[hl]at hp;exact nomatch hp
  |some B=>
   rw[hl]at hp;rw[hh i B hl]
   cases B with
   |box cs=>exact((ML hh t n cs).bind λ_=>Le.refl _) p hp
   |arr _ _ _=>exact nomatch hp
 |r d x=>exact lst (.r d x)
 |bS=>exact lst .bS
 |qX=>exact lst .qX
 |own i=>exact lst (.own i)
 |sub i o n=>exact lst (.sub i o n)
 |ptr i x o=>exact lst (.ptr i x o)
 |inn i x o=>exact lst (.inn i x o)
 |lO d x=>exact lst (.lO d x)
 |agg x=>exact lst (.agg x)
 |tup x=>exact lst (.tup x)
 |fn f a b=>exact lst (.fn f a b)
 |undef=>exact lst .undef
end
end
section
abbrev Cell:=Nat× Nat
def _root_.Go.World.at? (w:World) (p:Cell):Option Value:=w.cell? ⟨p.1,p.2,none⟩
def _root_.Go.World.ff (w:World) (p:Cell):Nat× Nat× Nat:=
 match w.heap[p.1]? with
 |some (.cells c _ fr)=>(fr.1,fr.2,c.size)
 |_=>(0,0,0)
def calm (r:Nat× Nat× Nat):Bool:=decide (r.1=r.2.1\/r.2.2<=r.1)
def whole (r:Nat× Nat× Nat) (o n:Nat):Bool:=calm r&&decide (o=0/\r.2.2=n)
theorem su {r:Nat× Nat× Nat} {o n:Nat} (h:whole r o n=true):calm r=true:=by
 unfold whole at h;rw[VP]at h;exact h.1
theorem JK {n:Nat}:whole (0,0,n) 0 n=true:=by simp[whole,calm]
theorem mR {w:World} {b o:Nat} {u:Value} (h:w.at? (b,o)=some u) (hc:calm (w.ff (b,o))=true):w.frozen? ⟨b,o,none⟩=false:=by
 unfold World.at? World.cell? at h;unfold calm World.ff at hc;unfold World.frozen?
 cases hb:w.heap[b]? with
 |none=>rfl
 |some ob=>
  cases ob with
  |cells c t fr=>
   simp only[hb,Xp,Xf,if_false]at h;simp only[hb,decide_eq_true_eq]at hc;have:=(Wi.1 h).1;obtain⟨lo,hi⟩:=fr;simp only at hc⊢;rw[Bool.and_eq_false_iff,decide_eq_false_iff_not,decide_eq_false_iff_not]
   omega
  |_=>rfl
theorem F0 (w:World) (a:Addr) (v:Value) (p:Cell):(w.setCell a v).ff p=w.ff p:=by
 unfold World.ff World.setCell;simp only[Array.getElem?_modify];by_cases e:a.block=p.1
 ·rw[if_pos e]
  cases hb:w.heap[p.1]? with
  |none=>rfl
  |some ob=>
   cases ob with
   |cells c t fr=>simp only[Xx];split<;>simp
   |_=>rfl
 ·rw[if_neg e]
theorem gO (b:Nat):∀(vs:List Value) (o:Nat) (w:World) (p:Cell),(w.setCells b o vs).ff p=w.ff p
 |[],_,_,_=>rfl
 |v::vs,o,w,p=>(gO b vs (o+1) (w.setCell ⟨b,o,none⟩ v) p).trans (F0 w _ v p)
def one:Value->Bool
 |.agg _|.tuple _=>false
 |_=>true
class Tok where
 env:Nat->Value
 MM:∀n,one (env n)=true
 MN:env 0=.slice none 0 0
variable [Tok]
def reg (b o n:Nat) (p:Cell):Prop:=p.1=b/\o<=p.2/\p.2<o+n
def aD (t:Ty) (xs:List t.El) (i j:Nat) (r:R):Prop:=∃x,xs[i]? =some x/\(t.cells x)[j]? =some r
theorem aQ {t:Ty} {xs:List t.El} {i j:Nat} {r:R} (h:aD t xs i j r):i<xs.length/\j<t.sz:=by
 obtain⟨x,hx,hr⟩:=h;refine⟨(Of.1 hx).1,?_⟩;have:=(Of.1 hr).1;rwa [Ty.cD]at this
theorem dU {t:Ty} {xs:List t.El} {i j:Nat} (hi:i<xs.length) (hj:j<t.sz):∃r,aD t xs i j r:=by
 refine⟨(t.cells xs[i])[j]'(by rw[Ty.cD];exact hj),xs[i],?_,?_⟩<;>simp
theorem rf {i j n s c:Nat} (hi:i<n) (hj:j<s) (h:n<=c):i*s+j<c*s:=by
 have h1:(i+1)*s<=c*s:=V9 s (by omega);have:(i+1)*s=i*s+s:=Xi i s;omega
inductive kj (w:World) (ok:Cell->Prop):R->Value->Prop
 |int (k:IntKind) (n:Int):kj w ok (.int k n) (.int k n)
 |bool (b:Bool):kj w ok (.bool b) (.bool b)
 |str (l:List UInt8):kj w ok (.str l) (.string ⟨l.toArray⟩)
 |sl (t:Ty) (xs:List t.El) (a:Option Addr) (cap b o:Nat) (vs:Nat->Nat->Value)
   (jt:xs.length<=cap) (ha:xs=[]\/a=some ⟨b,o,none⟩)
   (hc:∀i j r,aD t xs i j r->ok (b,o+(i*t.sz+j))/\w.at? (b,o+(i*t.sz+j))=some (vs i j))
   (hr:∀i j r,aD t xs i j r->kj w ok r (vs i j)):kj w ok (.sl t xs) (.slice a xs.length cap)
 |tok (n:Nat):kj w ok (.tok n) (Tok.env n)
 |nz (v:Value) (h:one v=true):kj w ok .nz v
theorem kj.frame {w w':World} {ok ok':Cell->Prop} {r:R} {v:Value} (h:kj w ok r v)
  (hf:∀p u,ok p->w.at? p=some u->ok' p/\w'.at? p=some u):kj w' ok' r v:=by
 induction h with
 |int=>exact .int _ _
 |bool=>exact .bool _
 |str=>exact .str _
 |tok=>exact .tok _
 |nz v h=>exact .nz v h
 |sl t xs a cap b o vs jt ha hc _ ih=>
  exact .sl t xs a cap b o vs jt ha (λi j r hr=>hf _ _ (hc i j r hr).1 (hc i j r hr).2) ih
structure Row (w:World) (inner:R->Value->(Cell->Prop)->Prop) (t:Ty) (xs:List t.El) (hdr:Value) (fp:Cell->Prop) where
 a:Option Addr
 cap:Nat
 b:Nat
 o:Nat
 vs:Nat->Nat->Value
 fs:Nat->Nat->Cell->Prop
 zV:hdr=.slice a xs.length cap
 jt:xs.length<=cap
 ha:cap=0\/a=some ⟨b,o,none⟩
 lP:∀j,j<cap*t.sz->(∃v,w.at? (b,o+j)=some v)/\whole (w.ff (b,o+j)) o (cap*t.sz)=true
 hc:∀i j r,aD t xs i j r->w.at? (b,o+(i*t.sz+j))=some (vs i j)
 hr:∀i j r,aD t xs i j r->inner r (vs i j) (fs i j)
 hd1:∀i j r p,aD t xs i j r->fs i j p->¬reg b o (cap*t.sz) p
 hd2:∀i j r i' j' r' p,aD t xs i j r->aD t xs i' j' r'->fs i j p->fs i' j' p->i=i'/\j=j'
 hfp:∀p,fp p↔reg b o (cap*t.sz) p\/∃i j r,aD t xs i j r/\fs i j p
inductive fW (w:World):R->Value->(Cell->Prop)->Prop
 |int (k:IntKind) (n:Int):fW w (.int k n) (.int k n) (λ_=>False)
 |bool (b:Bool):fW w (.bool b) (.bool b) (λ_=>False)
 |str (l:List UInt8):fW w (.str l) (.string ⟨l.toArray⟩) (λ_=>False)
 |sl (t:Ty) (xs:List t.El) (a:Option Addr) (cap b o:Nat) (vs:Nat->Nat->Value) (fs:Nat->Nat->Cell->Prop) (fp:Cell->Prop)
   (jt:xs.length<=cap) (ha:cap=0\/a=some ⟨b,o,none⟩)
   (lP:∀j,j<cap*t.sz->(∃v,w.at? (b,o+j)=some v)/\whole (w.ff (b,o+j)) o (cap*t.sz)=true)
   (hc:∀i j r,aD t xs i j r->w.at? (b,o+(i*t.sz+j))=some (vs i j))
   (hr:∀i j r,aD t xs i j r->fW w r (vs i j) (fs i j))
   (hd1:∀i j r p,aD t xs i j r->fs i j p->¬reg b o (cap*t.sz) p)
   (hd2:∀i j r i' j' r' p,aD t xs i j r->aD t xs i' j' r'->fs i j p->fs i' j' p->i=i'/\j=j')
   (hfp:∀p,fp p↔reg b o (cap*t.sz) p\/∃i j r,aD t xs i j r/\fs i j p):fW w (.sl t xs) (.slice a xs.length cap) fp
 |tok (n:Nat):fW w (.tok n) (Tok.env n) (λ_=>False)
 |nz (v:Value) (h:one v=true):fW w .nz v (λ_=>False)
theorem fW.row {w:World} {t:Ty} {xs:List t.El} {v:Value} {fp:Cell->Prop} (h:fW w (.sl t xs) v fp):Nonempty (Row w (fW w) t xs v fp):=by
 cases h with
 |sl t xs a cap b o vs fs fp jt ha lP hc hr hd1 hd2 hfp=>exact⟨⟨a,cap,b,o,vs,fs,rfl,jt,ha,lP,hc,hr,hd1,hd2,hfp⟩⟩
theorem Row.T3 {w:World} {t:Ty} {xs:List t.El} {v:Value} {fp:Cell->Prop} (h:Row w (fW w) t xs v fp):fW w (.sl t xs) v fp:=by
 obtain⟨a,cap,b,o,vs,fs,rfl,jt,ha,lP,hc,hr,hd1,hd2,hfp⟩:=h;exact .sl t xs a cap b o vs fs fp jt ha lP hc hr hd1 hd2 hfp
theorem fW.frame {w w':World} {r:R} {v:Value} {fp:Cell->Prop} (h:fW w r v fp)
  (hf:∀p u,fp p->w.at? p=some u->w'.at? p=some u/\w'.ff p=w.ff p):fW w' r v fp:=by
 induction h with
 |int=>exact .int _ _
 |bool=>exact .bool _
 |str=>exact .str _
 |tok=>exact .tok _
 |nz v h=>exact .nz v h
 |sl t xs a cap b o vs fs fp jt ha lP hc _ hd1 hd2 hfp ih=>
  have hin:∀i j r,aD t xs i j r->fp (b,o+(i*t.sz+j)):=λi j r hr=>(hfp _).2 (.inl ⟨rfl,by simp,by
   have:=rf (aQ hr).1 (aQ hr).2 jt;simp;omega⟩)
  refine .sl t xs a cap b o vs fs fp jt ha (λj hj=>?_) (λi j r hr=>(hf _ _ (hin i j r hr) (hc i j r hr)).1)
   (λi j r hr=>ih i j r hr λp u hp=>hf p u ((hfp p).2 (.inr ⟨i,j,r,hr,hp⟩))) hd1 hd2 hfp
  obtain⟨⟨v,hv⟩,hi⟩:=lP j hj;have:=hf (b,o+j) v ((hfp _).2 (.inl ⟨rfl,by simp,by simp;omega⟩)) hv;exact⟨⟨v,this.1⟩,by rw[this.2];exact hi⟩
theorem fW.Pb {w:World} {r:R} {v:Value} {fp:Cell->Prop} {ok:Cell->Prop} (h:fW w r v fp) (hok:∀p,fp p->ok p):kj w ok r v:=by
 induction h with
 |int=>exact .int _ _
 |bool=>exact .bool _
 |str=>exact .str _
 |tok=>exact .tok _
 |nz v h=>exact .nz v h
 |sl t xs a cap b o vs fs fp jt ha lP hc _ hd1 hd2 hfp ih=>
  refine .sl t xs a cap b o vs jt ?_ (λi j r hr=>⟨hok _ ((hfp _).2 (.inl ⟨rfl,by simp,by
   have:=rf (aQ hr).1 (aQ hr).2 jt;simp;omega⟩)),hc i j r hr⟩)
   (λi j r hr=>ih i j r hr λp hp=>hok p ((hfp p).2 (.inr ⟨i,j,r,hr,hp⟩)))
  rcases ha with rfl|h
  ·exact .inl (WN.1 (by omega))
  ·exact .inr h
theorem fW.there {w:World} {r:R} {v:Value} {fp:Cell->Prop} (h:fW w r v fp):∀p,fp p->∃u,w.at? p=some u:=by
 induction h with
 |int=>exactλ_ h=>h.elim
 |bool=>exactλ_ h=>h.elim
 |str=>exactλ_ h=>h.elim
 |tok=>exactλ_ h=>h.elim
 |nz=>exactλ_ h=>h.elim
 |sl t xs a cap b o vs fs fp jt ha lP hc _ hd1 hd2 hfp ih=>
  intro p hp
  rcases(hfp p).1 hp with⟨h1,h2,h3⟩|⟨i,j,r,hr,hp⟩
  ·obtain⟨p1,p2⟩:=p;have h1:p1=b:=h1;simp only at h1 h2 h3;subst h1;have:=(lP (p2-o) (by omega)).1;rwa [show o+(p2-o)=p2 from by omega]at this
  ·exact ih i j r hr p hp
structure Pl where
 hdr:Nat->Value
 fp:Nat->Cell->Prop
 base:Cell->Prop
def Blk.lQ:Blk->Bool
 |.box _=>true
 |.arr _ _ _=>false
def okd (H:aO) (pl:Pl) (d:List Nat) (p:Cell):Prop:=pl.base p/\∀i B,look H i=some B->(mem i d=true->B.lQ=true)->¬pl.fp i p
inductive ax (w:World) (H:aO) (pl:Pl):SV->Value->Prop
 |r (d:List Nat) (x:R) (v:Value) (h:kj w (okd H pl d) x v):ax w H pl (.r d x) v
 |bS:ax w H pl .bS (.slice none 0 0)
 |qX:ax w H pl .qX (.pointer none)
 |own (i:Nat) (sh:Option (List Nat)) (t:Ty) (xs:List t.El) (h:look H i=some (.arr sh t xs)):ax w H pl (.own i) (pl.hdr i)
 |sub (i o n:Nat) (sh:Option (List Nat)) (t:Ty) (xs:List t.El) (a a':Option Addr) (cap jA:Nat) (h:look H i=some (.arr sh t xs))
   (hh:pl.hdr i=.slice a xs.length cap) (hn:o+n<=xs.length) (hc:n<=jA) (hc':o+jA=cap) (ha:jA=0\/a'=a.map (·.add (o*t.sz))):
   ax w H pl (.sub i o n) (.slice a' n jA)
 |bsl (i n:Nat) (cs:List SV) (a:Addr) (h:look H i=some (.box cs)) (hh:pl.hdr i=.pointer (some a)):ax w H pl (.bsl i n) (.slice (some a) n n)
 |wM (i o:Nat) (cs:List SV) (b k:Nat) (h:look H i=some (.box cs)) (hh:pl.hdr i=.pointer (some ⟨b,k,none⟩)):ax w H pl (.ptr i 0 o) (.pointer (some ⟨b,k+o,none⟩))
 |uR (i x o:Nat) (sh:Option (List Nat)) (t:Ty) (xs:List t.El) (b k n cap:Nat) (h:look H i=some (.arr sh t xs)) (hx:x<xs.length)
   (hh:pl.hdr i=.slice (some ⟨b,k,none⟩) n cap):ax w H pl (.ptr i x o) (.pointer (some ⟨b,k+(x*t.sz+o),none⟩))
 |inn (i x c:Nat) (sh:Option (List Nat)) (t:Ty) (xs:List t.El) (b k n cap:Nat) (v:Value) (h:look H i=some (.arr sh t xs)) (hx:x<xs.length) (hc:c<t.sz)
   (hh:pl.hdr i=.slice (some ⟨b,k,none⟩) n cap) (hok:okd H pl [i] (b,k+(x*t.sz+c))) (hv:w.at? (b,k+(x*t.sz+c))=some v) (h1:one v=true):ax w H pl (.inn i x c) v
 |lO (d:List Nat) (cs:List R) (b o:Nat) (vs:Nat->Value) (hc:∀j r,cs[j]? =some r->okd H pl d (b,o+j)/\w.at? (b,o+j)=some (vs j))
   (hr:∀j r,cs[j]? =some r->kj w (okd H pl d) r (vs j)):ax w H pl (.lO d cs) (.pointer (some ⟨b,o,none⟩))
 |agg (cs:List SV) (vs:Array Value) (hl:cs.length=vs.size) (h1:∀(j:Nat) (v:Value),vs[j]? =some v->one v=true) (h:∀(j:Nat) (x:SV) (v:Value),cs[j]? =some x->vs[j]? =some v->ax w H pl x v):ax w H pl (.agg cs) (.agg vs)
 |tup (cs:List SV) (vs:Array Value) (hl:cs.length=vs.size) (h:∀(j:Nat) (x:SV) (v:Value),cs[j]? =some x->vs[j]? =some v->ax w H pl x v):ax w H pl (.tup cs) (.tuple vs)
 |fn (f:Fn) (as bs:List SV) (us vs:Array Value) (hl:as.length=us.size) (h:∀(j:Nat) (x:SV) (v:Value),as[j]? =some x->us[j]? =some v->ax w H pl x v)
   (hl':bs.length=vs.size) (h':∀(j:Nat) (x:SV) (v:Value),bs[j]? =some x->vs[j]? =some v->ax w H pl x v):ax w H pl (.fn f as bs) (.func f us vs)
 |undef (v:Value):ax w H pl .undef v
def eL (w:World) (H:aO) (pl:Pl) (i:Nat):Blk->Prop
 |.box cs=>∃b o,pl.hdr i=.pointer (some ⟨b,o,none⟩)/\(∀p,pl.fp i p↔reg b o cs.length p)/\
   ∀j v,cs[j]? =some v->∃u,w.at? (b,o+j)=some u/\calm (w.ff (b,o+j))=true/\one u=true/\ax w H pl v u
 |.arr none t xs=>Nonempty (Row w (fW w) t xs (pl.hdr i) (pl.fp i))
 |.arr (some d) t xs=>Nonempty (Row w (λr v f=>kj w (okd H pl d) r v/\∀p,¬f p) t xs (pl.hdr i) (pl.fp i))
structure dc (H:aO) (pl:Pl) (w:World):Prop where
 blk:∀i B,look H i=some B->eL w H pl i B
 dis:∀i j B B' p,look H i=some B->look H j=some B'->pl.fp i p->pl.fp j p->i=j
 ob:∀i B p,look H i=some B->pl.fp i p->pl.base p
 nb:∀p,w.at? p=none->pl.base p
end
section
variable [Tok]
section lists
variable {α:Type}
theorem aG (k:Nat) (v:α) (l:List (Nat× α)) (n:Nat):look ((k,v)::l) n=if k=n then some v else look l n:=by
 simp only[look];cases h:Nat.beq k n
 ·have:¬k=n:=λe=>by subst e;simp at h
  simp[this]
 ·have:k=n:=So h;simp[this]
theorem fq (l:List (Nat× α)) (n m:Nat) (v:α):look (put l n v) m=if n=m then some v else look l m:=by
 induction l with
 |nil=>rw[put,aG]
 |cons x l ih=>
  obtain⟨k,u⟩:=x;simp only[put];cases hk:Nat.beq k n
  ·simp only[cond_false,look,ih];cases hm:Nat.beq k m
   ·simp
   ·have h1:k=m:=So hm;subst h1
    have:¬n=k:=λe=>by subst e;simp at hk
    simp[this]
  ·have h1:k=n:=So hk;subst h1;simp only[cond_true,look];cases hm:Nat.beq k m
   ·have:¬k=m:=λe=>by subst e;simp at hm
    simp[this]
   ·have:k=m:=So hm;simp[this]
theorem aM (l l':List (Nat× α)) (n:Nat):look (l++l') n=(look l n).or (look l' n):=by
 induction l with
 |nil=>simp[look]
 |cons x l ih=>
  obtain⟨k,u⟩:=x;simp only[W7,look];cases Nat.beq k n<;>simp[ih]
theorem mem_iff (i:Nat) (l:List Nat):mem i l=true↔i∈l:=by
 induction l with
 |nil=>simp[mem]
 |cons k l ih=>
  simp only[mem];cases h:Nat.beq k i
  ·have:¬i=k:=λe=>by subst e;simp at h
   simp[ih,this]
  ·have:k=i:=So h;simp[this]
theorem fY (T d:List Nat) (h:hit T d=false):∀i,mem i d=true->mem i T=false:=by
 induction d with
 |nil=>intro i hi;simp[mem]at hi
 |cons k l ih=>
  simp only[hit]at h;cases hk:mem k T
  ·rw[hk]at h;intro i hi;rw[mem_iff]at hi
   rcases V0.1 hi with rfl|hi
   ·exact hk
   ·exact ih h i ((mem_iff i l).2 hi)
  ·rw[hk]at h;simp at h
theorem bz (n:Nat) (l:List Blk) (i:Nat):look (aR n l) i=if n<=i then l[i-n]? else none:=by
 induction l generalizing n with
 |nil=>simp[aR,look]
 |cons b l ih=>
  rw[aR,aG,ih];by_cases h:n=i
  ·subst h;simp
  ·by_cases h2:n<=i
   ·rw[if_neg h,if_pos (by omega),if_pos h2];rw[show i-n=(i-(n+1))+1 from by omega];rfl
   ·rw[if_neg h,if_neg (by omega),if_neg h2]
theorem F1 (u h:aO) (i:Nat):look (tL u h) i=match look u.reverse i with|some b=>some b|none=>look h i:=by
 induction u generalizing h with
 |nil=>simp[tL,look]
 |cons x l ih=>
  obtain⟨k,b⟩:=x;rw[tL,ih,List.reverse_cons,aM,fq,aG]
  cases look l.reverse i with
  |some c=>simp
  |none=>by_cases hk:k=i<;>simp[hk,look]
theorem H5 (T:Kil) (s:List (Nat× SV)) (t:Nat):look (Jy T s) t=(look s t).map (SV.aS T):=by
 induction s with
 |nil=>rfl
 |cons x l ih=>
  obtain⟨k,v⟩:=x;rw[Jy,aG,aG,ih];by_cases h:k=t<;>simp[h]
theorem zW (T:Kil) (h h':aO) (e:zP T h=some h') (i:Nat):
  look h' i=cond (mem i T.1) none ((look h i).bind (Blk.aS T))/\(∀b,look h i=some b->mem i T.1=false->∃b',b.aS T=some b'):=by
 induction h generalizing h' with
 |nil=>simp only[zP,It]at e;subst e;simp[look]
 |cons x l ih=>
  obtain⟨k,b⟩:=x;simp only[zP]at e;cases hk:mem k T.1
  ·simp only[hk,cond_false,An,It]at e;obtain⟨b',hb,l',hl,rfl⟩:=e;rw[aG,aG];by_cases hi:k=i
   ·subst hi;simp[hk,hb]
   ·simpa[hi]using ih l' hl
  ·simp only[hk,cond_true]at e;have:=ih h' e;rw[aG];by_cases hi:k=i
   ·subst hi;simp[hk]at this⊢;exact this
   ·simpa[hi]using this
theorem eT {α:Type} {l:List α} (h:isNil l=true):l=[]:=by cases l with|nil=>rfl|cons _ _=>exact nomatch h
theorem H6 {T:Kil} (h:T.2=[]) (h1:∀i,mem i T.1=true->mem i T.2=true):T=([],[]):=by
 obtain⟨a,b⟩:=T;simp only at h h1;subst h
 cases a with
 |nil=>rfl
 |cons x l=>have:=h1 x (by simp[mem]);exact nomatch this
theorem zX (i:Nat) (a b:List Nat):mem i (a++b)=(mem i a||mem i b):=by
 induction a with
 |nil=>simp[mem]
 |cons x l ih=>simp only[W7,mem,ih];cases Nat.beq x i<;>simp
theorem CR.gC (c:CR):∀i,mem i c.kil.1=true->mem i c.kil.2=true:=λi h=>by
 show mem i (c.gone++c.mP)=true;rw[zX,show mem i c.gone=true from h];rfl
theorem oW (T:Kil) (l:List SV) (j:Nat):(jg T l)[j]? =(l[j]?).map (SV.aS T):=by
 induction l generalizing j with
 |nil=>rfl
 |cons v l ih=>cases j with
  |zero=>rfl
  |succ j=>simpa[jg]using ih j
theorem gP (T:Kil) (l:List SV):(jg T l).length=l.length:=by
 induction l with
 |nil=>rfl
 |cons v l ih=>simp[jg,ih]
end lists
def Blk.nC:Blk->Blk->Prop
 |.box a,.box b=>a.length=b.length
 |.arr _ t xs,.arr _ t' ys=>t.sz=t'.sz/\xs.length=ys.length
 |_,_=>False
theorem Blk.dI (b:Blk):b.nC b:=by cases b<;>simp[Blk.nC]
structure mS (T:Kil) (w:World) (H:aO) (pl:Pl) (w':World) (H':aO) (pl':Pl):Prop where
 k1:∀i B,look H i=some B->mem i T.1=false->∃B',look H' i=some B'/\B.nC B'/\pl'.hdr i=pl.hdr i
 k2:∀d p u,(∀i,mem i d=true->mem i T.2=false)->okd H pl d p->w.at? p=some u->okd H' pl' d p/\w'.at? p=some u
theorem ax.bG {T:Kil} {w w':World} {H H':aO} {pl pl':Pl} (hk:mS T w H pl w' H' pl') {v:SV} {u:Value} (h:ax w H pl v u):
  ax w' H' pl' (v.aS T) u:=by
 induction h with
 |r d x v h=>
  simp only[SV.aS];cases hd:hit T.2 d
  ·exact .r d x v (h.frame λp u hp hu=>hk.k2 d p u (fY T.2 d hd) hp hu)
  ·exact .undef _
 |bS=>exact .bS
 |qX=>exact .qX
 |own i sh t xs h=>
  simp only[SV.aS];cases hi:mem i T.1
  ·obtain⟨B',h1,h2,h3⟩:=hk.k1 i _ h hi
   cases B' with
   |box cs=>exact h2.elim
   |arr sh' t' ys=>rw[<-h3];exact .own i sh' t' ys h1
  ·exact .undef _
 |sub i o n sh t xs a a' cap jA h hh hn hc hc' ha=>
  simp only[SV.aS];cases hi:mem i T.1
  ·obtain⟨B',h1,h2,h3⟩:=hk.k1 i _ h hi
   cases B' with
   |box cs=>exact h2.elim
   |arr sh' t' ys=>
    obtain⟨hz,hl⟩:=h2;exact .sub i o n sh' t' ys a a' cap jA h1 (by rw[h3,hh,hl]) (hl▸hn) hc hc' (by rw[<-hz];exact ha)
  ·exact .undef _
 |bsl i n cs a h hh=>
  simp only[SV.aS];cases hi:mem i T.1
  ·obtain⟨B',h1,h2,h3⟩:=hk.k1 i _ h hi
   cases B' with
   |arr _ _ _=>exact h2.elim
   |box ds=>
    exact .bsl i n ds a h1 (h3.trans hh)
  ·exact .undef _
 |wM i o cs b k h hh=>
  simp only[SV.aS];cases hi:mem i T.1
  ·obtain⟨B',h1,h2,h3⟩:=hk.k1 i _ h hi
   cases B' with
   |arr _ _ _=>exact h2.elim
   |box ds=>exact .wM i o ds b k h1 (h3.trans hh)
  ·exact .undef _
 |uR i x o sh t xs b k n cap h hx hh=>
  simp only[SV.aS];cases hi:mem i T.1
  ·obtain⟨B',h1,h2,h3⟩:=hk.k1 i _ h hi
   cases B' with
   |box cs=>exact h2.elim
   |arr sh' t' ys=>
    obtain⟨hz,hl⟩:=h2;rw[hz];exact .uR i x o sh' t' ys b k n cap h1 (hl▸hx) (h3.trans hh)
  ·exact .undef _
 |inn i x c sh t xs b k n cap v h hx hc hh hok hv h1=>
  simp only[SV.aS];cases hi:(mem i T.1||mem i T.2)
  ·rw[Bool.or_eq_false_iff]at hi;obtain⟨B',g1,g2,g3⟩:=hk.k1 i _ h hi.1
   have g4:=hk.k2 [i] _ v (λj hj=>by
    simp only[mem]at hj;cases hb:Nat.beq i j<;>simp only[hb,cond_true,cond_false]at hj
    ·exact nomatch hj
    ·rw[<-So hb];exact hi.2) hok hv
   cases B' with
   |box cs=>exact g2.elim
   |arr sh' t' ys=>
    obtain⟨hz,hl⟩:=g2;rw[hz]at g4 hc;exact .inn i x c sh' t' ys b k n cap v g1 (hl▸hx) hc (g3.trans hh) g4.1 g4.2 h1
  ·exact .undef _
 |lO d cs b o vs hc hr=>
  simp only[SV.aS];cases hd:hit T.2 d
  ·exact .lO d cs b o vs (λj r hj=>hk.k2 d _ _ (fY T.2 d hd) (hc j r hj).1 (hc j r hj).2)
    λj r hj=>(hr j r hj).frame λp u hp hu=>hk.k2 d p u (fY T.2 d hd) hp hu
  ·exact .undef _
 |agg cs vs hl h1 h ih=>
  refine .agg _ vs (by rw[gP,hl]) h1 λj x v hx hv=>?_;rw[oW]at hx;obtain⟨y,hy,rfl⟩:=VW.1 hx
  exact ih j y v hy hv
 |tup cs vs hl h ih=>
  refine .tup _ vs (by rw[gP,hl]) λj x v hx hv=>?_;rw[oW]at hx;obtain⟨y,hy,rfl⟩:=VW.1 hx
  exact ih j y v hy hv
 |fn f as bs us vs hl h hl' h' ih ih'=>
  refine .fn f _ _ us vs (by rw[gP,hl]) (λj x v hx hv=>?_) (by rw[gP,hl']) λj x v hx hv=>?_
  ·rw[oW]at hx;obtain⟨y,hy,rfl⟩:=VW.1 hx;exact ih j y v hy hv
  ·rw[oW]at hx;obtain⟨y,hy,rfl⟩:=VW.1 hx
   exact ih' j y v hy hv
 |undef v=>exact .undef _
theorem D2 (d:List Nat):hit [] d=false:=by
 induction d with
 |nil=>rfl
 |cons k l ih=>simpa[hit,mem]using ih
mutual
theorem dJ:(v:SV)->v.aS ([],[])=v
 |.r d x=>by simp[SV.aS,D2]
 |.own j=>by simp[SV.aS,mem]
 |.sub j o n=>by simp[SV.aS,mem]
 |.bsl j n=>by simp[SV.aS,mem]
 |.ptr j x o=>by simp[SV.aS,mem]
 |.inn j x c=>by simp[SV.aS,mem]
 |.lO d cs=>by simp[SV.aS,D2]
 |.agg cs=>by simp[SV.aS,kn cs]
 |.tup cs=>by simp[SV.aS,kn cs]
 |.fn f a b=>by simp[SV.aS,kn a,kn b]
 |.bS=>by simp[SV.aS]
 |.qX=>by simp[SV.aS]
 |.undef=>by simp[SV.aS]
theorem kn:(l:List SV)->jg ([],[]) l=l
 |[]=>rfl
 |v::l=>by simp[jg,dJ v,kn l]
end
theorem ax.yV {w w':World} {H H':aO} {pl pl':Pl} (hk:mS ([],[]) w H pl w' H' pl') {v:SV} {u:Value} (h:ax w H pl v u):
  ax w' H' pl' v u:=by have:=h.bG hk;rwa [dJ]at this
end
section
variable [Tok]
section
variable {w:World} {H:aO} {pl:Pl}
theorem kj.scalar {ok:Cell->Prop} {x:R} {v:Value} (h:kj w ok x v) (ok':Cell->Prop) (hs:∀t xs,x≠.sl t xs):kj w ok' x v:=by
 cases h with
 |int=>exact .int _ _
 |bool=>exact .bool _
 |str=>exact .str _
 |tok=>exact .tok _
 |nz v h=>exact .nz v h
 |sl t xs=>exact(hs t xs rfl).elim
theorem zY {d:List Nat} {x:R} {v:Value} (h:kj w (okd H pl d) x v):ax w H pl (mkR d x) v:=by
 cases x with
 |sl t xs=>exact .r _ _ _ h
 |_=>exact .r _ _ _ (h.scalar _ (λ_ _ e=>nomatch e))
theorem kj.tD {ok:Cell->Prop} {x:R} {v:Value} (h:kj w ok x v):one v=true:=by cases h<;>first|rfl|exact Tok.MM _|assumption
def il (w:World) (H:aO) (pl:Pl) (s:List (Nat× SV)) (a:Act):Prop:=∀t v,look s t=some v->ax w H pl v (a.tmps.getD t undef)
theorem zZ {v:Value} {x:SV} (h:wH v=some x):ax w H pl x v:=by
 unfold wH at h
 split at h<;>first|(cases h)|skip
 ·exact .r _ _ _ (.bool _)
 ·exact .r _ _ _ (.int _ _)
 ·exact .r _ _ _ (.str _)
 ·exact .bS
 ·exact .qX
theorem CH:∀{vs:List Value} {l:List SV},CD vs=some l->l.length=vs.length/\∀(j:Nat) (x:SV) (v:Value),l[j]? =some x->vs[j]? =some v->ax w H pl x v
 |[],l,h=>by cases h;exact⟨rfl,λj x v hx _=>by simp at hx⟩
 |v::vs,l,h=>by
  simp only[CD,An,It]at h;obtain⟨x,hx,xs,hxs,rfl⟩:=h;obtain⟨h1,h2⟩:=CH hxs;refine⟨by simp[h1],λj y u hy hu=>?_⟩
  cases j with
  |zero=>simp at hy hu;subst hy hu;exact zZ hx
  |succ j=>exact h2 j y u (by simpa using hy) (by simpa using hu)
theorem H7 {v:Value} {x:SV} (h:wH v=some x):one v=true:=by
 unfold wH at h
 split at h<;>first|rfl|(cases h)
theorem CI:∀{vs:List Value} {l:List SV},CD vs=some l->∀(j:Nat) (v:Value),vs[j]? =some v->one v=true
 |[],l,_,j,v,hv=>by simp at hv
 |u::vs,l,h,j,v,hv=>by
  simp only[CD,An,It]at h;obtain⟨x,hx,xs,hxs,rfl⟩:=h
  cases j with
  |zero=>simp at hv;subst hv;exact H7 hx
  |succ j=>exact CI hxs j v (by simpa using hv)
theorem wN {v:Value} {x:SV} (h:Jz v=some x):ax w H pl x v:=by
 unfold Jz at h;split at h
 ·simp only[An,It]at h;obtain⟨l,hl,rfl⟩:=h;obtain⟨h1,h2⟩:=CH (w:=w) (H:=H) (pl:=pl) hl;refine .agg _ _ (by simpa using h1) (λj v hv=>?_) λj x v hx hv=>h2 j x v hx (by simpa using hv);exact CI hl j v (by simpa using hv)
 ·exact zZ h
theorem aX {s:List (Nat× SV)} {a:Act} (hs:il w H pl s a) {o:Operand} {x:SV} (h:opd s o=some x):ax w H pl x (a.eval o):=by
 cases o with
 |tmp t=>exact hs t x h
 |const v=>exact wN h
 |func f=>
  simp only[opd,It]at h;subst h
  exact .fn _ _ _ _ _ rfl (λj x v hx _=>by simp at hx) rfl (λj x v hx _=>by simp at hx)
 |global g=>exact nomatch h
theorem eA {P:Program} {T:TypeId} {i:TypeInfo} (h:P.info? T=some i) (w:World):(sizeOf T).run P w=.ok i.size w:=by
 simp[sizeOf,typeInfo,h]
theorem c7 {P:Program} {T:TypeId} {d:TypeDesc} (h:P.underlying T=some d) (w:World):(underlying T).run P w=.ok d w:=by
 simp[underlying,h]
theorem mF {P:Program} {T:TypeId} {d:TypeDesc} (h:P.underlying T=some d) (w:World):(isAgg T).run P w=.ok (zQ P T) w:=by
 simp only[isAgg,Sem.run_bind,c7 h,Result.andThen_ok,zQ,h];cases d<;>rfl
theorem Aa (hr:dc H pl w) {p:SV} {u:Value} (hp:ax w H pl p u) {cs:List SV} (h:mO H p=some cs):
  ∃b o,u=.pointer (some ⟨b,o,none⟩)/\∀(j:Nat) (x:SV),cs[j]? =some x->∃y,w.at? (b,o+j)=some y/\one y=true/\ax w H pl x y:=by
 cases hp with
 |lO d cs' b o vs hc hr'=>
  simp only[mO,It]at h;subst h;refine⟨b,o,rfl,λj x hx=>?_⟩;rw[WB]at hx;obtain⟨r,hj,rfl⟩:=VW.1 hx
  exact⟨vs j,(hc j r hj).2,(hr' j r hj).tD,zY (hr' j r hj)⟩
 |wM i o cs' b k hl hh=>
  simp only[mO,hl,It]at h;subst h;obtain⟨b',o',e,_,hc⟩:=hr.blk i _ hl;rw[hh]at e;cases e;refine⟨b,k+o,rfl,λj x hx=>?_⟩;rw[V7]at hx;obtain⟨y,h1,_,h3,h4⟩:=hc _ _ hx
  exact⟨y,by rw[WT];exact h1,h3,h4⟩
 |uR i x o sh t xs b k n cap hl hx hh=>
  simp only[mO,hl,An,It]at h;obtain⟨e,he,rfl⟩:=h;have hb:=hr.blk i _ hl;refine⟨b,k+(x*t.sz+o),rfl,λj y hy=>?_⟩;rw[V7,WB]at hy;obtain⟨r,hj,rfl⟩:=VW.1 hy;have hcell:aD t xs x (o+j) r:=⟨e,he,hj⟩
  cases sh with
  |none=>
   obtain⟨R⟩:=hb;obtain⟨a',jA,b',o',vs,fs,h1,h2,h3,h4,h5,h6,h7,h8,h9⟩:=R;rw[hh]at h1;cases h1
   have hne:cap≠0:=by omega
   have h3:=h3.resolve_left hne;cases h3;refine⟨vs x (o+j),by rw[show k+(x*t.sz+o)+j=k+(x*t.sz+(o+j))from by omega];exact h5 _ _ _ hcell,?_,?_⟩
   ·exact((h6 _ _ _ hcell).Pb (ok:=λ_=>True) (λ_ _=>trivial)).tD
   ·refine zY ((h6 _ _ _ hcell).Pb λp hp=>⟨hr.ob i _ p hl ((h9 p).2 (.inr ⟨_,_,_,hcell,hp⟩)),λi' B hB hm hf=>?_⟩);have hp':pl.fp i p:=(h9 p).2 (.inr ⟨_,_,_,hcell,hp⟩);have:=hr.dis i' i _ _ p hB hl hf hp';subst this;have hbx:=hm (by simp[Mz,mem]);rw[hl]at hB;cases hB
    simp[Blk.lQ]at hbx
  |some d=>
   obtain⟨R⟩:=hb;obtain⟨a',jA,b',o',vs,fs,h1,h2,h3,h4,h5,h6,h7,h8,h9⟩:=R;rw[hh]at h1;cases h1
   have hne:cap≠0:=by omega
   have h3:=h3.resolve_left hne;cases h3
   exact⟨vs x (o+j),by rw[show k+(x*t.sz+o)+j=k+(x*t.sz+(o+j))from by omega];exact h5 _ _ _ hcell,(h6 _ _ _ hcell).1.tD,zY (h6 _ _ _ hcell).1⟩
 |_=>exact nomatch h
theorem CJ {α:Type} {n:Nat} {l m:List α} (h:takeN n l=some m):m.length=n/\∀j,j<n->m[j]? =l[j]? :=by
 unfold takeN at h;cases hn:Nat.ble n l.length
 ·simp[hn]at h
 ·simp only[hn,cond_true,It]at h;subst h;have:=V4 hn;exact⟨by simp[this],λj hj=>by simp[hj]⟩
theorem D3 {P:Program} {T:TypeId} {cs:List SV} {v:SV} (h:jz P T cs=some v) (b o:Nat)
  (hc:∀(j:Nat) (x:SV),cs[j]? =some x->∃y,w.at? (b,o+j)=some y/\one y=true/\ax w H pl x y):
  ∃u,(loadVar T ⟨b,o,none⟩).run P w=.ok u w/\ax w H pl v u:=by
 simp only[jz,An]at h;obtain⟨d,hd,i,hi,l,hl,h⟩:=h;obtain⟨h1,h2⟩:=CJ hl
 have hy:∀j,j<i.size->∃y x,l[j]? =some x/\w.at? (b,o+j)=some y/\ax w H pl x y:=λj hj=>by
  have hx:l[j]? =some (l[j]'(by omega)):=On (by omega);obtain⟨y,h3,_,h5⟩:=hc j _ ((h2 j hj)▸hx);exact⟨y,_,hx,h3,h5⟩
 cases ha:zQ P T
 ·simp only[ha,cond_false]at h
  match l,h1,hl,h,hy,h2 with
  |[x],h1,hl,h,hy,h2=>
   simp only[It]at h;subst h;have h1:i.size=1:=h1.symm;obtain⟨y,x',h3,h4,h5⟩:=hy 0 (by omega);simp at h3;subst h3;refine⟨y,?_,h5⟩;have h4:w.cell? ⟨b,o,none⟩=some y:=h4;simp[loadVar,mF hd,ha,h4]
 ·simp only[ha,cond_true,It]at h;subst h
  let f:Nat->Value:=λj=>(w.at? (b,o+j)).getD undef
  have hf:∀j,j<i.size->w.cell? (Addr.add ⟨b,o,none⟩ j)=some (f j):=λj hj=>by
   obtain⟨y,x,_,h4,_⟩:=hy j hj
   have e:Addr.add ⟨b,o,none⟩ j=⟨b,o+j,none⟩:=by
    unfold Addr.add;split
    ·rename_i h0;subst h0;rfl
    ·rfl
   rw[e];show w.at? (b,o+j)=some (f j);simp only[f,h4];rfl
  have CK:∀j,j<i.size->one (f j)=true:=λj hj=>by
   have hx:l[j]? =some (l[j]'(by omega)):=On (by omega);obtain⟨y,h3,h4,_⟩:=hc j _ ((h2 j hj)▸hx);simp only[f,h3];exact h4
  refine⟨.agg ((List.range i.size).map f).toArray,?_,?_⟩
  ·simp[loadVar,mF hd,ha,eA hi,run_loadCells (P:=P) w ⟨b,o,none⟩ i.size f hf]
  ·refine .agg _ _ (by simp[h1]) (λj v hv=>by
    by_cases hj:j<i.size
    ·have:v=f j:=by simp[hj]at hv;exact hv.symm
     rw[this];exact CK j hj
    ·simp[hj]at hv) λj x v hx hv=>?_
   have hj:j<i.size:=by have:=(Of.1 hx).1;omega
   obtain⟨y,x',h3,h4,h5⟩:=hy j hj;rw[h3]at hx;cases hx
   have:v=f j:=by simp[hj]at hv;exact hv.symm
   subst this;simp only[f,h4];exact h5
end
end
end Go.Proofs.Ev
