/- The evaluator over the model's code, and that it is sound: part 1. -/
import Derived.Calls
import Derived.Laws.IdiomCopy
import Derived.Laws.Cells
import Derived.Laws.Sem
set_option linter.unusedVariables false
set_option linter.unusedSimpArgs false
set_option linter.unusedSectionVars false
namespace Go.Proofs.Ev
theorem An:type_of% @Option.bind_eq_some_iff:=@Option.bind_eq_some_iff
theorem It:type_of% @Option.some.injEq:=@Option.some.injEq
theorem Of:type_of% @List.getElem?_eq_some_iff:=@List.getElem?_eq_some_iff
theorem On:type_of% @Nat.eq_of_beq_eq_true:=@Nat.eq_of_beq_eq_true
theorem So:type_of% @List.getElem?_eq_getElem:=@List.getElem?_eq_getElem
theorem XB:type_of% @Bool.and_eq_true:=@Bool.and_eq_true
theorem XC:type_of% @Option.bind_some:=@Option.bind_some
theorem XD:type_of% @Option.elim_some:=@Option.elim_some
theorem XE:type_of% @Int.toNat_natCast:=@Int.toNat_natCast
theorem XG:type_of% @List.length_append:=@List.length_append
theorem XH:type_of% @List.getElem_mem:=@List.getElem_mem
theorem XI:type_of% @List.length_cons:=@List.length_cons
theorem XJ:type_of% @Bool.not_true:=@Bool.not_true
theorem XK:type_of% @Option.map_eq_some_iff:=@Option.map_eq_some_iff
theorem XL:type_of% @List.getElem?_append_right:=@List.getElem?_append_right
theorem XM:type_of% @Bool.true_and:=@Bool.true_and
theorem XN:type_of% @Nat.zero_add:=@Nat.zero_add
theorem XO:type_of% @Prod.mk.injEq:=@Prod.mk.injEq
theorem XP:type_of% @List.append_assoc:=@List.append_assoc
theorem XQ:type_of% @List.getElem?_append_left:=@List.getElem?_append_left
theorem XR:type_of% @Array.getElem?_eq_getElem:=@Array.getElem?_eq_getElem
theorem XT:type_of% @Nat.le_of_ble_eq_true:=@Nat.le_of_ble_eq_true
theorem XU:type_of% @List.getElem?_drop:=@List.getElem?_drop
theorem XV:type_of% @List.mem_cons_of_mem:=@List.mem_cons_of_mem
theorem XW:type_of% @Array.getElem?_eq_some_iff:=@Array.getElem?_eq_some_iff
theorem XX:type_of% @List.mem_of_getElem?:=@List.mem_of_getElem?
theorem XY:type_of% @List.append_nil:=@List.append_nil
theorem XZ:type_of% @Nat.mul_le_mul_right:=@Nat.mul_le_mul_right
theorem X1:type_of% @Nat.le_refl:=@Nat.le_refl
theorem X2:type_of% @List.length_nil:=@List.length_nil
theorem X3:type_of% @List.mem_cons:=@List.mem_cons
theorem X4:type_of% @Array.getD_eq_getD_getElem?:=@Array.getD_eq_getD_getElem?
theorem X5:type_of% @Option.elim_none:=@Option.elim_none
theorem X6:type_of% @List.all_eq_true:=@List.all_eq_true
theorem X7:type_of% @Nat.add_mul:=@Nat.add_mul
theorem X8:type_of% @Bool.not_false:=@Bool.not_false
theorem X9:type_of% @List.length_take:=@List.length_take
theorem Ya:type_of% @Nat.zero_le:=@Nat.zero_le
theorem Yb:type_of% @List.getElem?_eq_none:=@List.getElem?_eq_none
theorem Yc:type_of% @List.mem_cons_self:=@List.mem_cons_self
theorem Yd:type_of% @Nat.add_zero:=@Nat.add_zero
theorem Ye:type_of% @Nat.mul_comm:=@Nat.mul_comm
theorem Yf:type_of% @List.mem_iff_getElem:=@List.mem_iff_getElem
theorem Yg:type_of% @Option.bind_none:=@Option.bind_none
theorem Yh:type_of% @List.getElem?_take:=@List.getElem?_take
theorem Yi:type_of% @Option.bind_assoc:=@Option.bind_assoc
theorem Yj:type_of% @List.take_length:=@List.take_length
theorem Yk:type_of% @Nat.add_sub_cancel_left:=@Nat.add_sub_cancel_left
theorem Yl:type_of% @List.getElem?_map:=@List.getElem?_map
theorem Ym:type_of% @List.mem_singleton:=@List.mem_singleton
theorem Yn:type_of% @Bool.and_eq_true_iff:=@Bool.and_eq_true_iff
theorem Yo:type_of% @List.length_eq_zero_iff:=@List.length_eq_zero_iff
theorem Yp:type_of% @List.map_cons:=@List.map_cons
theorem Yq:type_of% @Nat.mod_eq_of_lt:=@Nat.mod_eq_of_lt
theorem Yr:type_of% @List.mem_append:=@List.mem_append
theorem Ys:type_of% @List.getD_eq_getElem?_getD:=@List.getD_eq_getElem?_getD
theorem Yt:type_of% @Nat.sub_zero:=@Nat.sub_zero
theorem Yu:type_of% @Nat.mul_le_mul:=@Nat.mul_le_mul
theorem Yv:type_of% @List.mem_filter:=@List.mem_filter
theorem Yw:type_of% @List.getElem?_of_mem:=@List.getElem?_of_mem
theorem Yx:type_of% @List.foldl_append:=@List.foldl_append
theorem Yy:type_of% @Bool.false_and:=@Bool.false_and
theorem Yz:type_of% @Nat.add_assoc:=@Nat.add_assoc
theorem YA:type_of% @Option.some.inj:=@Option.some.inj
theorem YB:type_of% @List.length_set:=@List.length_set
theorem YC:type_of% @List.nil_append:=@List.nil_append
theorem YD:type_of% @List.cons.injEq:=@List.cons.injEq
theorem YE:type_of% @List.length_drop:=@List.length_drop
theorem YF:type_of% @Int.tdiv_eq_ediv_of_nonneg:=@Int.tdiv_eq_ediv_of_nonneg
theorem YG:type_of% @Option.or_none:=@Option.or_none
theorem YH:type_of% @Nat.mul_add_mod:=@Nat.mul_add_mod
theorem YI:type_of% @List.nodup_cons:=@List.nodup_cons
theorem YJ:type_of% @List.map_append:=@List.map_append
theorem YK:type_of% @Int.natCast_mul:=@Int.natCast_mul
theorem YL:type_of% @List.findIdx?_eq_some_iff_getElem:=@List.findIdx?_eq_some_iff_getElem
theorem YM:type_of% @Array.getElem?_toList:=@Array.getElem?_toList
theorem YN:type_of% @List.take_append_drop:=@List.take_append_drop
theorem YO:type_of% @Array.getElem?_append_left:=@Array.getElem?_append_left
theorem YP:type_of% @Option.getD_some:=@Option.getD_some
theorem YQ:type_of% @Nat.div_eq_of_lt:=@Nat.div_eq_of_lt
theorem YR:type_of% @List.getElem?_set_self:=@List.getElem?_set_self
theorem YS:type_of% @List.findIdx?_eq_none_iff:=@List.findIdx?_eq_none_iff
theorem YT:type_of% @List.filter_eq_self:=@List.filter_eq_self
theorem YU:type_of% @List.take_append_of_le_length:=@List.take_append_of_le_length
theorem YV:type_of% @Nat.ble_eq_true_of_le:=@Nat.ble_eq_true_of_le
theorem YW:type_of% @Nat.le_trans:=@Nat.le_trans
theorem YX:type_of% @Bool.false_eq_true:=@Bool.false_eq_true
theorem YY:type_of% @List.cons_append:=@List.cons_append
theorem YZ:type_of% @List.any_eq_not_all_not:=@List.any_eq_not_all_not
theorem Y0:type_of% @Nat.succ_mul:=@Nat.succ_mul
theorem Y1:type_of% @List.take_of_length_le:=@List.take_of_length_le
theorem Y2:type_of% @List.flatMap_append:=@List.flatMap_append
theorem Y3:type_of% @Nat.mul_add_div:=@Nat.mul_add_div
theorem Y4:type_of% @List.range_succ:=@List.range_succ
theorem Y5:type_of% @Option.isSome_none:=@Option.isSome_none
theorem Y6:type_of% @List.filter_cons:=@List.filter_cons
theorem Y7:type_of% @Bool.or_true:=@Bool.or_true
theorem Y8:type_of% @List.map_nil:=@List.map_nil
theorem Y9:type_of% @List.sum_cons:=@List.sum_cons
theorem Za:type_of% @List.getElem?_set_ne:=@List.getElem?_set_ne
theorem Zb:type_of% @List.mem_of_mem_take:=@List.mem_of_mem_take
theorem Zc:type_of% @Bool.and_false:=@Bool.and_false
theorem Zd:type_of% @List.pairwise_append:=@List.pairwise_append
theorem Ze:type_of% @List.getElem?_cons_succ:=@List.getElem?_cons_succ
theorem Zf:type_of% @Option.map_some:=@Option.map_some
theorem Zg:type_of% @Array.ext':=@Array.ext'
theorem Zh:type_of% @Nat.min_eq_left:=@Nat.min_eq_left
theorem Zi:type_of% @List.all_cons:=@List.all_cons
theorem Zj:type_of% @List.drop_length:=@List.drop_length
theorem Zk:type_of% @List.mem_flatMap:=@List.mem_flatMap
theorem Zl:type_of% @List.filter_append:=@List.filter_append
theorem Zm:type_of% @List.length_replicate:=@List.length_replicate
theorem Zn:type_of% @List.length_filter_le:=@List.length_filter_le
theorem Zo:type_of% @List.drop_eq_getElem_cons:=@List.drop_eq_getElem_cons
theorem Zp:type_of% @List.foldl_cons:=@List.foldl_cons
theorem Zq:type_of% @Bool.or_eq_true:=@Bool.or_eq_true
theorem Zr:type_of% @List.sum_append:=@List.sum_append
theorem Zs:type_of% @List.getElem?_cons_zero:=@List.getElem?_cons_zero
theorem Zt:type_of% @List.drop_zero:=@List.drop_zero
theorem Zu:type_of% @Int.mul_nonneg:=@Int.mul_nonneg
theorem Zv:type_of% @Nat.div_add_mod:=@Nat.div_add_mod
theorem Zw:type_of% @Bool.and_true:=@Bool.and_true
theorem Zx:type_of% @Nat.div_lt_iff_lt_mul:=@Nat.div_lt_iff_lt_mul
theorem Zy:type_of% @List.mem_append_right:=@List.mem_append_right
theorem Zz:type_of% @Bool.not_eq_true':=@Bool.not_eq_true'
theorem ZA:type_of% @Nat.lt_trichotomy:=@Nat.lt_trichotomy
theorem ZC:type_of% @List.mem_append_left:=@List.mem_append_left
theorem ZD:type_of% @List.take_zero:=@List.take_zero
theorem ZE:type_of% @List.mem_map:=@List.mem_map
theorem ZH:type_of% @Bool.eq_iff_iff:=@Bool.eq_iff_iff
theorem ZI:type_of% @Nat.mod_lt:=@Nat.mod_lt
theorem ZJ:type_of% @List.mem_replicate:=@List.mem_replicate
theorem ZK:type_of% @Nat.lt_of_lt_of_le:=@Nat.lt_of_lt_of_le
theorem ZL:type_of% @List.findIdx?_cons:=@List.findIdx?_cons
theorem ZM:type_of% @Int.tmod_lt_of_pos:=@Int.tmod_lt_of_pos
theorem ZN:type_of% @List.pairwise_cons:=@List.pairwise_cons
theorem ZO:type_of% @Option.isSome_some:=@Option.isSome_some
theorem ZQ:type_of% @Nat.zero_mul:=@Nat.zero_mul
theorem ZT:type_of% @Bool.not_not:=@Bool.not_not
theorem ZU:type_of% @Nat.le_of_lt:=@Nat.le_of_lt
theorem ZV:type_of% @List.map_id':=@List.map_id'
theorem Z1:type_of% @Int.mul_assoc:=@Int.mul_assoc
theorem Z8:type_of% @Iff.rfl:=@Iff.rfl
section
structure Shape where
 h:Int
 w:Int
 c:Int
 deriving DecidableEq
structure az where
 sh:Shape
 data:List Int
 deriving DecidableEq
structure aA where
 kind:Int
 out:Int
 size:Int
 step:Int
 mult:Int
 shift:Int
 zero:Int
 weights:List Int
 pN:List Int
 deriving DecidableEq
structure Model where
 inp:Shape
 aF:List aA
 deriving DecidableEq
structure Job where
 model:Model
 at_:Int
 act:az
 jQ:Int
 deriving DecidableEq
structure Task where
 id:Int
 av:List Int
 at_:Int
 due:Int
 born:Int
 deriving DecidableEq
structure ak where
 now:Int
 ai:Int
 age:Int
 tasks:List Task
 run:Int
 left:Int
 turns:Int
 next:Int
 deriving DecidableEq
structure Request where
 id:Int
 model:Int
 job:Job
 due:Int
 deriving DecidableEq
structure Runtime where
 sched:ak
 ao:List Model
 aq:List Bool
 ae:List Request
 deriving DecidableEq
structure Step where
 kind:Int
 a:Int
 b:Int
 data:List Int
 input:az
 deriving DecidableEq
structure Event where
 kind:Int
 a:Int
 b:Int
 out:az
 deriving DecidableEq
structure Entry where
 id:Int
 model:Model
 input:az
 at_:Int
 due:Int
 end_:Int
 done:Bool
 deriving DecidableEq
structure Mc where
 id:Int
 model:Int
 due:Int
 deriving DecidableEq
structure dY where
 id:Int
 av:Nat
 at_:Int
 due:Int
 born:Int
 deriving DecidableEq
structure uR where
 id:Int
 model:Int
 mh:Int
 mw:Int
 mc:Int
 aF:Nat
 jat:Int
 ah:Int
 aw:Int
 ac:Int
 data:Nat
 jQ:Int
 due:Int
 deriving DecidableEq
structure Reader where
 b:List Int
 at_:Int
 bad:Bool
 deriving DecidableEq
inductive S where
 |shape|dn|aS|model|task|request|step|event|entry|Qw|dp|jf
 deriving DecidableEq
inductive Ty where
 |int (k:IntKind)|bool|str|sl (t:Ty)|st (s:S)|tok
 |ho (s:S)|hl (t:Ty)
 deriving DecidableEq
def S.E:S->Type
 |.shape=>Shape|.dn=>az|.aS=>aA|.model=>Model|.task=>Task|.request=>Request
 |.step=>Step|.event=>Event|.entry=>Entry|.Qw=>Mc|.dp=>dY|.jf=>uR
def Ty.El:Ty->Type
 |.int _=>Int
 |.bool=>Bool
 |.str=>List UInt8
 |.sl t=>List t.El
 |.st s=>s.E
 |.tok=>Nat
 |.ho s=>Option s.E
 |.hl t=>Option (List t.El)
inductive R where
 |int (k:IntKind) (n:Int)
 |bool (b:Bool)
 |str (l:List UInt8)
 |sl (t:Ty) (xs:List t.El)
 |tok (n:Nat)
 |nr
abbrev R.i (n:Int):R:=.int .i64 n
abbrev R.ints (xs:List Int):R:=.sl (.int .i64) xs
abbrev R.bytes (xs:List Int):R:=.sl (.int .u8) xs
def NT (x:Shape):List R:=[.i x.h,.i x.w,.i x.c]
def NU (x:az):List R:=[.i x.sh.h,.i x.sh.w,.i x.sh.c,.ints x.data]
def Sj (x:aA):List R:=[.i x.kind,.i x.out,.i x.size,.i x.step,.i x.mult,.i x.shift,.i x.zero,.ints x.weights,.ints x.pN]
def Sl (x:Model):List R:=[.i x.inp.h,.i x.inp.w,.i x.inp.c,.sl (.st .aS) x.aF]
def QE (x:Task):List R:=[.i x.id,.ints x.av,.i x.at_,.i x.due,.i x.born]
def KK (x:Request):List R:=[.i x.id,.i x.model,.i x.job.model.inp.h,.i x.job.model.inp.w,.i x.job.model.inp.c,.sl (.st .aS) x.job.model.aF,.i x.job.at_,.i x.job.act.sh.h,.i x.job.act.sh.w,.i x.job.act.sh.c,.ints x.job.act.data,.i x.job.jQ,.i x.due]
def QF (x:Step):List R:=[.i x.kind,.i x.a,.i x.b,.bytes x.data,.i x.input.sh.h,.i x.input.sh.w,.i x.input.sh.c,.ints x.input.data]
def Sm (x:Event):List R:=[.i x.kind,.i x.a,.i x.b,.i x.out.sh.h,.i x.out.sh.w,.i x.out.sh.c,.ints x.out.data]
def Sn (x:Entry):List R:=[.i x.id,.i x.model.inp.h,.i x.model.inp.w,.i x.model.inp.c,.sl (.st .aS) x.model.aF,.i x.input.sh.h,.i x.input.sh.w,.i x.input.sh.c,.ints x.input.data,.i x.at_,.i x.due,.i x.end_,.bool x.done]
def SZ (x:Mc):List R:=[.i x.id,.i x.model,.i x.due]
def Dl (x:dY):List R:=[.i x.id,.tok x.av,.i x.at_,.i x.due,.i x.born]
def Aq (x:uR):List R:=[.i x.id,.i x.model,.i x.mh,.i x.mw,.i x.mc,.tok x.aF,.i x.jat,.i x.ah,.i x.aw,.i x.ac,.tok x.data,.i x.jQ,.i x.due]
def S.sz:S->Nat
 |.shape=>3|.dn=>4|.aS=>9|.model=>4|.task=>5|.request=>13|.step=>8|.event=>7|.entry=>13|.Qw=>3|.dp=>5|.jf=>13
def S.cells:(s:S)->s.E->List R
 |.shape=>NT|.dn=>NU|.aS=>Sj|.model=>Sl|.task=>QE|.request=>KK
 |.step=>QF|.event=>Sm|.entry=>Sn|.Qw=>SZ|.dp=>Dl|.jf=>Aq
def Ty.sz:Ty->Nat
 |.st s=>s.sz
 |.ho s=>s.sz
 |_=>1
def Ty.cells:(t:Ty)->t.El->List R
 |.int k,n=>[.int k n]
 |.bool,b=>[.bool b]
 |.str,l=>[.str l]
 |.sl t,xs=>[.sl t xs]
 |.st s,x=>s.cells x
 |.tok,n=>[.tok n]
 |.ho s,x=>match x with
  |some x=>s.cells x
  |none=>List.replicate s.sz .nr
 |.hl t,x=>match x with
  |some xs=>[.sl t xs]
  |none=>[.nr]
theorem S.cw (s:S) (x:s.E):(s.cells x).length=s.sz:=by cases s<;>rfl
theorem Ty.cw (t:Ty) (x:t.El):(t.cells x).length=t.sz:=by
 cases t with
 |st s=>exact s.cw x
 |ho s=>cases x with
  |none=>simp[Ty.cells,Ty.sz]
  |some x=>exact s.cw x
 |hl t=>cases x<;>rfl
 |_=>rfl
theorem Ty.ie (t:Ty):0<t.sz:=by
 cases t with
 |st s=>cases s<;>simp[Ty.sz,S.sz]
 |ho s=>cases s<;>simp[Ty.sz,S.sz]
 |_=>simp[Ty.sz]
def R.asI:R->Option Int
 |.int .i64 n=>some n
 |_=>none
def R.asB:R->Option Bool
 |.bool b=>some b
 |_=>none
def R.asL (t:Ty):R->Option (List t.El)
 |.sl t' xs=>if h:t'=t then some (h▸xs)else none
 |_=>none
def R.asT:R->Option Nat
 |.tok n=>some n
 |_=>none
theorem R.Ez {r:R} {n:Nat} (h:r.asT=some n):r=.tok n:=by
 unfold R.asT at h;split at h
 ·cases h;rfl
 ·cases h
theorem R.aE {r:R} {n:Int} (h:r.asI=some n):r=.int .i64 n:=by
 unfold R.asI at h;split at h
 ·cases h;rfl
 ·cases h
theorem R.QG {r:R} {n:Bool} (h:r.asB=some n):r=.bool n:=by
 unfold R.asB at h;split at h
 ·cases h;rfl
 ·cases h
theorem R.gp {t:Ty} {r:R} {n:List t.El} (h:r.asL t=some n):r=.sl t n:=by
 unfold R.asL at h;split at h
 ·split at h
  ·rename_i e;subst e;cases h;rfl
  ·cases h
 ·cases h
def Gk:List R->Option Shape
 |[a',b',c']=>(a'.asI).bind λa=>(b'.asI).bind λb=>(c'.asI).bind λc=>some ⟨a,b,c⟩
 |_=>none
theorem I0 (cs:List R) (x:Shape) (h:Gk cs=some x):NT x=cs:=by
 unfold Gk at h;split at h
 ·simp only[An]at h;obtain⟨a,ha,b,hb,c,hc,h⟩:=h;cases h;rw[R.aE ha,R.aE hb,R.aE hc];rfl
 ·cases h
def Ar:List R->Option az
 |[a',b',c',d']=>(a'.asI).bind λa=>(b'.asI).bind λb=>(c'.asI).bind λc=>(d'.asL (.int .i64)).bind λd=>some ⟨⟨a,b,c⟩,d⟩
 |_=>none
theorem Gl (cs:List R) (x:az) (h:Ar cs=some x):NU x=cs:=by
 unfold Ar at h;split at h
 ·simp only[An]at h;obtain⟨a,ha,b,hb,c,hc,d,hd,h⟩:=h;cases h;rw[R.aE ha,R.aE hb,R.aE hc,R.gp hd];rfl
 ·cases h
def Gm:List R->Option aA
 |[a',b',c',d',e',f',g',h',i']=>(a'.asI).bind λa=>(b'.asI).bind λb=>(c'.asI).bind λc=>(d'.asI).bind λd=>(e'.asI).bind λe=>(f'.asI).bind λf=>(g'.asI).bind λg=>(h'.asL (.int .i64)).bind λh=>(i'.asL (.int .i64)).bind λi=>some ⟨a,b,c,d,e,f,g,h,i⟩
 |_=>none
theorem I1 (cs:List R) (x:aA) (h:Gm cs=some x):Sj x=cs:=by
 unfold Gm at h;split at h
 ·simp only[An]at h;obtain⟨a,ha,b,hb,c,hc,d,hd,e,he,f,hf,g,hg,h,hh,i,hi,h⟩:=h;cases h;rw[R.aE ha,R.aE hb,R.aE hc,R.aE hd,R.aE he,R.aE hf,R.aE hg,R.gp hh,R.gp hi];rfl
 ·cases h
def Gn:List R->Option Model
 |[a',b',c',d']=>(a'.asI).bind λa=>(b'.asI).bind λb=>(c'.asI).bind λc=>(d'.asL (.st .aS)).bind λd=>some ⟨⟨a,b,c⟩,d⟩
 |_=>none
theorem I2 (cs:List R) (x:Model) (h:Gn cs=some x):Sl x=cs:=by
 unfold Gn at h;split at h
 ·simp only[An]at h;obtain⟨a,ha,b,hb,c,hc,d,hd,h⟩:=h;cases h;rw[R.aE ha,R.aE hb,R.aE hc,R.gp hd];rfl
 ·cases h
def NV:List R->Option Task
 |[a',b',c',d',e']=>(a'.asI).bind λa=>(b'.asL (.int .i64)).bind λb=>(c'.asI).bind λc=>(d'.asI).bind λd=>(e'.asI).bind λe=>some ⟨a,b,c,d,e⟩
 |_=>none
theorem Md (cs:List R) (x:Task) (h:NV cs=some x):QE x=cs:=by
 unfold NV at h;split at h
 ·simp only[An]at h;obtain⟨a,ha,b,hb,c,hc,d,hd,e,he,h⟩:=h;cases h;rw[R.aE ha,R.gp hb,R.aE hc,R.aE hd,R.aE he];rfl
 ·cases h
def uS:List R->Option Request
 |[a',b',c',d',e',f',g',h',i',j',k',l',m']=>(a'.asI).bind λa=>(b'.asI).bind λb=>(c'.asI).bind λc=>(d'.asI).bind λd=>(e'.asI).bind λe=>(f'.asL (.st .aS)).bind λf=>(g'.asI).bind λg=>(h'.asI).bind λh=>(i'.asI).bind λi=>(j'.asI).bind λj=>(k'.asL (.int .i64)).bind λk=>(l'.asI).bind λl=>(m'.asI).bind λm=>some ⟨a,b,⟨⟨⟨c,d,e⟩,f⟩,g,⟨⟨h,i,j⟩,k⟩,l⟩,m⟩
 |_=>none
theorem EA (cs:List R) (x:Request) (h:uS cs=some x):KK x=cs:=by
 unfold uS at h;split at h
 ·simp only[An]at h;obtain⟨a,ha,b,hb,c,hc,d,hd,e,he,f,hf,g,hg,h,hh,i,hi,j,hj,k,hk,l,hl,m,hm,h⟩:=h;cases h;rw[R.aE ha,R.aE hb,R.aE hc,R.aE hd,R.aE he,R.gp hf,R.aE hg,R.aE hh,R.aE hi,R.aE hj,R.gp hk,R.aE hl,R.aE hm];rfl
 ·cases h
def NW:List R->Option Step
 |[a',b',c',d',e',f',g',h']=>(a'.asI).bind λa=>(b'.asI).bind λb=>(c'.asI).bind λc=>(d'.asL (.int .u8)).bind λd=>(e'.asI).bind λe=>(f'.asI).bind λf=>(g'.asI).bind λg=>(h'.asL (.int .i64)).bind λh=>some ⟨a,b,c,d,⟨⟨e,f,g⟩,h⟩⟩
 |_=>none
theorem Me (cs:List R) (x:Step) (h:NW cs=some x):QF x=cs:=by
 unfold NW at h;split at h
 ·simp only[An]at h;obtain⟨a,ha,b,hb,c,hc,d,hd,e,he,f,hf,g,hg,h,hh,h⟩:=h;cases h;rw[R.aE ha,R.aE hb,R.aE hc,R.gp hd,R.aE he,R.aE hf,R.aE hg,R.gp hh];rfl
 ·cases h
def Gp:List R->Option Event
 |[a',b',c',d',e',f',g']=>(a'.asI).bind λa=>(b'.asI).bind λb=>(c'.asI).bind λc=>(d'.asI).bind λd=>(e'.asI).bind λe=>(f'.asI).bind λf=>(g'.asL (.int .i64)).bind λg=>some ⟨a,b,c,⟨⟨d,e,f⟩,g⟩⟩
 |_=>none
theorem I3 (cs:List R) (x:Event) (h:Gp cs=some x):Sm x=cs:=by
 unfold Gp at h;split at h
 ·simp only[An]at h;obtain⟨a,ha,b,hb,c,hc,d,hd,e,he,f,hf,g,hg,h⟩:=h;cases h;rw[R.aE ha,R.aE hb,R.aE hc,R.aE hd,R.aE he,R.aE hf,R.gp hg];rfl
 ·cases h
def Gq:List R->Option Entry
 |[a',b',c',d',e',f',g',h',i',j',k',l',m']=>(a'.asI).bind λa=>(b'.asI).bind λb=>(c'.asI).bind λc=>(d'.asI).bind λd=>(e'.asL (.st .aS)).bind λe=>(f'.asI).bind λf=>(g'.asI).bind λg=>(h'.asI).bind λh=>(i'.asL (.int .i64)).bind λi=>(j'.asI).bind λj=>(k'.asI).bind λk=>(l'.asI).bind λl=>(m'.asB).bind λm=>some ⟨a,⟨⟨b,c,d⟩,e⟩,⟨⟨f,g,h⟩,i⟩,j,k,l,m⟩
 |_=>none
theorem I4 (cs:List R) (x:Entry) (h:Gq cs=some x):Sn x=cs:=by
 unfold Gq at h;split at h
 ·simp only[An]at h;obtain⟨a,ha,b,hb,c,hc,d,hd,e,he,f,hf,g,hg,h,hh,i,hi,j,hj,k,hk,l,hl,m,hm,h⟩:=h;cases h;rw[R.aE ha,R.aE hb,R.aE hc,R.aE hd,R.gp he,R.aE hf,R.aE hg,R.aE hh,R.gp hi,R.aE hj,R.aE hk,R.aE hl,R.QG hm];rfl
 ·cases h
def NX:List R->Option Mc
 |[a',b',c']=>(a'.asI).bind λa=>(b'.asI).bind λb=>(c'.asI).bind λc=>some ⟨a,b,c⟩
 |_=>none
theorem Mf (cs:List R) (x:Mc) (h:NX cs=some x):SZ x=cs:=by
 unfold NX at h;split at h
 ·simp only[An]at h;obtain⟨a,ha,b,hb,c,hc,h⟩:=h;cases h;rw[R.aE ha,R.aE hb,R.aE hc];rfl
 ·cases h
def KL:List R->Option dY
 |[a',b',c',d',e']=>(a'.asI).bind λa=>(b'.asT).bind λb=>(c'.asI).bind λc=>(d'.asI).bind λd=>(e'.asI).bind λe=>some ⟨a,b,c,d,e⟩
 |_=>none
theorem I5 (cs:List R) (x:dY) (hq:KL cs=some x):Dl x=cs:=by
 unfold KL at hq;split at hq
 ·simp only[An]at hq;obtain⟨a,ha,b,hb,c,hc,d,hd,e,he,hq⟩:=hq;cases hq;rw[R.aE ha,R.Ez hb,R.aE hc,R.aE hd,R.aE he];rfl
 ·cases hq
def uT:List R->Option uR
 |[a',b',c',d',e',f',g',h',i',j',k',l',m']=>(a'.asI).bind λa=>(b'.asI).bind λb=>(c'.asI).bind λc=>(d'.asI).bind λd=>(e'.asI).bind λe=>(f'.asT).bind λf=>(g'.asI).bind λg=>(h'.asI).bind λh=>(i'.asI).bind λi=>(j'.asI).bind λj=>(k'.asT).bind λk=>(l'.asI).bind λl=>(m'.asI).bind λm=>some ⟨a,b,c,d,e,f,g,h,i,j,k,l,m⟩
 |_=>none
theorem CW (cs:List R) (x:uR) (hq:uT cs=some x):Aq x=cs:=by
 unfold uT at hq;split at hq
 ·simp only[An]at hq;obtain⟨a,ha,b,hb,c,hc,d,hd,e,he,f,hf,g,hg,h0,hh,i,hi,j,hj,k,hk,l,hl,m,hm,hq⟩:=hq;cases hq;rw[R.aE ha,R.aE hb,R.aE hc,R.aE hd,R.aE he,R.Ez hf,R.aE hg,R.aE hh,R.aE hi,R.aE hj,R.Ez hk,R.aE hl,R.aE hm];rfl
 ·cases hq
def S.fa:(s:S)->List R->Option s.E
 |.shape=>Gk
 |.dn=>Ar
 |.aS=>Gm
 |.model=>Gn
 |.task=>NV
 |.request=>uS
 |.step=>NW
 |.event=>Gp
 |.entry=>Gq
 |.Qw=>NX
 |.dp=>KL
 |.jf=>uT
def Ty.yG:(t:Ty)->R->Option t.El
 |.int k,.int k' n=>if k'=k then some n else none
 |.bool,.bool b=>some b
 |.str,.str l=>some l
 |.sl t,.sl t' xs=>if h:t'=t then some (h▸xs)else none
 |.tok,.tok n=>some n
 |.hl t,.sl t' xs=>if h:t'=t then some (some (h▸xs))else none
 |_,_=>none
def Ty.fa:(t:Ty)->List R->Option t.El
 |.st s,cs=>s.fa cs
 |.ho s,cs=>(s.fa cs).bind λx=>some (some x)
 |t,[r]=>t.yG r
 |_,_=>none
theorem Ty.I6 (t:Ty) (r:R) (x:t.El) (h:t.yG r=some x):t.cells x=[r]:=by
 cases t with
 |st s=>cases r<;>exact nomatch h
 |int k=>
  cases r with
  |int k' n=>
   replace h:(if k'=k then some n else none)=some x:=h
   split at h
   ·rename_i e;subst e;cases h;rfl
   ·cases h
  |_=>exact nomatch h
 |bool=>
  cases r with
  |bool b=>cases h;rfl
  |_=>exact nomatch h
 |str=>
  cases r with
  |str b=>cases h;rfl
  |_=>exact nomatch h
 |sl t=>
  cases r with
  |sl t' xs=>
   replace h:(if h:t'=t then some (h▸xs)else none)=some x:=h
   split at h
   ·rename_i e;subst e;cases h;rfl
   ·cases h
  |_=>exact nomatch h
 |tok=>
  cases r with
  |tok n=>cases h;rfl
  |_=>exact nomatch h
 |ho s=>cases r<;>exact nomatch h
 |hl t=>
  cases r with
  |sl t' xs=>
   replace h:(if h:t'=t then some (some (h▸xs))else none)=some x:=h
   split at h
   ·rename_i e;subst e;cases h;rfl
   ·cases h
  |_=>exact nomatch h
theorem S.cM (s:S) (cs:List R) (x:s.E) (h:s.fa cs=some x):s.cells x=cs:=by
 cases s
 ·exact I0 cs x h
 ·exact Gl cs x h
 ·exact I1 cs x h
 ·exact I2 cs x h
 ·exact Md cs x h
 ·exact EA cs x h
 ·exact Me cs x h
 ·exact I3 cs x h
 ·exact I4 cs x h
 ·exact Mf cs x h
 ·exact I5 cs x h
 ·exact CW cs x h
theorem Ty.cM (t:Ty) (cs:List R) (x:t.El) (h:t.fa cs=some x):t.cells x=cs:=by
 cases t with
 |st s=>exact S.cM s cs x h
 |ho s=>
  replace h:(s.fa cs).bind (λx=>some (some x))=some x:=h
  obtain⟨y,hy,e⟩:=An.1 h;cases e
  exact S.cM s cs y hy
 |_=>
  match cs,h with
  |[r],h=>exact Ty.I6 _ r x h
end
section
inductive SV where
 |r (d:List Nat) (x:R)
 |cF
 |qZ
 |own (i:Nat)
 |sub (i off len:Nat)
 |bsl (i n:Nat)
 |ptr (i idx off:Nat)
 |inn (i x c:Nat)
 |lB (d:List Nat) (cs:List R)
 |agg (cs:List SV)
 |tup (vs:List SV)
 |fn (f:Fn) (first cap:List SV)
 |undef
abbrev SV.i (n:Int):SV:=.r [] (.int .i64 n)
abbrev SV.b (b:Bool):SV:=.r [] (.bool b)
inductive Blk where
 |box (cs:List SV)
 |arr (sh:Option (List Nat)) (t:Ty) (xs:List t.El)
abbrev aM:=List (Nat× Blk)
structure St where
 cJ:List (Nat× SV)
 heap:aM
 nid:Nat
 n:Nat
 gh:List (Option Nat):=[]
def look {α:Type}:List (Nat× α)->Nat->Option α
 |[],_=>none
 |(k,v)::l,n=>cond (Nat.beq k n) (some v) (look l n)
def put {α:Type}:List (Nat× α)->Nat->α->List (Nat× α)
 |[],n,v=>[(n,v)]
 |(k,u)::l,n,v=>cond (Nat.beq k n) ((k,v)::l) ((k,u)::put l n v)
def idx {α:Type} (xs:List α) (i:Int):Option α:=cond (decide (0<=i)) xs[i.toNat]? none
def mem (i:Nat):List Nat->Bool
 |[]=>false
 |k::l=>cond (Nat.beq k i) true (mem i l)
def hit (T:List Nat):List Nat->Bool
 |[]=>false
 |k::l=>cond (mem k T) true (hit T l)
abbrev Kil:=List Nat× List Nat
mutual
def SV.aP (T:Kil):SV->SV
 |.r d x=>cond (hit T.2 d) .undef (.r d x)
 |.own j=>cond (mem j T.1) .undef (.own j)
 |.sub j o n=>cond (mem j T.1) .undef (.sub j o n)
 |.bsl j n=>cond (mem j T.1) .undef (.bsl j n)
 |.ptr j x o=>cond (mem j T.1) .undef (.ptr j x o)
 |.inn j x c=>cond (mem j T.1||mem j T.2) .undef (.inn j x c)
 |.lB d cs=>cond (hit T.2 d) .undef (.lB d cs)
 |.agg cs=>.agg (iU T cs)
 |.tup cs=>.tup (iU T cs)
 |.fn f a b=>.fn f (iU T a) (iU T b)
 |.cF=>.cF
 |.qZ=>.qZ
 |.undef=>.undef
def iU (T:Kil):List SV->List SV
 |[]=>[]
 |v::l=>v.aP T::iU T l
end
def Blk.aP (T:Kil):Blk->Option Blk
 |.box cs=>some (.box (iU T cs))
 |.arr none t xs=>some (.arr none t xs)
 |.arr (some d) t xs=>cond (hit T.2 d) none (some (.arr (some d) t xs))
def As (T:Kil):aM->Option aM
 |[]=>some []
 |(k,b)::l=>cond (mem k T.1) (As T l) ((b.aP T).bind λb=>(As T l).bind λl=>some ((k,b)::l))
def KM (T:Kil):List (Nat× SV)->List (Nat× SV)
 |[]=>[]
 |(k,v)::l=>(k,v.aP T)::KM T l
def jg (T:Kil) (h:aM):Option aM:=
 match T.2 with
 |[]=>some h
 |_=>As T h
def pO (T:Kil) (s:List (Nat× SV)):List (Nat× SV):=
 match T.2 with
 |[]=>s
 |_=>KM T s
def SV.list (h:aM) (t:Ty):SV->Option (List Nat× List t.El)
 |.r d x=>(x.asL t).bind λxs=>some (d,xs)
 |.cF=>some ([],[])
 |.own i=>match look h i with
  |some (.arr sh t' xs)=>if e:t'=t then some (i::sh.getD [],e▸xs)else none
  |_=>none
 |.sub i o n=>match look h i with
  |some (.arr sh t' xs)=>if e:t'=t then some (i::sh.getD [],((e▸xs).drop o).take n)else none
  |_=>none
 |_=>none
def SV.asInt (k:IntKind):SV->Option Int
 |.r _ (.int k' n)=>cond (decide (k'=k)) (some n) none
 |_=>none
def SV.asI:SV->Option Int
 |.r _ (.int _ n)=>some n
 |_=>none
def SV.asB:SV->Option Bool
 |.r _ (.bool b)=>some b
 |_=>none
def SV.asR (h:aM) (t:Ty) (v:SV):Option (List Nat× R):=
 match t with
 |.sl t'=>(v.list h t').bind λp=>some (p.1,.sl t' p.2)
 |.st _=>none
 |.tok=>match v with
  |.r d (.tok n)=>some (d,.tok n)
  |.cF=>some ([],.tok 0)
  |_=>none
 |_=>match v with
  |.r d x=>some (d,x)
  |_=>none
def S.tys:S->List Ty
 |.shape=>[.int .i64,.int .i64,.int .i64]
 |.dn=>[.int .i64,.int .i64,.int .i64,.sl (.int .i64)]
 |.aS=>[.int .i64,.int .i64,.int .i64,.int .i64,.int .i64,.int .i64,.int .i64,.sl (.int .i64),.sl (.int .i64)]
 |.model=>[.int .i64,.int .i64,.int .i64,.sl (.st .aS)]
 |.task=>[.int .i64,.sl (.int .i64),.int .i64,.int .i64,.int .i64]
 |.request=>[.int .i64,.int .i64,.int .i64,.int .i64,.int .i64,.sl (.st .aS),.int .i64,.int .i64,.int .i64,.int .i64,.sl (.int .i64),.int .i64,.int .i64]
 |.step=>[.int .i64,.int .i64,.int .i64,.sl (.int .u8),.int .i64,.int .i64,.int .i64,.sl (.int .i64)]
 |.event=>[.int .i64,.int .i64,.int .i64,.int .i64,.int .i64,.int .i64,.sl (.int .i64)]
 |.entry=>[.int .i64,.int .i64,.int .i64,.int .i64,.sl (.st .aS),.int .i64,.int .i64,.int .i64,.sl (.int .i64),.int .i64,.int .i64,.int .i64,.bool]
 |.Qw=>[.int .i64,.int .i64,.int .i64]
 |.dp=>[.int .i64,.tok,.int .i64,.int .i64,.int .i64]
 |.jf=>[.int .i64,.int .i64,.int .i64,.int .i64,.int .i64,.tok,.int .i64,.int .i64,.int .i64,.int .i64,.tok,.int .i64,.int .i64]
def Ty.tys:Ty->List Ty
 |.st s=>s.tys
 |.ho s=>s.tys
 |.hl t=>[.sl t]
 |t=>[t]
def NK (h:aM):List Ty->List SV->Option (List Nat× List R)
 |[],[]=>some ([],[])
 |t::ts,v::vs=>(v.asR h t).bind λp=>(NK h ts vs).bind λq=>some (p.1++q.1,p.2::q.2)
 |_,_=>none
def VI (h:aM) (t:Ty) (vs:List SV):Option (List Nat× t.El):=
 (NK h t.tys vs).bind λp=>(t.fa p.2).bind λx=>some (p.1,x)
def SV.cells:SV->Option (List SV)
 |.agg cs=>some cs
 |.tup _=>none
 |.undef=>none
 |v=>some [v]
mutual
def SV.ids:SV->List Nat
 |.own i=>[i]
 |.sub i _ _=>[i]
 |.bsl i _=>[i]
 |.ptr i _ _=>[i]
 |.agg cs=>Mg cs
 |.tup cs=>Mg cs
 |.fn _ a b=>Mg a++Mg b
 |_=>[]
def Mg:List SV->List Nat
 |[]=>[]
 |v::l=>v.ids++Mg l
end
def qO:List Nat->List Nat->List Nat
 |acc,[]=>acc
 |acc,i::l=>cond (mem i acc) (qO acc l) (qO (acc++[i]) l)
def Sp (h:aM):List Nat->List Nat
 |[]=>[]
 |i::l=>(match look h i with
  |some (.box cs)=>Mg cs
  |_=>[])++Sp h l
def reach (h:aM):Nat->List Nat->List Nat
 |0,L=>L
 |n+1,L=>reach h n (qO L (Sp h L))
def wL:Value->Option SV
 |.bool b=>some (.b b)
 |.int k n=>some (.r [] (.int k n))
 |.string s=>some (.r [] (.str s.data.toList))
 |.slice none 0 0=>some .cF
 |.pointer none=>some .qZ
 |_=>none
def Dm:List Value->Option (List SV)
 |[]=>some []
 |v::l=>(wL v).bind λx=>(Dm l).bind λxs=>some (x::xs)
def KN:Value->Option SV
 |.agg cs=>(Dm cs.toList).bind λl=>some (.agg l)
 |v=>wL v
def opd (cJ:List (Nat× SV)):Operand->Option SV
 |.tmp t=>look cJ t
 |.const v=>KN v
 |.func f=>some (.fn (.func f) [] [])
 |.global _=>none
def tX (cJ:List (Nat× SV)):List Operand->Option (List SV)
 |[]=>some []
 |x::l=>(opd cJ x).bind λv=>(tX cJ l).bind λvs=>some (v::vs)
end
section
abbrev TT:=TypeId->Option Ty
def aG:Nat:=2^38
def Au (P:Program) (T:TypeId):Bool:=
 match P.underlying T with
 |some (.struct _)=>true
 |some (.array _ _)=>true
 |_=>false
def mF (P:Program) (T:TypeId):Option TypeId:=
 match P.underlying T with
 |some (.slice e)=>some e
 |_=>none
def wM (P:Program) (T:TypeId) (f:Nat):Option Field:=
 match P.underlying T with
 |some (.struct fs)=>(fs[f]?).bind λf=>(P.info? f.type).bind λi=>cond (Nat.beq i.size 0) none (some f)
 |_=>none
def jh (P:Program) (T:TypeId):Option Nat:=(P.info? T).bind λi=>some i.size
def uU (P:Program):List Field->Option (List (Nat× Nat))
 |[]=>some []
 |f::fs=>(jh P f.type).bind λs=>(uU P fs).bind λl=>some ((f.offset,s)::l)
def takeN {α:Type} (n:Nat) (l:List α):Option (List α):=cond (Nat.ble n l.length) (some (l.take n)) none
def ji (P:Program) (T:TypeId) (cs:List SV):Option SV:=
  (P.underlying T).bind λ_=>(P.info? T).bind λi=>(takeN i.size cs).bind λl=>
    cond (Au P T) (some (.agg l)) (match l with|[v]=>some v|_=>none)
def mkR (d:List Nat):R->SV
 |.sl t xs=>.r d (.sl t xs)
 |x=>.r [] x
def NY (i:Nat):Option (List Nat)->List Nat
 |none=>[i]
 |some d=>d
def mG (h:aM):SV->Option (List SV)
 |.lB d cs=>some (cs.map (mkR d))
 |.ptr i x o=>match look h i with
  |some (.box cs)=>some (cs.drop o)
  |some (.arr sh t xs)=>(xs[x]?).bind λe=>some (((t.cells e).map (mkR (NY i sh))).drop o)
  |_=>none
 |_=>none
def gv (P:Program) (T:TypeId):Option (List SV):=
 (P.info? T).bind λi=>i.zero.bind λz=>(KN z).bind λv=>v.cells
def qP (place:Nat->Option (Nat× Nat)):List SV->List (Nat× SV)->Option (List SV)
 |cs,[]=>some cs
 |cs,(k,v)::l=>(place k).bind λp=>v.cells.bind λvs=>
   cond (Nat.beq vs.length p.2) (cond (Nat.ble (p.1+vs.length) cs.length) (qP place (cs.take p.1++vs++cs.drop (p.1+vs.length)) l) none) none
def Ur (op:BinOp) (k:IntKind) (a b:Int):Option R:=
 match op with
 |.add=>some (.int k (k.wrap (a+b)))
 |.sub=>some (.int k (k.wrap (a-b)))
 |.mul=>some (.int k (k.wrap (a*b)))
 |.quo=>cond (decide (b=0)) none (some (.int k (k.wrap (a.tdiv b))))
 |.rem=>cond (decide (b=0)) none (some (.int k (a.tmod b)))
 |.and=>some (.int k (k.wrap (BitVec.ofInt k.bits a&&& BitVec.ofInt k.bits b).toNat))
 |.or=>some (.int k (k.wrap (BitVec.ofInt k.bits a||| BitVec.ofInt k.bits b).toNat))
 |.xor=>some (.int k (k.wrap (BitVec.ofInt k.bits a^^^ BitVec.ofInt k.bits b).toNat))
 |.eql=>some (.bool (a==b))
 |.neq=>some (.bool (a !=b))
 |.lss=>some (.bool (decide (a<b)))
 |.leq=>some (.bool (decide (a<=b)))
 |.gtr=>some (.bool (decide (a>b)))
 |.geq=>some (.bool (decide (a>=b)))
 |_=>none
def Gr (op:BinOp) (k:IntKind) (a b:Int):Option R:=
  cond (decide (b<0)) none
    (match op with
     |.shl=>some (.int k (k.wrap (a*2^(min b.toNat k.bits))))
     |.shr=>some (.int k (a.fdiv (2^(min b.toNat k.bits))))
     |_=>none)
def UB (op:BinOp) (a b:List UInt8):Option R:=
 match op with
 |.add=>cond (decide (a.length+b.length<=aG)) (some (.str (a++b))) none
 |.eql=>some (.bool (a==b))
 |.neq=>some (.bool (!(a==b)))
 |.lss=>some (.bool (Op.bytesLess a b))
 |.leq=>some (.bool (Op.bytesLess a b||a==b))
 |.gtr=>some (.bool (!(Op.bytesLess a b||a==b)))
 |.geq=>some (.bool (!(Op.bytesLess a b)))
 |_=>none
def QH (P:Program) (xs ys:List SV):List Field->Option Bool
 |[]=>some true
 |f::fs=>cond (decide (f.name= "_")) none (match P.underlying f.type,xs[f.offset]?,ys[f.offset]? with
  |some (.int _),some (.r _ (.int k a)),some (.r _ (.int l b))=>cond (decide (k=l)) ((QH P xs ys fs).bind λt=>some (cond (a==b) t false)) none
  |_,_,_=>none)
def UC (P:Program) (T:TypeId) (xs ys:List SV):Option Bool:=
 cond (P.stoodInHeld T) none (cond (P.eqGuardType P.depth T) none (match P.underlying T with
  |some (.struct fs)=>QH P xs ys fs.toList
  |_=>none))
def NZ:BinOp->Bool
 |.shl|.shr=>true
 |_=>false
def isEq:BinOp->Option Bool
 |.eql=>some true
 |.neq=>some false
 |_=>none
def bin (P:Program) (T:TypeId) (op:BinOp) (x y:SV):Option SV:=
 match x,y with
 |.r _ (.int k a),.r _ (.int l b)=>cond (NZ op) ((Gr op k a b).bind λr=>some (.r [] r)) (cond (decide (k=l)) ((Ur op k a b).bind λr=>some (.r [] r)) none)
 |.r _ (.str a),.r _ (.str b)=>(UB op a b).bind λr=>some (.r [] r)
 |.r _ (.bool a),.r _ (.bool b)=>match P.underlying T with
  |some .bool=>(isEq op).bind λe=>some (.b (cond e (a==b) (!(a==b))))
  |_=>none
 |.agg a,.agg b=>(isEq op).bind λe=>(UC P T a b).bind λt=>some (.b (cond e t (!t)))
 |_,_=>none
def un (op:UnOp) (x:SV):Option SV:=
 match op,x with
 |.neg,.r _ (.int k n)=>some (.r [] (.int k (k.wrap (0-n))))
 |.not,.r _ (.bool b)=>some (.b (!b))
 |_,_=>none
def lenOf (h:aM):SV->Option Nat
 |.r _ (.str l)=>some l.length
 |.r _ (.sl _ xs)=>some xs.length
 |.cF=>some 0
 |.own i=>match look h i with
  |some (.arr _ _ xs)=>some xs.length
  |_=>none
 |.sub _ _ n=>some n
 |.bsl _ n=>some n
 |_=>none
def VJ (P:Program) (T:TypeId):SV->Bool
 |.r _ (.str _)=>match P.underlying T with
  |some .string=>true
  |_=>false
 |_=>match P.underlying T with
  |some (.slice _)=>true
  |_=>false
def bounds (n:Nat) (lo hi:Option SV):Option (Nat× Nat):=
  (match hi with
   |none=>some n
   |some v=>v.asI.bind λx=>cond (decide (0<=x/\x<=(n:Int))) (some x.toNat) none).bind λh=>
  (match lo with
   |none=>some 0
   |some v=>v.asI.bind λx=>cond (decide (0<=x/\x<=(h:Int))) (some x.toNat) none).bind λl=>some (l,h)
def slT (P:Program) (T:TypeId) (t:Ty):Bool:=
 match P.underlying T with
 |some (.slice e)=>match jh P e with
  |some n=>Nat.beq n t.sz
  |none=>false
 |_=>false
def KO (P:Program) (T:TypeId):Bool:=
 match P.underlying T with
 |some (.slice e)=>(jh P e).isSome
 |_=>false
def isStr (P:Program) (T:TypeId):Bool:=
 match P.underlying T with
 |some .string=>true
 |_=>false
def V2 (n m:Nat):Option SV->Nat
 |none=>n
 |some _=>m
def jU (P:Program) (T:TypeId) (h:aM) (x:SV) (lo hi:Option SV):Option SV:=
 match x with
 |.r d (.str l)=>cond (isStr P T) ((bounds l.length lo hi).bind λb=>some (.r d (.str ((l.take b.2).drop b.1)))) none
 |.r d (.sl t xs)=>cond (slT P T t) ((bounds xs.length lo hi).bind λb=>some (.r d (.sl t ((xs.take b.2).drop b.1)))) none
 |.cF=>cond (KO P T) ((bounds 0 lo hi).bind λ_=>some .cF) none
 |.own i=>match look h i with
  |some (.arr _ t xs)=>cond (slT P T t) ((bounds xs.length lo hi).bind λb=>some (.sub i b.1 (b.2-b.1))) none
  |_=>none
 |.sub i o n=>match look h i with
  |some (.arr _ t xs)=>cond (slT P T t) ((bounds (V2 n (xs.length-o) hi) lo hi).bind λb=>some (.sub i (o+b.1) (b.2-b.1))) none
  |_=>none
 |_=>none
def slN (P:Program) (T:TypeId) (h:aM) (x:SV):Option Nat:=
 match x with
 |.r _ (.sl t xs)=>cond (slT P T t) (some xs.length) none
 |.own i=>match look h i with
  |some (.arr _ t xs)=>cond (slT P T t) (some xs.length) none
  |_=>none
 |_=>none
def zK (P:Program) (T:TypeId) (h:aM) (x:SV) (lo:Option SV) (hi m:SV):Option SV:=
 (slN P T h x).bind λn=>m.asI.bind λz=>cond (decide (0<=z/\z<=(n:Int))) ((bounds z.toNat lo (some hi)).bind λ_=>some .undef) none
def bZ (P:Program) (T:TypeId) (h:aM) (x:SV) (k:Int):Option SV:=
 match x with
 |.r d (.sl t xs)=>cond (slT P T t) ((idx xs k).bind λe=>some (.lB d (t.cells e))) none
 |.own i=>match look h i with
  |some (.arr _ t xs)=>cond (slT P T t) (cond (decide (0<=k/\k<(xs.length:Int))) (some (.ptr i k.toNat 0)) none) none
  |_=>none
 |.sub i o n=>match look h i with
  |some (.arr _ t _)=>cond (slT P T t) (cond (decide (0<=k/\k<(n:Int))) (some (.ptr i (o+k.toNat) 0)) none) none
  |_=>none
 |.bsl i n=>(mF P T).bind λe=>(jh P e).bind λsz=>cond (decide (0<=k/\k<(n:Int))) (some (.ptr i 0 (k.toNat*sz))) none
 |_=>none
def N0 (P:Program) (src dst:TypeId) (x:SV):Option SV:=
 match P.underlying src,P.underlying dst,x with
 |some (.int _),some (.int k),.r _ (.int _ n)=>some (.r [] (.int k (k.wrap n)))
 |some .string,some .string,.r _ (.str l)=>some (.r [] (.str l))
 |_,_,_=>none
def yH (P:Program) (T:TypeId):Bool:=
 match mF P T with
 |some e=>match P.underlying e with
  |some (.int .u8)=>true
  |_=>false
 |none=>false
def bytesOf (l:List Int):List UInt8:=l.map λn=>UInt8.ofNat n.toNat
def Qx (cJ:List (Nat× SV)):Option Operand->Option (Option SV)
 |none=>some none
 |some x=>(opd cJ x).bind λv=>some (some v)
def ra (cJ:List (Nat× SV)):List (Nat× Operand)->Option (List (Nat× SV))
 |[]=>some []
 |(k,x)::l=>(opd cJ x).bind λv=>(ra cJ l).bind λvs=>some ((k,v)::vs)
def ik (P:Program) (s:List (Nat× SV)) (h:aM) (op:Op):Option SV:=
 match op with
 |.move x|.assign x=>opd s x
 |.pick c a b=>(opd s c).bind λc=>c.asB.bind λc=>cond c (opd s a) (opd s b)
 |.build T parts=>
  match P.underlying T with
  |some (.struct fs)=>(uU P fs.toList).bind λpl=>(gv P T).bind λz=>(ra s parts.toList).bind λps=>
   (qP (λk=>pl[k]?) z ps).bind λcs=>some (.agg cs)
  |_=>none
 |.load T a=>(opd s a).bind λa=>(mG h a).bind λcs=>ji P T cs
 |.nilCheck x=>(opd s x).bind λv=>match v with
  |.ptr i x o=>some (.ptr i x o)
  |.lB d cs=>some (.lB d cs)
  |_=>none
 |.binOp op T x y _=>(opd s x).bind λx=>(opd s y).bind λy=>bin P T op x y
 |.unOp op _ x=>(opd s x).bind λx=>un op x
 |.convert src dst x=>(opd s x).bind λx=>cond (yH P src&&isStr P dst) ((x.list h (.int .u8)).bind λp=>some (.r [] (.str (bytesOf p.2)))) (N0 P src dst x)
 |.makeFunc fn first cap=>(tX s first.toList).bind λa=>(tX s cap.toList).bind λb=>some (.fn fn a b)
 |.slice T x lo hi none=>(opd s x).bind λx=>(Qx s lo).bind λlo=>(Qx s hi).bind λhi=>jU P T h x lo hi
 |.slice T x lo (some hi) (some m)=>(opd s x).bind λx=>(Qx s lo).bind λlo=>(opd s hi).bind λhi=>(opd s m).bind λm=>zK P T h x lo hi m
 |.fieldAddr T x f=>(opd s x).bind λx=>(wM P T f).bind λf=>match x with
  |.lB d cs=>some (.lB d (cs.drop f.offset))
  |.ptr i k o=>some (.ptr i k (o+f.offset))
  |_=>none
 |.field T x f=>(opd s x).bind λx=>(wM P T f).bind λf=>match x with
  |.agg cs=>ji P f.type (cs.drop f.offset)
  |_=>none
 |.indexAddr T x k=>(opd s x).bind λx=>(opd s k).bind λk=>k.asI.bind λk=>bZ P T h x k
 |.index T x k=>(opd s x).bind λx=>(opd s k).bind λk=>k.asI.bind λk=>match x with
  |.r _ (.str l)=>cond (isStr P T) ((idx l k).bind λc=>some (.r [] (.int .u8 c.toNat))) none
  |_=>none
 |.extract x k=>(opd s x).bind λx=>match x with
  |.tup vs=>vs[k]?
  |_=>none
 |.call {callee:=.builtin .len,args,argTypes}=>(tX s args.toList).bind λvs=>match vs,argTypes.toList with
  |[v],T::_=>cond (VJ P T v) ((lenOf h v).bind λn=>some (.i n)) none
  |_,_=>none
 |.call {callee:=.builtin .cap,args,argTypes}=>(tX s args.toList).bind λvs=>match vs,argTypes.toList with
  |[.cF],T::_=>cond (KO P T) (some (.i 0)) none
  |_,_=>none
 |.call {callee:=.builtin .min,args,.. }=>(tX s args.toList).bind λvs=>match vs with
  |[.r _ (.int k a),.r _ (.int _ b)]=>some (.r [] (.int k (if b<a then b else a)))
  |[.r _ (.int k a),.r _ (.int _ b),.r _ (.int _ c)]=>some (.r [] (.int k (if c<(if b<a then b else a)then c else(if b<a then b else a))))
  |_=>none
 |.call {callee:=.builtin .max,args,.. }=>(tX s args.toList).bind λvs=>match vs with
  |[.r _ (.int k a),.r _ (.int _ b)]=>some (.r [] (.int k (if b>a then b else a)))
  |_=>none
 |_=>none
def EB {α:Type} (h:aM) (v:SV) (K:List SV->Option α):Option α:=
 match v with
 |.lB d cs=>K (cs.map (mkR d))
 |.ptr i x o=>match look h i with
  |some (.box cs)=>K (cs.drop o)
  |some (.arr sh t xs)=>(xs[x]?).bind λe=>K (((t.cells e).map (mkR (NY i sh))).drop o)
  |_=>none
 |_=>none
def S0 {α:Type} (op:BinOp) (k:IntKind) (a b:Int) (K:R->Option α):Option α:=
 match op with
 |.quo=>cond (decide (b=0)) none (K (.int k (k.wrap (a.tdiv b))))
 |.rem=>cond (decide (b=0)) none (K (.int k (a.tmod b)))
 |op=>(Ur op k a b).bind K
def I7 {α:Type} (op:BinOp) (k:IntKind) (a b:Int) (K:R->Option α):Option α:=
  cond (decide (b<0)) none
    (match op with
     |.shl=>K (.int k (k.wrap (a*2^(min b.toNat k.bits))))
     |.shr=>K (.int k (a.fdiv (2^(min b.toNat k.bits))))
     |_=>none)
def S1 {α:Type} (op:BinOp) (a b:List UInt8) (K:R->Option α):Option α:=
 match op with
 |.add=>cond (decide (a.length+b.length<=aG)) (K (.str (a++b))) none
 |op=>(UB op a b).bind K
def V3 {α:Type} (P:Program) (T:TypeId) (op:BinOp) (x y:SV) (K:SV->Option α):Option α:=
 match x,y with
 |.r _ (.int k a),.r _ (.int l b)=>cond (NZ op) (I7 op k a b λr=>K (.r [] r)) (cond (decide (k=l)) (S0 op k a b λr=>K (.r [] r)) none)
 |.r _ (.str a),.r _ (.str b)=>S1 op a b λr=>K (.r [] r)
 |x,y=>(bin P T op x y).bind K
def rb {α:Type} (n:Nat) (lo hi:Option SV) (K:Nat->Nat->Option α):Option α:=
 let lower (h:Nat):Option α:=match lo with
  |none=>K 0 h
  |some v=>v.asI.bind λx=>cond (decide (0<=x/\x<=(h:Int))) (K x.toNat h) none
 match hi with
 |none=>lower n
 |some v=>v.asI.bind λx=>cond (decide (0<=x/\x<=(n:Int))) (lower x.toNat) none
def N1 {α:Type} (P:Program) (T:TypeId) (h:aM) (x:SV) (lo hi:Option SV) (K:SV->Option α):Option α:=
 match x with
 |.r d (.str l)=>cond (isStr P T) (rb l.length lo hi λa b=>K (.r d (.str ((l.take b).drop a)))) none
 |.r d (.sl t xs)=>cond (slT P T t) (rb xs.length lo hi λa b=>K (.r d (.sl t ((xs.take b).drop a)))) none
 |.cF=>cond (KO P T) (rb 0 lo hi λ_ _=>K .cF) none
 |.own i=>match look h i with
  |some (.arr _ t xs)=>cond (slT P T t) (rb xs.length lo hi λa b=>K (.sub i a (b-a))) none
  |_=>none
 |.sub i o n=>match look h i with
  |some (.arr _ t xs)=>cond (slT P T t) (rb (V2 n (xs.length-o) hi) lo hi λa b=>K (.sub i (o+a) (b-a))) none
  |_=>none
 |_=>none
def wN {α:Type} (P:Program) (T:TypeId) (h:aM) (x:SV) (k:Int) (K:SV->Option α):Option α:=
 match x with
 |.r d (.sl t xs)=>cond (slT P T t) ((idx xs k).bind λe=>K (.lB d (t.cells e))) none
 |.own i=>match look h i with
  |some (.arr _ t xs)=>cond (slT P T t) (cond (decide (0<=k/\k<(xs.length:Int))) (K (.ptr i k.toNat 0)) none) none
  |_=>none
 |.sub i o n=>match look h i with
  |some (.arr _ t _)=>cond (slT P T t) (cond (decide (0<=k/\k<(n:Int))) (K (.ptr i (o+k.toNat) 0)) none) none
  |_=>none
 |x=>(bZ P T h x k).bind K
def Gs {α:Type} (P:Program) (T:TypeId) (h:aM) (x:SV) (lo:Option SV) (hi m:SV) (K:SV->Option α):Option α:=
 (slN P T h x).bind λn=>m.asI.bind λz=>cond (decide (0<=z/\z<=(n:Int))) (rb z.toNat lo (some hi) λ_ _=>K .undef) none
def pP {α:Type} (P:Program) (s:List (Nat× SV)) (h:aM) (op:Op) (K:SV->Option α):Option α:=
 match op with
 |.load T a=>(opd s a).bind λa=>EB h a λcs=>(ji P T cs).bind K
 |.binOp op T x y _=>(opd s x).bind λx=>(opd s y).bind λy=>V3 P T op x y K
 |.slice T x lo hi none=>(opd s x).bind λx=>(Qx s lo).bind λlo=>(Qx s hi).bind λhi=>N1 P T h x lo hi K
 |.slice T x lo (some hi) (some m)=>(opd s x).bind λx=>(Qx s lo).bind λlo=>(opd s hi).bind λhi=>(opd s m).bind λm=>Gs P T h x lo hi m K
 |.indexAddr T x k=>(opd s x).bind λx=>(opd s k).bind λk=>k.asI.bind λk=>wN P T h x k K
 |.index T x k=>(opd s x).bind λx=>(opd s k).bind λk=>k.asI.bind λk=>match x with
  |.r _ (.str l)=>cond (isStr P T) ((idx l k).bind λc=>K (.r [] (.int .u8 c.toNat))) none
  |_=>none
 |op=>(ik P s h op).bind K
theorem fW {α β:Type} (b:Bool) (x y:Option α) (K:α->Option β):(cond b x y).bind K=cond b (x.bind K) (y.bind K):=by cases b<;>rfl
theorem I8 {α:Type} (h:aM) (v:SV) (K:List SV->Option α):EB h v K=(mG h v).bind K:=by
 unfold EB mG;grind
theorem QI {α:Type} (op:BinOp) (k:IntKind) (a b:Int) (K:R->Option α):S0 op k a b K=(Ur op k a b).bind K:=by
 unfold S0;split
 ·show _=(cond _ none (some _)).bind K;rw[fW];rfl
 ·show _=(cond _ none (some _)).bind K;rw[fW];rfl
 ·rfl
theorem Mh {α:Type} (op:BinOp) (k:IntKind) (a b:Int) (K:R->Option α):I7 op k a b K=(Gr op k a b).bind K:=by
 unfold I7 Gr;grind
theorem QJ {α:Type} (op:BinOp) (a b:List UInt8) (K:R->Option α):S1 op a b K=(UB op a b).bind K:=by
 unfold S1;split
 ·show _=(cond _ (some _) none).bind K;rw[fW];rfl
 ·rfl
theorem S2 {α:Type} (P:Program) (T:TypeId) (op:BinOp) (x y:SV) (K:SV->Option α):V3 P T op x y K=(bin P T op x y).bind K:=by
 unfold V3;split
 ·simp only[bin,fW,Mh,QI,Yi,XC,Yg]
 ·simp only[bin,QJ,Yi,XC]
 ·rfl
theorem mn {α:Type} (n:Nat) (lo hi:Option SV) (K:Nat->Nat->Option α):rb n lo hi K=(bounds n lo hi).bind λb=>K b.1 b.2:=by
 unfold rb bounds;cases hi<;>cases lo<;>simp only[Yi,XC,fW,Yg]
theorem N2 {α:Type} (P:Program) (T:TypeId) (h:aM) (x:SV) (lo hi:Option SV) (K:SV->Option α):N1 P T h x lo hi K=(jU P T h x lo hi).bind K:=by
 unfold N1 jU;split
 ·simp only[fW,mn,Yi,XC,Yg]
 ·simp only[fW,mn,Yi,XC,Yg]
 ·simp only[fW,mn,Yi,XC,Yg]
 ·split
  ·simp only[fW,mn,Yi,XC,Yg]
  ·rfl
 ·split
  ·simp only[fW,mn,Yi,XC,Yg]
  ·rfl
 ·rfl
theorem EC {α:Type} (P:Program) (T:TypeId) (h:aM) (x:SV) (k:Int) (K:SV->Option α):wN P T h x k K=(bZ P T h x k).bind K:=by
 unfold wN;split
 ·simp only[bZ,fW,Yi,XC,Yg]
 ·simp only[bZ];grind
 ·simp only[bZ];grind
 ·rfl
theorem pQ {α:Type} (P:Program) (s:List (Nat× SV)) (h:aM) (op:Op) (K:SV->Option α):pP P s h op K=(ik P s h op).bind K:=by
 unfold pP;split
 ·simp only[ik,I8,Yi]
 ·simp only[ik,S2,Yi]
 ·simp only[ik,N2,Yi]
 ·simp only[ik,Gs,zK,mn,Yi,fW,XC,Yg]
 ·simp only[ik,EC,Yi]
 ·simp only[ik,Yi];grind
 ·rfl
structure CR where
 v:SV
 news:List Blk:=[]
 upd:aM:=[]
 gone:List Nat:=[]
 mH:List Nat:=[]
def CR.kil (c:CR):Kil:=(c.gone,c.gone++c.mH)
abbrev Out:=SV× List Blk
abbrev Orc:=(ρ:Type)->Nat->List SV->aM->(CR->Option ρ)->Option ρ
def UD:Orc:=λ_ _ _ _ _=>none
def aN:Nat->List Blk->aM
 |_,[]=>[]
 |n,b::l=>(n,b)::aN (n+1) l
inductive Co where
 |mI (sh:Bool) (t:Ty)
 |ro (t:Ty)
 |drop
 |dep (j:Nat)
 |QK (t j:Nat)
inductive iG where
 |slot (t:Nat)
 |cell (t j:Nat)
 |box (i j:Nat)
 |Mi (t j:Nat)
 |gh (k:Nat)
def coV (n:Nat) (h:aM):Co->SV->SV× List Blk
 |.mI sh t,.cF=>(.own n,[.arr (cond sh (some []) none) t []])
 |.ro t,v=>match v.list h t with
  |some p=>(.r p.1 (.sl t p.2),[])
  |none=>(v,[])
 |.drop,_=>(.undef,[])
 |.dep j,.r d x=>(.r (cond (mem j d) d (d++[j])) x,[])
 |_,v=>(v,[])
def QL (st:St) (i j:Nat) (c:Co):St:=
 match look st.heap i with
 |some (.box cs)=>match cs[j]? with
  |some v=>{st with heap:=put (st.heap++aN st.nid (coV st.nid st.heap c v).2) i (.box (cs.set j (coV st.nid st.heap c v).1)),nid:=st.nid+(coV st.nid st.heap c v).2.length}
  |none=>st
 |_=>st
def Gt (st:St):iG× Co->St
  | (.slot t, c) => match look st.cJ t with
    |some v=>{st with cJ:=put st.cJ t (coV st.nid st.heap c v).1,heap:=st.heap++aN st.nid (coV st.nid st.heap c v).2,nid:=st.nid+(coV st.nid st.heap c v).2.length}
    |none=>st
  | (.cell t j, c) => match look st.cJ t with
    | some (.agg cs) => match cs[j]? with
      |some v=>{st with cJ:=put st.cJ t (.agg (cs.set j (coV st.nid st.heap c v).1)),heap:=st.heap++aN st.nid (coV st.nid st.heap c v).2,nid:=st.nid+(coV st.nid st.heap c v).2.length}
      |none=>st
    |_=>st
  |(.box i j,c)=>QL st i j c
  | (.Mi t j, c) => match look st.cJ t with
    |some (.ptr i _ _)=>QL st i j c
    |_=>st
  |(.gh k,_)=>{st with gh:=st.gh.set k none}
def V4 (st:St):Co->Co
 |.QK t j=>match look st.cJ t with
  |some (.ptr i _ _)=>match look st.heap i with
   |some (.box cs)=>match cs[j]? with
    |some (.own k)=>.dep k
    |_=>.dep 0
   |_=>.dep 0
  |_=>.dep 0
 |c=>c
def UE (st:St) (x:iG× Co):St:=Gt st (x.1,V4 st x.2)
def N3:List (iG× Co)->St->St
 |[],st=>st
 |x::l,st=>N3 l (UE st x)
structure Env where
 P:Program
 tt:TT
 orc:FuncId->Orc
 wr:FuncId->Bool:=λ_=>false
 wt:Bool:=false
 inn:Bool:=false
 fz:Nat->List (Bool× Nat× List Nat):=λ_=>[]
 wk:Nat->List (iG× Co):=λ_=>[]
 lit:Bool:=false
 tak:Bool:=false
 tkt:List Nat:=[]
 swp:Bool:=false
def tI:aM->aM->aM
 |[],h=>h
 |(k,b)::l,h=>tI l (put h k b)
def UF (s:List (Nat× SV)) (n:Nat) (dst:Option Tmp) (v:SV):Option (List (Nat× SV)):=
 match dst with
 |some t=>cond (Nat.ble (t+1) n) (some (put s t v)) none
 |none=>some s
def St.take (st:St) (dst:Option Tmp) (c:CR):Option St:=
  (jg c.kil (tI c.upd st.heap)).bind λh=>(UF (pO c.kil st.cJ) st.n dst c.v).bind λs=>
    some {st with cJ:=s,heap:=h++aN st.nid c.news,nid:=st.nid+c.news.length}
def setCells (cs:List SV) (o:Nat) (vs:List SV):Option (List SV):=
 cond (Nat.ble (o+vs.length) cs.length) (some (cs.take o++vs++cs.drop (o+vs.length))) none
def re:Ty->Bool
 |.sl _=>false
 |.ho _|.hl _=>false
 |.st .shape|.st .Qw|.st .dp|.st .jf=>true
 |.st _=>false
 |_=>true
def isNil {α:Type}:List α->Bool
 |[]=>true
 |_=>false
def Mj (h:aM) (t:Ty):Nat->List SV->Option (List Nat× List t.El)
 |0,_=>some ([],[])
 |n+1,cs=>(VI h t (cs.take t.sz)).bind λp=>(Mj h t n (cs.drop t.sz)).bind λq=>some (p.1++q.1,p.2::q.2)
def SV.NL (h:aM) (t:Ty) (v:SV):Option (List Nat× R):=
 match t with
 |.sl t'=>match v with
  |.cF=>some ([],.sl t' [])
  |.own i=>match look h i with
   |some (.arr none t1 xs)=>if e:t1=t' then some ([i],.sl t' (e▸xs))else none
   |_=>none
  |_=>none
 |.st _=>none
 |.tok=>match v with
  |.r _ (.tok n)=>some ([],.tok n)
  |.cF=>some ([],.tok 0)
  |_=>none
 |_=>match v with
  |.r _ (.int k n)=>some ([],.int k n)
  |.r _ (.bool b)=>some ([],.bool b)
  |.r _ (.str l)=>some ([],.str l)
  |_=>none
def I9 (h:aM):List Ty->List SV->Option (List Nat× List R)
 |[],[]=>some ([],[])
 |t::ts,v::vs=>(v.NL h t).bind λp=>(I9 h ts vs).bind λq=>some (p.1++q.1,p.2::q.2)
 |_,_=>none
def jj (h:aM) (t:Ty):Nat->List SV->Option (List Nat× List t.El)
 |0,_=>some ([],[])
 |n+1,cs=>(I9 h t.tys (cs.take t.sz)).bind λp=>(t.fa p.2).bind λx=>(jj h t n (cs.drop t.sz)).bind λq=>some (p.1++q.1,x::q.2)
def iq:List Nat->Bool
 |[]=>true
 |i::l=>cond (mem i l) false (iq l)
def Gu (h:aM):List SV->Option Bool
 |[]=>some true
 |.own i::l=>(look h i).bind λb=>match b with
  |.arr none _ _=>Gu h l
  |.arr (some _) _ _=>some false
  |.box _=>none
 |.r _ (.sl _ _)::_=>some false
 |.sub _ _ _::_=>some false
 |.bsl _ _::_=>some false
 |_::l=>Gu h l
def KP (h:aM) (t:Ty) (n:Nat) (cs:List SV):Option (Option (List Nat)× List Nat× List t.El):=
 (Gu h cs).bind λb=>cond b ((jj h t n cs).bind λq=>cond (iq q.1) (some (none,q.1,q.2)) none) ((Mj h t n cs).bind λq=>some (some q.1,[],q.2))
def qQ (h:aM):SV->List Nat->List Nat
 |.own i,d=>match look h i with
  |some (.arr (some d') _ _)=>d'
  |_=>d
 |_,d=>d
def tY (h:aM) (t:Ty) (v:SV):Option (Option (List Nat)× List Nat× List t.El):=
 match v with
 |.bsl i n=>match look h i with
  |some (.box cs)=>(KP h t n cs).bind λq=>some (q.1,i::q.2.1,q.2.2)
  |_=>none
 |_=>(v.list h t).bind λp=>cond (re t) (some (none,[],p.2)) (some (some (qQ h v p.1),[],p.2))
def KQ (a b:Option (List Nat)):Option (Option (List Nat)):=
 match a,b with
 |none,none=>some none
 |some d,some d'=>some (some (d++d'))
 |some d,none=>some (some d)
 |none,some d=>some (some d)
def rf (P:Program) (T:TypeId):Bool:=
 match P.info? T with
 |some i=>Nat.ble i.bytes 512
 |none=>false
def UG (E:Env) (s:List (Nat× SV)) (h:aM) (T:TypeId) (a:Operand):Option SV:=
 cond E.inn (cond (KO E.P T) (match opd s a with
  |some (.ptr i x o)=>match look h i with
   |some (.arr none t _)=>cond (Nat.ble (o+1) t.sz) (some (.inn i x o)) none
   |_=>none
  |_=>none) none) none
def UH {α:Type} (xs:List α) (x:Nat):List (Option α):=(xs.map some).set x none
def Gv {α:Type}:List (Option α)->Option (List α)
 |[]=>some []
 |none::_=>none
 |some x::l=>(Gv l).bind λl=>some (x::l)
def uV (n:Nat):List R->List SV
 |[]=>[]
 |.sl _ _::l=>.own n::uV (n+1) l
 |r::l=>.r [] r::uV n l
def ns:List R->List Blk
 |[]=>[]
 |.sl t ys::l=>.arr none t ys::ns l
 |_::l=>ns l
def UI (P:Program) (s:List (Nat× SV)) (h:aM) (src dst:TypeId) (x:Operand):Option Nat:=
 cond (Nat.beq src dst&&yH P src) (match opd s x with
  |some (.own i)=>match look h i with
   |some (.arr _ _ (_::_))=>some i
   |_=>none
  |_=>none) none
def Ja (h:aM):SV->Option (Nat× Nat× Nat)
 |.sub i o n=>some (i,o,n)
 |.own i=>match look h i with
  |some (.arr _ _ xs)=>some (i,0,xs.length)
  |_=>none
 |_=>none
variable {ρ:Type}
def zL (P:Program) (T:TypeId) (h:aM) (i:Nat) (sh:Option (List Nat)) (t:Ty) (ys:List t.El) (k o:Nat) (x:SV) (K:CR->Option ρ):Option ρ:=
 x.cells.bind λxs=>(jh P T).bind λsz=>cond (Nat.beq sz xs.length&&Nat.ble (o+sz) t.sz) (
  match sh with
  |none=>(I9 h ((t.tys.drop o).take sz) xs).bind λp=>cond (iq (i::p.1)) (
    cond (Nat.beq sz t.sz)
     ((t.fa p.2).bind λy=>K {v:=.undef,upd:=[(i,.arr none t (ys.set k y))],gone:=p.1,mH:=[i]})
     ((ys[k]?).bind λe=>(t.fa ((t.cells e).take o++p.2++(t.cells e).drop (o+sz))).bind λy=>K {v:=.undef,upd:=[(i,.arr none t (ys.set k y))],gone:=p.1,mH:=[i]})) none
  |some d=>(NK h ((t.tys.drop o).take sz) xs).bind λp=>cond (mem i p.1) none (
    cond (Nat.beq sz t.sz)
     ((t.fa p.2).bind λy=>K {v:=.undef,upd:=[(i,.arr (some (d++p.1)) t (ys.set k y))],mH:=[i]})
     ((ys[k]?).bind λe=>(t.fa ((t.cells e).take o++p.2++(t.cells e).drop (o+sz))).bind λy=>K {v:=.undef,upd:=[(i,.arr (some (d++p.1)) t (ys.set k y))],mH:=[i]}))) none
def UJ (P:Program) (T:TypeId):Bool:=
 match P.underlying T with
 |some (.int _)=>true
 |_=>false
def WM (E:Env) (h:aM) (nid n sz:Nat) (t:Ty) (cs:List SV) (K:CR->Option ρ):Option ρ:=
 cond (E.lit&&Nat.beq t.sz sz) (match jj h t n cs with
  |some ([],xs)=>K {v:=.own nid,news:=[.arr none t xs]}
  |_=>K {v:=.bsl nid n,news:=[.box cs]}) (K {v:=.bsl nid n,news:=[.box cs]})
def WN (E:Env) (nid:Nat) (t:Ty) (xs:List t.El) (K:CR->Option ρ):Option ρ:=
 cond (!isNil E.tkt&&!isNil xs) (K {v:=.r [] (.sl t xs)}) (K {v:=.own nid,news:=[.arr none t xs]})
def Jb (E:Env) (h:aM) (nid:Nat) (e:TypeId) (sz:Nat) (t:Ty) (T':TypeId) (b x:SV) (K:CR->Option ρ):Option ρ:=
 match b with
 |.cF=>cond (UJ E.P T'&&(rf E.P e&&Nat.beq t.sz sz)) (x.asI.bind λl=>(gv E.P e).bind λz=>(jj h t 1 z).bind λq=>cond (isNil q.1&&Nat.beq z.length sz) (match q.2 with
   |[y]=>cond (decide (1<=l/\l<=(aG:Int))) (K {v:=.own nid,news:=[.arr none t (List.replicate l.toNat y)]}) none
   |_=>none) none) none
 |_=>none
def Jc (h:aM) (t:Ty) (b x:SV) (K:CR->Option ρ):Option ρ:=
 match b,x with
 |.sub i 0 a,.sub i' o n=>cond (Nat.beq i i') (match look h i with
  |some (.arr (some d) t' xs)=>if he:t'=t then cond (mem i d) none (cond (Nat.ble (a+n) xs.length&&(Nat.ble (o+n) xs.length&&Nat.ble 1 xs.length))
    (K {v:=.sub i 0 (a+n),upd:=[(i,.arr (some d) t ((he▸xs).take a++((he▸xs).drop o).take n++(he▸xs).drop (a+n)))],mH:=[i]}) none)else none
  |_=>none) none
 |_,_=>none
def UK (E:Env) (s:List (Nat× SV)) (h:aM) (nid:Nat) (T:TypeId) (a:Operand) (K:CR->Option ρ) (D:Option ρ):Option ρ:=
 cond E.tak (match opd s a with
  |some (.ptr i x 0)=>match look h i with
   |some (.arr none (.st st) xs)=>cond (re (.st st)) D ((xs[x]?).bind λe=>(ji E.P T (uV nid (st.cells e))).bind λv=>
     K {v:=v,news:=ns (st.cells e),upd:=[(i,.arr none (.ho st) (UH xs x))],mH:=[i]})
   |_=>D
  |_=>D) D
def taken (E:Env):Operand->Bool
 |.tmp t=>mem t E.tkt
 |_=>false
def UL (E:Env) (s:List (Nat× SV)) (h:aM) (nid:Nat) (T:TypeId) (a:Operand) (K:CR->Option ρ) (D:Option ρ):Option ρ:=
  cond (taken E a) (match opd s a with
    | some (.ptr i x 0) => match look h i with
      |some (.arr none (.sl t) xs)=>(xs[x]?).bind λe=>(ji E.P T (uV nid ((Ty.sl t).cells e))).bind λv=>
          K {v:=v,news:=ns ((Ty.sl t).cells e),upd:=[(i,.arr none (.hl t) (UH xs x))],mH:=[i]}
      |_=>none
    |_=>none) D
def ED (E:Env) (s:List (Nat× SV)) (h:aM) (nid:Nat) (op:Op) (K:CR->Option ρ):Option ρ:=
  match op with
  |.alloc T=>(gv E.P T).bind λz=>K {v:=.ptr nid 0 0,news:=[.box z]}
  |.box _ x=>(opd s x).bind λv=>v.cells.bind λcs=>K {v:=.ptr nid 0 0,news:=[.box cs]}
  | .buildSlice T n parts =>
    (mF E.P T).bind λe=>(jh E.P e).bind λsz=>(ra s parts.toList).bind λps=>(gv E.P e).bind λz=>
      cond (Nat.ble (n*sz) 16777216&&Nat.beq z.length sz) ((qP (λi=>some (i*sz,sz)) (List.replicate (n*sz) .undef) ps).bind λcs=>
        match E.tt e with
        |none=>K {v:=.bsl nid n,news:=[.box cs]}
        |some t=>cond ((re t||Nat.beq n 0)&&Nat.beq t.sz sz) ((jj h t n cs).bind λx=>cond (isNil x.1) (WN E nid t x.2 K) none) (WM E h nid n sz t cs K)) none
  | .makeSlice T l c =>
    (mF E.P T).bind λe=>(jh E.P e).bind λsz=>(E.tt e).bind λt=>(gv E.P e).bind λz=>(opd s l).bind λl=>(opd s c).bind λc=>l.asI.bind λl=>c.asI.bind λc=>
      cond (rf E.P e&&Nat.beq t.sz sz) ((jj h t 1 z).bind λx=>cond (isNil x.1&&Nat.beq z.length sz) (match x.2 with
        |[y]=>cond (decide (0<=l/\l<=c/\c<=(aG:Int))) (K {v:=.own nid,news:=[.arr none t (List.replicate l.toNat y)]}) none
        |_=>none) none) none
  | .call { callee := .builtin .append, args, argTypes } => (tX s args.toList).bind λ vs => match vs, argTypes.toList with
    | [b, x], [T, T'] => (mF E.P T).bind λ e => (jh E.P e).bind λ sz => (E.tt e).bind λ t => cond (rf E.P e && (Nat.beq t.sz sz && Nat.beq T T')) ((gv E.P e).bind λ z => cond (Nat.beq z.length sz)
      ((tY h t x).bind λy=>match b with
        |.cF=>cond (hit y.2.1 (y.1.getD [])) none (cond (Nat.ble y.2.2.length aG) (K {v:=.own nid,news:=[.arr y.1 t y.2.2],gone:=y.2.1}) none)
        | .own i => match look h i with
          | some (.arr sh t' xs) => if he : t' = t then
              (KQ sh y.1).bind λsh'=>cond (mem i y.2.1) none (cond (hit (i::y.2.1) (sh'.getD [])) none (cond (Nat.ble (xs.length+y.2.2.length) aG) (K {v:=.own nid,news:=[.arr sh' t ((he▸xs)++y.2.2)],gone:=i::y.2.1}) none))
            else none
          |_=>none
        |b=>Jc h t b x K) none) (Jb E h nid e sz t T' b x K)
    |_,_=>none
  | .call { callee := .builtin .clear, args, argTypes } => (tX s args.toList).bind λ vs => match vs, argTypes.toList with
    | [v], [T] => (mF E.P T).bind λ e => (gv E.P e).bind λ z => (Ja h v).bind λ p => match look h p.1 with
      | some (.arr sh t xs) => cond (Nat.beq z.length t.sz) ((jj h t 1 z).bind λ x => cond (isNil x.1) (match x.2 with
        |[y]=>K {v:=.undef,upd:=[(p.1,.arr sh t (xs.take p.2.1++List.replicate p.2.2 y++xs.drop (p.2.1+p.2.2)))],mH:=[p.1]}
        |_=>none) none) none
      |_=>none
    |_,_=>none
  | .store T a x => (opd s a).bind λ a => (opd s x).bind λ x => match a with
    | .ptr i k o => match look h i with
      |some (.box cs)=>cond (Nat.beq k 0) (x.cells.bind λxs=>(jh E.P T).bind λsz=>cond (Nat.beq sz xs.length) ((setCells cs o xs).bind λcs=>K {v:=.undef,upd:=[(i,.box cs)]}) none) none
      |some (.arr sh t ys)=>zL E.P T h i sh t ys k o x K
      |_=>none
    |_=>none
  | .call { callee := .value f, args, .. } => (opd s f).bind λ f => (tX s args.toList).bind λ vs => match f with
    |.fn (.func g) first cap=>E.orc g ρ nid (first++vs++cap) h K
    |_=>none
  | .load T a => UL E s h nid T a K (match UG E s h T a with
    |some v=>K {v:=v}
    |none=>UK E s h nid T a K (pP E.P s h (.load T a) λv=>K {v:=v}))
  | .convert src dst x => match UI E.P s h src dst x with
    |some i=>K {v:=.own i}
    |none=>pP E.P s h (.convert src dst x) λv=>K {v:=v}
  |op=>pP E.P s h op λv=>K {v:=v}
noncomputable def both (x y:Option ρ):Option ρ:=open Classical in if x=y then x else none
def KR:Op->Option (TypeId× Operand× Bool)
 |.binOp .eql T x (.const (.slice none 0 0)) _=>some (T,x,true)
 |.binOp .neq T x (.const (.slice none 0 0)) _=>some (T,x,false)
 |_=>none
noncomputable def V5 (h:aM) (v:SV) (K:Bool->Option ρ):Option ρ:=
 match v with
 |.cF=>K true
 |.r _ (.sl _ xs)=>cond (isNil xs) (both (K true) (K false)) (K false)
 |.own i=>match look h i with
  |some (.arr _ _ xs)=>cond (isNil xs) (both (K true) (K false)) (K false)
  |_=>none
 |_=>none
noncomputable def Us (E:Env) (o:Oper) (st:St) (K:St->Option ρ):Option ρ:=
 match KR o.op with
 |some (T,x,e)=>cond (KO E.P T) ((opd st.cJ x).bind λv=>V5 st.heap v λb=>(st.take o.dst {v:=.b (cond b e (!e))}).bind K) none
 |none=>ED E st.cJ st.heap st.nid o.op λc=>(st.take o.dst c).bind K
def S3 (ops:List Oper) (j:Nat):Option Tmp:=(ops[j]?).bind (·.dst)
def Gw (o:Oper) (st:St) (K:St->Option ρ):Option ρ:=
 (UF st.cJ st.n o.dst (.tup [])).bind λs=>K {st with cJ:=s}
noncomputable def EE (E:Env) (all:List Oper):List Oper->St->(St->Option ρ)->Option ρ
  |[],st,K=>K st
  | o :: rest, st, K =>
    match o.guard with
    |none=>Us E o st λst=>EE E all rest st K
    | some (j, want) => (S3 all j).bind λ t => (look st.cJ t).bind λ v => match v with
      |.tup []=>Gw o st λst=>EE E all rest st K
      | v => v.asB.bind λ b =>
        cond b
          (cond want (Us E o {st with cJ:=put st.cJ t (.b true)} λst=>EE E all rest st K)
            (Gw o {st with cJ:=put st.cJ t (.b true)} λst=>EE E all rest st K))
          (cond want (Gw o {st with cJ:=put st.cJ t (.b false)} λst=>EE E all rest st K)
            (Us E o {st with cJ:=put st.cJ t (.b false)} λst=>EE E all rest st K))
def after (H:aM) (nid:Nat) (c:CR):Option aM:=
 (jg c.kil (tI c.upd H)).bind λh=>some (h++aN nid c.news)
structure DR where
 dst:Option Tmp
 n0:Nat
 c:CR
 see:List Nat
 QM:List SV:=[]
 len:Bool:=false
abbrev SH:=List (Nat× SV)× aM
def KS (s:List (Nat× SV)) (dst:Option Tmp) (v:SV):List (Nat× SV):=
 match dst with
 |some t=>put s t v
 |none=>s
def Mk:aM->Nat->Blk->aM
 |[],_,_=>[]
 |(k,u)::l,n,b=>cond (Nat.beq k n) ((k,b)::l) ((k,u)::Mk l n b)
def jV:aM->aM->aM
 |[],h=>h
 |(k,b)::l,h=>jV l (Mk h k b)
def DR.app (r:DR) (x:SH):Option SH:=
 (jg r.c.kil (jV r.c.upd x.2)).bind λh=>some (KS (pO r.c.kil x.1) r.dst r.c.v,h++aN r.n0 r.c.news)
def replay (p:Nat->Bool):Nat->List DR->SH->Option SH
 |_,[],x=>some x
 |j,r::l,x=>cond (p j) ((r.app x).bind λx=>replay p (j+1) l x) (replay p (j+1) l x)
def wO (n:Nat):List Edge->Bool
 |[]=>true
 |e::l=>cond (Region.binds .any e) (cond (Nat.ble (e.on+1) n) (wO n l) false) (wO n l)
def Gx (aK:List Nat):List Edge->Nat
 |[]=>0
 |e::l=>cond (Region.binds .any e) ((aK.getD e.on 0||| 2^e.on)||| Gx aK l) (Gx aK l)
def Av:List Nat->List Oper->Option (List Nat)
 |acc,[]=>some acc
 |acc,o::l=>cond (wO acc.length o.after.toList) (Av (acc++[Gx acc o.after.toList]) l) none
def jS:List Oper->List Nat
 |[]=>[]
 |o::l=>match o.dst with
  |some t=>t::jS l
  |none=>jS l
def QN (aK:List Nat) (i:Nat):Nat->List Oper->List Nat
 |_,[]=>[]
 |j,o::l=>cond ((aK.getD j 0).testBit i) (QN aK i (j+1) l) (match o.dst with
  |some t=>t::QN aK i (j+1) l
  |none=>QN aK i (j+1) l)
def Ml (n:Nat):List Nat->Bool
 |[]=>true
 |i::l=>cond (Nat.ble (i+1) n) (Ml n l) false
def fm:List Operand->List Nat
 |[]=>[]
 |.tmp t::l=>t::fm l
 |_::l=>fm l
def oX (T:List Nat) (s:List (Nat× SV)):List Nat->List (Nat× SV)
 |[]=>[]
 |t::l=>cond (mem t T) (oX T s l) (match look s t with
  |some v=>(t,v)::oX T s l
  |none=>oX T s l)
def nz (E:Env):Op->Bool
 |.store _ _ _=>true
 |.load _ _=>E.tak
 |.call {callee:=.builtin .len,.. }|.call {callee:=.builtin .cap,.. }|.call {callee:=.builtin .min,.. }|.call {callee:=.builtin .max,.. }=>false
 |.call {callee:=.builtin _,.. }=>true
 |.call {callee:=.value (.func g),.. }=>E.wr g
 |.call {callee:=.value _,.. }=>E.wt
 |.call _=>false
 |_=>false
def UM (aK:List Nat) (i j:Nat):Bool:=Nat.beq i j||((aK.getD i 0).testBit j||(aK.getD j 0).testBit i)
def yI (E:Env) (aK:List Nat) (i:Nat):Nat->List Oper->Bool
 |_,[]=>false
 |j,o::l=>cond (nz E o.op) (cond (UM aK i j) (yI E aK i (j+1) l) true) (yI E aK i (j+1) l)
def EF (s:List (Nat× SV)):List Nat->List SV
 |[]=>[]
 |t::l=>match look s t with
  |some v=>v::EF s l
  |none=>EF s l
def yJ (h:aM):List Nat->aM
 |[]=>[]
 |i::l=>match look h i with
  |some b=>(i,b)::yJ h l
  |none=>yJ h l
def S4:Op->Bool
 |.move _=>true
 |.assign _=>true
 |.extract _ _=>true
 |.nilCheck _=>true
 |.fieldAddr _ _ _=>true
 |_=>false
def UN:Op->Bool
 |.load _ _=>true
 |_=>false
def V6 (E:Env) (aK:List Nat) (i:Nat) (ops:List Oper) (x:SH) (o:Oper):List Nat:=
 cond (yI E aK i 0 ops&&!S4 o.op) (reach x.2 (cond (UN o.op) 0 3) (qO [] (Mg (EF x.1 (fm o.op.operands.toList))))) []
def Mm (E:Env) (aK:List Nat) (i:Nat) (ops:List Oper) (x:SH) (o:Oper):aM:=
 cond (yI E aK i 0 ops) (yJ x.2 (V6 E aK i ops x o)) x.2
def QO (L:List Nat):aM->Bool
 |[]=>false
 |(k,_)::l=>cond (mem k L) true (QO L l)
def okW (E:Env) (op:Op) (c:CR):Bool:=cond (nz E op) true (isNil c.kil.2&&isNil c.upd)
mutual
def SV.NM (T:Kil):SV->Bool
 |.r d _=>!hit T.2 d
 |.own i=>!mem i T.1
 |.sub i _ _=>!mem i T.1
 |.bsl i _=>!mem i T.1
 |.ptr i _ _=>!mem i T.1
 |.inn i _ _=>!(mem i T.1||mem i T.2)
 |.lB d _=>!hit T.2 d
 |.agg cs=>Aw T cs
 |.tup cs=>Aw T cs
 |.fn _ a b=>Aw T a&&Aw T b
 |.cF=>true
 |.qZ=>true
 |.undef=>true
def Aw (T:Kil):List SV->Bool
 |[]=>true
 |v::l=>v.NM T&&Aw T l
end
def Blk.NM (T:Kil):Blk->Bool
 |.box cs=>Aw T cs
 |.arr (some d) _ _=>!hit T.2 d
 |.arr none _ _=>true
def N4 (k:Nat) (B:Blk):List DR->Bool
 |[]=>true
 |r::l=>cond ((look r.c.upd k).isNone&&(!mem k r.c.kil.1&&B.NM r.c.kil)) (N4 k B l) false
def VK (h:aM) (rs:List DR):List Nat->Bool
 |[]=>true
 |k::l=>match look h k with
  |some B=>cond (N4 k B rs) (VK h rs l) false
  |none=>false
def gw (cm:DR->Bool) (r:DR):Bool:=isNil r.c.kil.2&&(isNil r.c.upd&&(isNil r.c.news&&cm r))
def Mn (b a:DR):Bool:=a.c.v.NM b.c.kil&&Aw b.c.kil a.QM
def UO (b:DR):aM->Bool
 |[]=>true
 |(k,_)::l=>cond (Nat.ble (k+1) b.n0||Nat.ble (b.n0+b.c.news.length) k) (UO b l) false
def Jd (a b:DR):Bool:=(isNil a.c.kil.2&&isNil b.c.kil.2)&&((isNil b.c.upd&&UO b a.c.upd)||(isNil a.c.upd&&UO a b.c.upd))&&(!(QO b.see a.c.upd)&&!(QO a.see b.c.upd))
def tC (cm:DR->Bool) (a b:DR):Bool:=Jd a b||((Mn b a&&gw cm a)||(Mn a b&&gw cm b))
def Ax (cm:DR->Bool) (aK:List Nat) (i:Nat) (r:DR):Nat->List DR->Bool
 |_,[]=>true
 |j,b::l=>cond ((aK.getD j 0).testBit i) (Ax cm aK i r (j+1) l) (cond (tC cm r b) (Ax cm aK i r (j+1) l) false)
def Dn (cm:DR->Bool) (aK:List Nat):Nat->List DR->Bool
 |_,[]=>true
 |i,r::l=>cond (Ax cm aK i r (i+1) l) (Dn cm aK (i+1) l) false
def S5:List DR->Nat->SV->List DR
 |[],_,_=>[]
 |r::l,0,v=>{r with c:={r.c with v:=v}}::l
 |r::l,n+1,v=>r::S5 l n v
def UP:Op->Bool
 |.indexAddr _ _ _=>true
 |_=>false
def UQ (h:aM):List Nat->Bool
 |[]=>true
 |i::l=>cond (look h i).isSome (UQ h l) false
def Gy (x:SH) (o:Oper):List Nat:=qO [] (Mg (EF x.1 (fm o.op.operands.toList)))
def N5 (E:Env) (h0:aM) (x:SH) (o:Oper):Bool:=E.swp&&(UP o.op&&UQ h0 (Gy x o))
def N6 (E:Env) (aK:List Nat) (i:Nat) (ops:List Oper) (h0:aM) (x:SH) (o:Oper):aM:=cond (N5 E h0 x o) (yJ h0 (Gy x o)) (Mm E aK i ops x o)
def VL (E:Env) (aK:List Nat) (i:Nat) (ops:List Oper) (h0:aM) (x:SH) (o:Oper):List Nat:=cond (N5 E h0 x o) (Gy x o) (V6 E aK i ops x o)
def S6 (E:Env) (aK:List Nat) (i:Nat) (ops:List Oper) (h0:aM) (x:SH) (o:Oper) (nid:Nat) (c:CR):DR:=⟨o.dst,nid,c,VL E aK i ops h0 x o,EF x.1 (fm o.op.operands.toList),N5 E h0 x o⟩
def qR (E:Env) (ops:List Oper) (aK dsts:List Nat) (s0:List (Nat× SV)) (h0:aM):Nat->List Oper->Nat->List DR->(List DR->Nat->Option ρ)->Option ρ
  |_,[],nid,rs,K=>K rs nid
  | i, o :: rest, nid, rs, K =>
    (replay (Nat.testBit (aK.getD i 0)) 0 rs (oX (QN aK i 0 ops) s0 (fm o.op.operands.toList),h0)).bind λx=>
    match o.guard with
    |none=>ED E (oX [] x.1 (fm o.op.operands.toList)) (N6 E aK i ops h0 x o) nid o.op λc=>cond (okW E o.op c) (qR E ops aK dsts s0 h0 (i+1) rest (nid+c.news.length) (rs++[S6 E aK i ops h0 x o nid c]) K) none
    | some (g, want) => cond (Nat.testBit (aK.getD i 0) g) ((rs[g]?).bind λ r => r.dst.bind λ _ => match r.c.v with
      |.tup []=>qR E ops aK dsts s0 h0 (i+1) rest nid (rs++[⟨o.dst,nid,{v:=.tup []},[],[],false⟩]) K
      | .r [] (.bool b) => cond b
        (cond want
          (ED E (oX [] x.1 (fm o.op.operands.toList)) (N6 E aK i ops h0 x o) nid o.op λc=>cond (okW E o.op c) (qR E ops aK dsts s0 h0 (i+1) rest (nid+c.news.length) (S5 rs g (.b true)++[S6 E aK i ops h0 x o nid c]) K) none)
          (qR E ops aK dsts s0 h0 (i+1) rest nid (S5 rs g (.b true)++[⟨o.dst,nid,{v:=.tup []},[],[],false⟩]) K))
        (cond want
          (qR E ops aK dsts s0 h0 (i+1) rest nid (S5 rs g (.b false)++[⟨o.dst,nid,{v:=.tup []},[],[],false⟩]) K)
          (ED E (oX [] x.1 (fm o.op.operands.toList)) (N6 E aK i ops h0 x o) nid o.op λc=>cond (okW E o.op c) (qR E ops aK dsts s0 h0 (i+1) rest (nid+c.news.length) (S5 rs g (.b false)++[S6 E aK i ops h0 x o nid c]) K) none))
      |_=>none) none
def Ay:List Nat->List Nat->Bool
 |[],_=>true
 |i::l,T=>cond (mem i T) false (Ay l T)
def EG (L:List Nat):List DR->Bool
 |[]=>true
 |r::l=>cond (Ay L r.c.kil.1) (EG L l) false
def CT (h:aM) (rs:List DR) (r:DR):Bool:=cond r.len (EG r.see rs) (VK h rs r.see)
def Dp (cm:DR->Bool):List DR->Bool
 |[]=>true
 |r::l=>cond (!r.len||gw cm r) (Dp cm l) false
def EH (E:Env) (ops:List Oper) (st:St) (K:St->Option ρ):Option ρ:=
  cond (E.P.follows .mixedOrders) ((Av [] ops).bind λaK=>
    cond (iq (jS ops)) (cond (Ml st.n (jS ops))
      (qR E ops aK (jS ops) st.cJ st.heap 0 ops st.nid [] λrs nid=>cond (Dn (CT st.heap rs) aK 0 rs&&Dp (CT st.heap rs) rs)
        ((replay (λ_=>true) 0 rs (st.cJ,st.heap)).bind λx=>K {st with cJ:=x.1,heap:=x.2,nid:=nid}) none) none) none) none
inductive Ex where
 |normal
 |exit (id:Nat)
 |ret
def refine(c:Operand) (b:Bool) (st:St):St:=
 match c with
 |.tmp t=>{st with cJ:=put st.cJ t (.b b)}
 |_=>st
abbrev Ev (ρ:Type):=St->(Ex->St->Option ρ)->Option ρ
def inBlock (id:Nat) (K:Ex->St->Option ρ):Ex->St->Option ρ
 |.exit j,st=>cond (Nat.beq j id) (K .normal st) (K (.exit j) st)
 |e,st=>K e st
def Qy (i:Nat):List Nat->List Nat
 |[]=>[]
 |k::l=>cond (Nat.beq k i) (Qy i l) (k::Qy i l)
def KT (i:Nat) (t:Ty) (h:aM) (v:SV):SV:=
 match v.list h t with
 |some p=>.r (Qy i p.1) (.sl t p.2)
 |none=>.undef
mutual
def SV.frz (i:Nat) (t:Ty) (h:aM):SV->SV
 |.r d x=>.r (Qy i d) x
 |.own j=>cond (Nat.beq j i) (KT i t h (.own j)) (.own j)
 |.sub j o n=>cond (Nat.beq j i) (KT i t h (.sub j o n)) (.sub j o n)
 |.bsl j n=>cond (Nat.beq j i) .undef (.bsl j n)
 |.ptr j x o=>cond (Nat.beq j i) .undef (.ptr j x o)
 |.inn j x c=>cond (Nat.beq j i) .undef (.inn j x c)
 |.lB d cs=>.lB (Qy i d) cs
 |.agg cs=>.agg (Gi i t h cs)
 |.tup cs=>.tup (Gi i t h cs)
 |.fn f a b=>.fn f (Gi i t h a) (Gi i t h b)
 |.cF=>.cF
 |.qZ=>.qZ
 |.undef=>.undef
def Gi (i:Nat) (t:Ty) (h:aM):List SV->List SV
 |[]=>[]
 |v::l=>v.frz i t h::Gi i t h l
end
def Blk.frz (i:Nat) (t:Ty) (h:aM):Blk->Blk
 |.box cs=>.box (Gi i t h cs)
 |.arr none t' xs=>.arr none t' xs
 |.arr (some d) t' xs=>.arr (some (Qy i d)) t' xs
def Je (i:Nat) (t:Ty) (h:aM):aM->aM
 |[]=>[]
 |(k,b)::l=>cond (Nat.beq k i) (Je i t h l) ((k,b.frz i t h)::Je i t h l)
def Mo (i:Nat) (t:Ty) (h:aM):List (Nat× SV)->List (Nat× SV)
 |[]=>[]
 |(k,v)::l=>(k,v.frz i t h)::Mo i t h l
def V7 (i:Nat) (st:St):St:=
 match look st.heap i with
 |some (.arr _ t _)=>{st with cJ:=Mo i t st.heap st.cJ,heap:=Je i t st.heap st.heap}
 |_=>st
def UR (h:aM):SV->List Nat->Option Nat
 |.own i,[]=>some i
 |.sub i _ _,[]=>some i
 |.agg cs,j::p=>match cs[j]? with
  |some v=>UR h v p
  |none=>none
 |.tup cs,j::p=>match cs[j]? with
  |some v=>UR h v p
  |none=>none
 |.ptr i 0 o,j::p=>match look h i with
  |some (.box cs)=>match cs[o+j]? with
   |some v=>UR h v p
   |none=>none
  |_=>none
 |.bsl i _,j::p=>match look h i with
  |some (.box cs)=>match cs[j]? with
   |some v=>UR h v p
   |none=>none
  |_=>none
 |_,_=>none
termination_by structural _ p=>p
def V8 (i:Nat) (st:St):St:=
 match look st.heap i with
 |some (.arr none t xs)=>{st with heap:=put st.heap i (.arr (some []) t xs)}
 |_=>st
def Sq (st:St) (x:Bool× Nat× List Nat):St:=
 match look st.cJ x.2.1 with
 |some v=>match UR st.heap v x.2.2 with
  |some i=>cond x.1 (V8 i st) (V7 i st)
  |none=>st
 |none=>st
def KU:List (Bool× Nat× List Nat)->St->St
 |[],st=>st
 |x::l,st=>KU l (Sq st x)
def Blk.N7 (b:Blk) (K:Blk->Option ρ):Option ρ:=
 match b with
 |.arr none (.ho s) zs=>(Gv zs).bind λxs=>K (.arr none (.st s) xs)
 |.arr none (.hl t) zs=>(Gv zs).bind λxs=>K (.arr none (.sl t) xs)
 |b=>K b
def N8:aM->(aM->Option ρ)->Option ρ
 |[],K=>K []
 |(k,b)::l,K=>b.N7 λb=>N8 l λl=>K ((k,b)::l)
def KV (E:Env) (K:St->Option ρ) (st:St):Option ρ:=cond E.tak (N8 st.heap λh=>K {st with heap:=h}) (K st)
noncomputable def ev (E:Env) (LP:Nat->Ev ρ->Ev ρ) (cb:Nat):Code->Ev ρ
 |.skip,st,K=>K .normal st
 |.label _,st,K=>K .normal st
 |.region id ops false,st,K=>EE E ops.toList ops.toList (N3 (E.wk id) (KU (E.fz id) st)) (KV E (K .normal))
 |.region id ops true,st,K=>EH E ops.toList (N3 (E.wk id) (KU (E.fz id) st)) (KV E (K .normal))
 |.seq a b,st,K=>ev E LP cb a st λe st=>match e with
  |.normal=>ev E LP cb b st K
  |e=>K e st
 |.cond c t f,st,K=>(opd st.cJ c).bind λv=>v.asB.bind λb=>cond b (ev E LP cb t (refine c true st) K) (ev E LP cb f (refine c false st) K)
 |.block id c,st,K=>ev E LP id c st (inBlock id K)
 |.loop c,st,K=>LP cb (λst K=>ev E LP cb c st K) st K
 |.exit id,st,K=>K (.exit id) st
 |.scope c,st,K=>ev E LP cb c st K
 |.ret,st,K=>K .ret st
 |_,_,_=>none
def QP (body:Ev ρ):Nat->Ev ρ
 |0,_,_=>none
 |n+1,st,K=>body st λe st=>match e with
  |.normal=>QP body n st K
  |e=>K e st
end
section
def Ext {α:Type} (s s':List (Nat× α)):Prop:=∀t v,look s t=some v->look s' t=some v
theorem Ext.rfl' {α:Type} {s:List (Nat× α)}:Ext s s:=λ_ _ h=>h
def Le {α:Type} (x y:Option α):Prop:=∀a,x=some a->y=some a
theorem Le.refl {α:Type} (x:Option α):Le x x:=λ_ h=>h
theorem Le.bind {α β:Type} {x y:Option α} {f g:α->Option β} (h:Le x y) (hf:∀a,Le (f a) (g a)):Le (x.bind f) (y.bind g):=by
 intro b hb;rw[An]at hb⊢;obtain⟨a,h1,h2⟩:=hb;exact⟨a,h a h1,hf a b h2⟩
theorem Le.cond {α:Type} {b:Bool} {x y x' y':Option α} (h:Le x x') (h':Le y y'):Le (cond b x y) (cond b x' y'):=by cases b<;>assumption
theorem Le.none {α:Type} {y:Option α}:Le Option.none y:=λ_ h=>nomatch h
section
variable {s s':List (Nat× SV)} {h h':aM} {P:Program}
theorem S7 (hh:Ext h h') (i:Nat):Le (look h i) (look h' i):=λ_=>hh i _
theorem dq (hs:Ext s s') (x:Operand):Le (opd s x) (opd s' x):=by
 cases x with
 |tmp t=>exactλv hv=>hs t v hv
 |_=>exact Le.refl _
theorem jW (hs:Ext s s'):(l:List Operand)->Le (tX s l) (tX s' l)
 |[]=>Le.refl _
 |x::l=>(dq hs x).bind λ_=>(jW hs l).bind λ_=>Le.refl _
theorem Jf (hs:Ext s s') (x:Option Operand):Le (Qx s x) (Qx s' x):=by
 cases x with
 |none=>exact Le.refl _
 |some x=>exact(dq hs x).bind λ_=>Le.refl _
theorem oY (hs:Ext s s'):(l:List (Nat× Operand))->Le (ra s l) (ra s' l)
 |[]=>Le.refl _
 |(_,x)::l=>(dq hs x).bind λ_=>(oY hs l).bind λ_=>Le.refl _
theorem Mp (hh:Ext h h') (v:SV):Le (mG h v) (mG h' v):=by
 cases v<;>try exact Le.refl _
 rename_i i x o;intro cs hcs;simp only[mG]at hcs⊢
 cases hl:look h i with
 |none=>rw[hl]at hcs;exact nomatch hcs
 |some B=>rw[hl]at hcs;rw[hh i B hl];exact hcs
theorem QQ (hh:Ext h h') (v:SV):Le (lenOf h v) (lenOf h' v):=by
 intro n hn
 cases v with
 |own i=>
  simp only[lenOf]at hn⊢
  cases hl:look h i with
  |none=>rw[hl]at hn;exact nomatch hn
  |some B=>rw[hl]at hn;rw[hh i B hl];exact hn
 |r d x=>cases x<;>exact hn
 |_=>exact hn
theorem Mq (hh:Ext h h') (T:TypeId) (v:SV) (lo hi:Option SV):Le (jU P T h v lo hi) (jU P T h' v lo hi):=by
 intro cs hcs
 cases v with
 |own i=>
  simp only[jU]at hcs⊢
  cases hl:look h i with
  |none=>rw[hl]at hcs;exact nomatch hcs
  |some B=>rw[hl]at hcs;rw[hh i B hl];exact hcs
 |sub i o n=>
  simp only[jU]at hcs⊢
  cases hl:look h i with
  |none=>rw[hl]at hcs;exact nomatch hcs
  |some B=>rw[hl]at hcs;rw[hh i B hl];exact hcs
 |r d x=>cases x<;>exact hcs
 |_=>exact hcs
theorem CX (hh:Ext h h') (T:TypeId) (v:SV) (k:Int):Le (bZ P T h v k) (bZ P T h' v k):=by
 intro cs hcs
 cases v with
 |own i=>
  simp only[bZ]at hcs⊢
  cases hl:look h i with
  |none=>rw[hl]at hcs;exact nomatch hcs
  |some B=>rw[hl]at hcs;rw[hh i B hl];exact hcs
 |sub i o n=>
  simp only[bZ]at hcs⊢
  cases hl:look h i with
  |none=>rw[hl]at hcs;exact nomatch hcs
  |some B=>rw[hl]at hcs;rw[hh i B hl];exact hcs
 |r d x=>cases x<;>exact hcs
 |_=>exact hcs
theorem Jg (hh:Ext h h') (t:Ty) (v:SV):Le (v.list h t) (v.list h' t):=by
 intro p hp
 cases v<;>try exact hp
 all_goals
  simp only[SV.list]at hp⊢;split at hp
  ·rename_i hl;rw[hh _ _ hl];exact hp
  ·exact nomatch hp
theorem US (hh:Ext h h') (T:TypeId) (x:SV):Le (slN P T h x) (slN P T h' x):=by
 intro n hn
 cases x with
 |own i=>
  simp only[slN]at hn⊢
  cases hl:look h i with
  |none=>rw[hl]at hn;exact nomatch hn
  |some B=>rw[hl]at hn;rw[hh i B hl];exact hn
 |r d x=>cases x<;>exact hn
 |_=>exact hn
theorem wP (hs:Ext s s') (hh:Ext h h') (op:Op):Le (ik P s h op) (ik P s' h' op):=by
 intro v hv;unfold ik at hv;split at hv<;>simp only[ik]
 ·exact dq hs _ v hv
 ·exact dq hs _ v hv
 ·revert hv;exact((dq hs _).bind λc=>(Le.refl _).bind λb=>Le.cond (dq hs _) (dq hs _)) v
 ·revert hv
  split
  ·exact((Le.refl _).bind λ_=>(Le.refl _).bind λ_=>(oY hs _).bind λ_=>Le.refl _) v
  ·exactλh=>nomatch h
 ·exact((dq hs _).bind λa=>(Mp hh a).bind λ_=>Le.refl _) v hv
 ·exact((dq hs _).bind λa=>Le.refl _) v hv
 ·exact((dq hs _).bind λa=>(dq hs _).bind λ_=>Le.refl _) v hv
 ·exact((dq hs _).bind λa=>Le.refl _) v hv
 ·exact((dq hs _).bind λa=>Le.cond ((Jg hh _ _).bind λ_=>Le.refl _) (Le.refl _)) v hv
 ·exact((jW hs _).bind λa=>(jW hs _).bind λ_=>Le.refl _) v hv
 ·exact((dq hs _).bind λa=>(Jf hs _).bind λ_=>(Jf hs _).bind λ_=>Mq hh _ _ _ _) v hv
 ·exact((dq hs _).bind λa=>(Jf hs _).bind λ_=>(dq hs _).bind λ_=>(dq hs _).bind λ_=>(US hh _ _).bind λ_=>Le.refl _) v hv
 ·exact((dq hs _).bind λa=>Le.refl _) v hv
 ·exact((dq hs _).bind λa=>Le.refl _) v hv
 ·exact((dq hs _).bind λa=>(dq hs _).bind λ_=>(Le.refl _).bind λ_=>CX hh _ _ _) v hv
 ·exact((dq hs _).bind λa=>(dq hs _).bind λ_=>Le.refl _) v hv
 ·exact((dq hs _).bind λa=>Le.refl _) v hv
 ·refine((jW hs _).bind λvs=>?_) v hv;split
  ·exact Le.cond ((QQ hh _).bind λ_=>Le.refl _) (Le.refl _)
  ·exact Le.refl _
 ·exact((jW hs _).bind λa=>Le.refl _) v hv
 ·exact((jW hs _).bind λa=>Le.refl _) v hv
 ·exact((jW hs _).bind λa=>Le.refl _) v hv
 ·exact nomatch hv
theorem Gz (hh:Ext h h') (t:Ty) (v:SV):Le (v.asR h t) (v.asR h' t):=by
 cases t with
 |sl t=>exact(Jg hh t v).bind λ_=>Le.refl _
 |_=>exact Le.refl _
theorem Jh (hh:Ext h h'):(ts:List Ty)->(vs:List SV)->Le (NK h ts vs) (NK h' ts vs)
 |[],[]=>Le.refl _
 |t::ts,v::vs=>(Gz hh t v).bind λ_=>(Jh hh ts vs).bind λ_=>Le.refl _
 |[],_::_=>Le.refl _
 |_::_,[]=>Le.refl _
theorem S8 (hh:Ext h h') (t:Ty) (vs:List SV):Le (VI h t vs) (VI h' t vs):=(Jh hh _ _).bind λ_=>Le.refl _
theorem KW (hh:Ext h h') (t:Ty):(n:Nat)->(c:List SV)->Le (Mj h t n c) (Mj h' t n c)
 |0,_=>Le.refl _
 |n+1,_=>(S8 hh t _).bind λ_=>(KW hh t n _).bind λ_=>Le.refl _
theorem EI (hh:Ext h h') (t:Ty) (v:SV):Le (v.NL h t) (v.NL h' t):=by
 intro p hp
 cases t with
 |sl t=>
  cases v with
  |own i=>
   simp only[SV.NL]at hp⊢
   cases hl:look h i with
   |none=>rw[hl]at hp;exact nomatch hp
   |some B=>rw[hl]at hp;rw[hh i B hl];exact hp
  |_=>exact hp
 |_=>exact hp
theorem KX (hh:Ext h h'):(ts:List Ty)->(vs:List SV)->Le (I9 h ts vs) (I9 h' ts vs)
 |[],[]=>Le.refl _
 |t::ts,v::vs=>(EI hh t v).bind λ_=>(KX hh ts vs).bind λ_=>Le.refl _
 |[],_::_=>Le.refl _
 |_::_,[]=>Le.refl _
theorem kJ (hh:Ext h h') (t:Ty):(n:Nat)->(c:List SV)->Le (jj h t n c) (jj h' t n c)
 |0,_=>Le.refl _
 |n+1,_=>(KX hh _ _).bind λ_=>(Le.refl _).bind λ_=>(kJ hh t n _).bind λ_=>Le.refl _
theorem GA (hh:Ext h h'):(c:List SV)->Le (Gu h c) (Gu h' c)
 |[]=>Le.refl _
 |v::l=>by
  have ih:=GA hh l
  cases v with
  |own i=>
   refine(S7 hh i).bind λb=>?_
   cases b with
   |box _=>exact Le.refl _
   |arr sh _ _=>cases sh with
    |none=>exact ih
    |some _=>exact Le.refl _
  |r d x=>cases x with
   |sl _ _=>exact Le.refl _
   |_=>exact ih
  |sub _ _ _=>exact Le.refl _
  |bsl _ _=>exact Le.refl _
  |_=>exact ih
theorem N9 (hh:Ext h h') (t:Ty) (n:Nat) (c:List SV):Le (KP h t n c) (KP h' t n c):=
 (GA hh c).bind λb=>Le.cond ((kJ hh t n c).bind λ_=>Le.refl _) ((KW hh t n c).bind λ_=>Le.refl _)
theorem Dq (hh:Ext h h') (t:Ty) (v:SV):Le (tY h t v) (tY h' t v):=by
 have ind:∀(v:SV) (p:List Nat× List t.El),v.list h t=some p->qQ h' v p.1=qQ h v p.1:=λv p hp=>by
  cases v with
  |own i=>
   simp only[SV.list]at hp
   cases hl:look h i with
   |none=>rw[hl]at hp;exact nomatch hp
   |some B=>simp only[qQ,hl,hh i B hl]
  |_=>rfl
 have lst:∀v:SV,Le ((v.list h t).bind λp=>cond (re t) (some (none,[],p.2)) (some (some (qQ h v p.1),[],p.2)):Option (Option (List Nat)× List Nat× List t.El)) ((v.list h' t).bind λp=>cond (re t) (some (none,[],p.2)) (some (some (qQ h' v p.1),[],p.2))):=λv q hq=>by
  rw[An]at hq⊢;obtain⟨p,hp,hq⟩:=hq;exact⟨p,Jg hh t v p hp,by rw[ind v p hp];exact hq⟩
 cases v with
 |bsl i n=>
  intro p hp;simp only[tY]at hp⊢
  cases hl:look h i with
  |none=>rw[hl]at hp;exact nomatch hp
  |some B=>
   rw[hl]at hp;rw[hh i B hl]
   cases B with
   |box cs=>exact((N9 hh t n cs).bind λ_=>Le.refl _) p hp
   |arr _ _ _=>exact nomatch hp
 |r d x=>exact lst (.r d x)
 |cF=>exact lst .cF
 |qZ=>exact lst .qZ
 |own i=>exact lst (.own i)
 |sub i o n=>exact lst (.sub i o n)
 |ptr i x o=>exact lst (.ptr i x o)
 |inn i x o=>exact lst (.inn i x o)
 |lB d x=>exact lst (.lB d x)
 |agg x=>exact lst (.agg x)
 |tup x=>exact lst (.tup x)
 |fn f a b=>exact lst (.fn f a b)
 |undef=>exact lst .undef
end
end
section
abbrev Cell:=Nat× Nat
def _root_.Go.World.at? (w:World) (p:Cell):Option Value:=w.cell? ⟨p.1,p.2,none⟩
def _root_.Go.World.eK (w:World) (p:Cell):Nat× Nat× Nat:=
 match w.heap[p.1]? with
 |some (.cells c _ fr)=>(fr.1,fr.2,c.size)
 |_=>(0,0,0)
def calm (r:Nat× Nat× Nat):Bool:=decide (r.1=r.2.1\/r.2.2<=r.1)
def whole (r:Nat× Nat× Nat) (o n:Nat):Bool:=calm r&&decide (o=0/\r.2.2=n)
theorem sw {r:Nat× Nat× Nat} {o n:Nat} (h:whole r o n=true):calm r=true:=by
 unfold whole at h;rw[XB]at h;exact h.1
theorem KY {n:Nat}:whole (0,0,n) 0 n=true:=by simp[whole,calm]
theorem mJ {w:World} {b o:Nat} {u:Value} (h:w.at? (b,o)=some u) (hc:calm (w.eK (b,o))=true):w.frozen? ⟨b,o,none⟩=false:=by
 unfold World.at? World.cell? at h;unfold calm World.eK at hc;unfold World.frozen?
 cases hb:w.heap[b]? with
 |none=>rfl
 |some ob=>
  cases ob with
  |cells c t fr=>
   simp only[hb,Y5,YX,if_false]at h;simp only[hb,decide_eq_true_eq]at hc;have:=(XW.1 h).1;obtain⟨lo,hi⟩:=fr;simp only at hc⊢;rw[Bool.and_eq_false_iff,decide_eq_false_iff_not,decide_eq_false_iff_not]
   omega
  |_=>rfl
theorem GC (w:World) (a:Addr) (v:Value) (p:Cell):(w.setCell a v).eK p=w.eK p:=by
 unfold World.eK World.setCell;simp only[Array.getElem?_modify];by_cases e:a.block=p.1
 ·rw[if_pos e]
  cases hb:w.heap[p.1]? with
  |none=>rfl
  |some ob=>
   cases ob with
   |cells c t fr=>simp only[Zf];split<;>simp
   |_=>rfl
 ·rw[if_neg e]
theorem gR (b:Nat):∀(vs:List Value) (o:Nat) (w:World) (p:Cell),(w.setCells b o vs).eK p=w.eK p
 |[],_,_,_=>rfl
 |v::vs,o,w,p=>(gR b vs (o+1) (w.setCell ⟨b,o,none⟩ v) p).trans (GC w _ v p)
def one:Value->Bool
 |.agg _|.tuple _=>false
 |_=>true
class Tok where
 env:Nat->Value
 Oa:∀n,one (env n)=true
 Ob:env 0=.slice none 0 0
variable [Tok]
def reg (b o n:Nat) (p:Cell):Prop:=p.1=b/\o<=p.2/\p.2<o+n
def aB (t:Ty) (xs:List t.El) (i j:Nat) (r:R):Prop:=∃x,xs[i]? =some x/\(t.cells x)[j]? =some r
theorem aO {t:Ty} {xs:List t.El} {i j:Nat} {r:R} (h:aB t xs i j r):i<xs.length/\j<t.sz:=by
 obtain⟨x,hx,hr⟩:=h;refine⟨(Of.1 hx).1,?_⟩;have:=(Of.1 hr).1;rwa [Ty.cw]at this
theorem dU {t:Ty} {xs:List t.El} {i j:Nat} (hi:i<xs.length) (hj:j<t.sz):∃r,aB t xs i j r:=by
 refine⟨(t.cells xs[i])[j]'(by rw[Ty.cw];exact hj),xs[i],?_,?_⟩<;>simp
theorem rh {i j n s c:Nat} (hi:i<n) (hj:j<s) (h:n<=c):i*s+j<c*s:=by
 have h1:(i+1)*s<=c*s:=XZ s (by omega);have:(i+1)*s=i*s+s:=Y0 i s;omega
inductive RepR (w:World) (ok:Cell->Prop):R->Value->Prop
 |int (k:IntKind) (n:Int):RepR w ok (.int k n) (.int k n)
 |bool (b:Bool):RepR w ok (.bool b) (.bool b)
 |str (l:List UInt8):RepR w ok (.str l) (.string ⟨l.toArray⟩)
 |sl (t:Ty) (xs:List t.El) (a:Option Addr) (cap b o:Nat) (vs:Nat->Nat->Value)
   (hcap:xs.length<=cap) (ha:xs=[]\/a=some ⟨b,o,none⟩)
   (hc:∀i j r,aB t xs i j r->ok (b,o+(i*t.sz+j))/\w.at? (b,o+(i*t.sz+j))=some (vs i j))
   (hr:∀i j r,aB t xs i j r->RepR w ok r (vs i j)):RepR w ok (.sl t xs) (.slice a xs.length cap)
 |tok (n:Nat):RepR w ok (.tok n) (Tok.env n)
 |nr (v:Value) (h:one v=true):RepR w ok .nr v
theorem RepR.frame {w w':World} {ok ok':Cell->Prop} {r:R} {v:Value} (h:RepR w ok r v)
  (hf:∀p u,ok p->w.at? p=some u->ok' p/\w'.at? p=some u):RepR w' ok' r v:=by
 induction h with
 |int=>exact .int _ _
 |bool=>exact .bool _
 |str=>exact .str _
 |tok=>exact .tok _
 |nr v h=>exact .nr v h
 |sl t xs a cap b o vs hcap ha hc _ ih=>
  exact .sl t xs a cap b o vs hcap ha (λi j r hr=>hf _ _ (hc i j r hr).1 (hc i j r hr).2) ih
structure Row (w:World) (inner:R->Value->(Cell->Prop)->Prop) (t:Ty) (xs:List t.El) (hdr:Value) (fp:Cell->Prop) where
 a:Option Addr
 cap:Nat
 b:Nat
 o:Nat
 vs:Nat->Nat->Value
 fs:Nat->Nat->Cell->Prop
 Az:hdr=.slice a xs.length cap
 hcap:xs.length<=cap
 ha:cap=0\/a=some ⟨b,o,none⟩
 lC:∀j,j<cap*t.sz->(∃v,w.at? (b,o+j)=some v)/\whole (w.eK (b,o+j)) o (cap*t.sz)=true
 hc:∀i j r,aB t xs i j r->w.at? (b,o+(i*t.sz+j))=some (vs i j)
 hr:∀i j r,aB t xs i j r->inner r (vs i j) (fs i j)
 hd1:∀i j r p,aB t xs i j r->fs i j p->¬reg b o (cap*t.sz) p
 hd2:∀i j r i' j' r' p,aB t xs i j r->aB t xs i' j' r'->fs i j p->fs i' j' p->i=i'/\j=j'
 hfp:∀p,fp p↔reg b o (cap*t.sz) p\/∃i j r,aB t xs i j r/\fs i j p
inductive fV (w:World):R->Value->(Cell->Prop)->Prop
 |int (k:IntKind) (n:Int):fV w (.int k n) (.int k n) (λ_=>False)
 |bool (b:Bool):fV w (.bool b) (.bool b) (λ_=>False)
 |str (l:List UInt8):fV w (.str l) (.string ⟨l.toArray⟩) (λ_=>False)
 |sl (t:Ty) (xs:List t.El) (a:Option Addr) (cap b o:Nat) (vs:Nat->Nat->Value) (fs:Nat->Nat->Cell->Prop) (fp:Cell->Prop)
   (hcap:xs.length<=cap) (ha:cap=0\/a=some ⟨b,o,none⟩)
   (lC:∀j,j<cap*t.sz->(∃v,w.at? (b,o+j)=some v)/\whole (w.eK (b,o+j)) o (cap*t.sz)=true)
   (hc:∀i j r,aB t xs i j r->w.at? (b,o+(i*t.sz+j))=some (vs i j))
   (hr:∀i j r,aB t xs i j r->fV w r (vs i j) (fs i j))
   (hd1:∀i j r p,aB t xs i j r->fs i j p->¬reg b o (cap*t.sz) p)
   (hd2:∀i j r i' j' r' p,aB t xs i j r->aB t xs i' j' r'->fs i j p->fs i' j' p->i=i'/\j=j')
   (hfp:∀p,fp p↔reg b o (cap*t.sz) p\/∃i j r,aB t xs i j r/\fs i j p):fV w (.sl t xs) (.slice a xs.length cap) fp
 |tok (n:Nat):fV w (.tok n) (Tok.env n) (λ_=>False)
 |nr (v:Value) (h:one v=true):fV w .nr v (λ_=>False)
theorem fV.row {w:World} {t:Ty} {xs:List t.El} {v:Value} {fp:Cell->Prop} (h:fV w (.sl t xs) v fp):Nonempty (Row w (fV w) t xs v fp):=by
 cases h with
 |sl t xs a cap b o vs fs fp hcap ha lC hc hr hd1 hd2 hfp=>exact⟨⟨a,cap,b,o,vs,fs,rfl,hcap,ha,lC,hc,hr,hd1,hd2,hfp⟩⟩
theorem Row.VM {w:World} {t:Ty} {xs:List t.El} {v:Value} {fp:Cell->Prop} (h:Row w (fV w) t xs v fp):fV w (.sl t xs) v fp:=by
 obtain⟨a,cap,b,o,vs,fs,rfl,hcap,ha,lC,hc,hr,hd1,hd2,hfp⟩:=h;exact .sl t xs a cap b o vs fs fp hcap ha lC hc hr hd1 hd2 hfp
theorem fV.frame {w w':World} {r:R} {v:Value} {fp:Cell->Prop} (h:fV w r v fp)
  (hf:∀p u,fp p->w.at? p=some u->w'.at? p=some u/\w'.eK p=w.eK p):fV w' r v fp:=by
 induction h with
 |int=>exact .int _ _
 |bool=>exact .bool _
 |str=>exact .str _
 |tok=>exact .tok _
 |nr v h=>exact .nr v h
 |sl t xs a cap b o vs fs fp hcap ha lC hc _ hd1 hd2 hfp ih=>
  have hin:∀i j r,aB t xs i j r->fp (b,o+(i*t.sz+j)):=λi j r hr=>(hfp _).2 (.inl ⟨rfl,by simp,by
   have:=rh (aO hr).1 (aO hr).2 hcap;simp;omega⟩)
  refine .sl t xs a cap b o vs fs fp hcap ha (λj hj=>?_) (λi j r hr=>(hf _ _ (hin i j r hr) (hc i j r hr)).1)
   (λi j r hr=>ih i j r hr λp u hp=>hf p u ((hfp p).2 (.inr ⟨i,j,r,hr,hp⟩))) hd1 hd2 hfp
  obtain⟨⟨v,hv⟩,hi⟩:=lC j hj;have:=hf (b,o+j) v ((hfp _).2 (.inl ⟨rfl,by simp,by simp;omega⟩)) hv;exact⟨⟨v,this.1⟩,by rw[this.2];exact hi⟩
theorem fV.Oc {w:World} {r:R} {v:Value} {fp:Cell->Prop} {ok:Cell->Prop} (h:fV w r v fp) (hok:∀p,fp p->ok p):RepR w ok r v:=by
 induction h with
 |int=>exact .int _ _
 |bool=>exact .bool _
 |str=>exact .str _
 |tok=>exact .tok _
 |nr v h=>exact .nr v h
 |sl t xs a cap b o vs fs fp hcap ha lC hc _ hd1 hd2 hfp ih=>
  refine .sl t xs a cap b o vs hcap ?_ (λi j r hr=>⟨hok _ ((hfp _).2 (.inl ⟨rfl,by simp,by
   have:=rh (aO hr).1 (aO hr).2 hcap;simp;omega⟩)),hc i j r hr⟩)
   (λi j r hr=>ih i j r hr λp hp=>hok p ((hfp p).2 (.inr ⟨i,j,r,hr,hp⟩)))
  rcases ha with rfl|h
  ·exact .inl (Yo.1 (by omega))
  ·exact .inr h
theorem fV.there {w:World} {r:R} {v:Value} {fp:Cell->Prop} (h:fV w r v fp):∀p,fp p->∃u,w.at? p=some u:=by
 induction h with
 |int=>exactλ_ h=>h.elim
 |bool=>exactλ_ h=>h.elim
 |str=>exactλ_ h=>h.elim
 |tok=>exactλ_ h=>h.elim
 |nr=>exactλ_ h=>h.elim
 |sl t xs a cap b o vs fs fp hcap ha lC hc _ hd1 hd2 hfp ih=>
  intro p hp
  rcases(hfp p).1 hp with⟨h1,h2,h3⟩|⟨i,j,r,hr,hp⟩
  ·obtain⟨p1,p2⟩:=p;have h1:p1=b:=h1;simp only at h1 h2 h3;subst h1;have:=(lC (p2-o) (by omega)).1;rwa [show o+(p2-o)=p2 from by omega]at this
  ·exact ih i j r hr p hp
structure Pl where
 hdr:Nat->Value
 fp:Nat->Cell->Prop
 base:Cell->Prop
def Blk.lF:Blk->Bool
 |.box _=>true
 |.arr _ _ _=>false
def okd (H:aM) (pl:Pl) (d:List Nat) (p:Cell):Prop:=pl.base p/\∀i B,look H i=some B->(mem i d=true->B.lF=true)->¬pl.fp i p
inductive ar (w:World) (H:aM) (pl:Pl):SV->Value->Prop
 |r (d:List Nat) (x:R) (v:Value) (h:RepR w (okd H pl d) x v):ar w H pl (.r d x) v
 |cF:ar w H pl .cF (.slice none 0 0)
 |qZ:ar w H pl .qZ (.pointer none)
 |own (i:Nat) (sh:Option (List Nat)) (t:Ty) (xs:List t.El) (h:look H i=some (.arr sh t xs)):ar w H pl (.own i) (pl.hdr i)
 |sub (i o n:Nat) (sh:Option (List Nat)) (t:Ty) (xs:List t.El) (a a':Option Addr) (cap jk:Nat) (h:look H i=some (.arr sh t xs))
   (hh:pl.hdr i=.slice a xs.length cap) (hn:o+n<=xs.length) (hc:n<=jk) (hc':o+jk=cap) (ha:jk=0\/a'=a.map (·.add (o*t.sz))):
   ar w H pl (.sub i o n) (.slice a' n jk)
 |bsl (i n:Nat) (cs:List SV) (a:Addr) (h:look H i=some (.box cs)) (hh:pl.hdr i=.pointer (some a)):ar w H pl (.bsl i n) (.slice (some a) n n)
 |wQ (i o:Nat) (cs:List SV) (b k:Nat) (h:look H i=some (.box cs)) (hh:pl.hdr i=.pointer (some ⟨b,k,none⟩)):ar w H pl (.ptr i 0 o) (.pointer (some ⟨b,k+o,none⟩))
 |uQ (i x o:Nat) (sh:Option (List Nat)) (t:Ty) (xs:List t.El) (b k n cap:Nat) (h:look H i=some (.arr sh t xs)) (hx:x<xs.length)
   (hh:pl.hdr i=.slice (some ⟨b,k,none⟩) n cap):ar w H pl (.ptr i x o) (.pointer (some ⟨b,k+(x*t.sz+o),none⟩))
 |inn (i x c:Nat) (sh:Option (List Nat)) (t:Ty) (xs:List t.El) (b k n cap:Nat) (v:Value) (h:look H i=some (.arr sh t xs)) (hx:x<xs.length) (hc:c<t.sz)
   (hh:pl.hdr i=.slice (some ⟨b,k,none⟩) n cap) (hok:okd H pl [i] (b,k+(x*t.sz+c))) (hv:w.at? (b,k+(x*t.sz+c))=some v) (h1:one v=true):ar w H pl (.inn i x c) v
 |lB (d:List Nat) (cs:List R) (b o:Nat) (vs:Nat->Value) (hc:∀j r,cs[j]? =some r->okd H pl d (b,o+j)/\w.at? (b,o+j)=some (vs j))
   (hr:∀j r,cs[j]? =some r->RepR w (okd H pl d) r (vs j)):ar w H pl (.lB d cs) (.pointer (some ⟨b,o,none⟩))
 |agg (cs:List SV) (vs:Array Value) (hl:cs.length=vs.size) (h1:∀(j:Nat) (v:Value),vs[j]? =some v->one v=true) (h:∀(j:Nat) (x:SV) (v:Value),cs[j]? =some x->vs[j]? =some v->ar w H pl x v):ar w H pl (.agg cs) (.agg vs)
 |tup (cs:List SV) (vs:Array Value) (hl:cs.length=vs.size) (h:∀(j:Nat) (x:SV) (v:Value),cs[j]? =some x->vs[j]? =some v->ar w H pl x v):ar w H pl (.tup cs) (.tuple vs)
 |fn (f:Fn) (as bs:List SV) (us vs:Array Value) (hl:as.length=us.size) (h:∀(j:Nat) (x:SV) (v:Value),as[j]? =some x->us[j]? =some v->ar w H pl x v)
   (hl':bs.length=vs.size) (h':∀(j:Nat) (x:SV) (v:Value),bs[j]? =some x->vs[j]? =some v->ar w H pl x v):ar w H pl (.fn f as bs) (.func f us vs)
 |undef (v:Value):ar w H pl .undef v
def eL (w:World) (H:aM) (pl:Pl) (i:Nat):Blk->Prop
 |.box cs=>∃b o,pl.hdr i=.pointer (some ⟨b,o,none⟩)/\(∀p,pl.fp i p↔reg b o cs.length p)/\
   ∀j v,cs[j]? =some v->∃u,w.at? (b,o+j)=some u/\calm (w.eK (b,o+j))=true/\one u=true/\ar w H pl v u
 |.arr none t xs=>Nonempty (Row w (fV w) t xs (pl.hdr i) (pl.fp i))
 |.arr (some d) t xs=>Nonempty (Row w (λr v f=>RepR w (okd H pl d) r v/\∀p,¬f p) t xs (pl.hdr i) (pl.fp i))
structure cY (H:aM) (pl:Pl) (w:World):Prop where
 blk:∀i B,look H i=some B->eL w H pl i B
 dis:∀i j B B' p,look H i=some B->look H j=some B'->pl.fp i p->pl.fp j p->i=j
 ob:∀i B p,look H i=some B->pl.fp i p->pl.base p
 nb:∀p,w.at? p=none->pl.base p
end
section
variable [Tok]
section lists
variable {α:Type}
theorem aC (k:Nat) (v:α) (l:List (Nat× α)) (n:Nat):look ((k,v)::l) n=if k=n then some v else look l n:=by
 simp only[look];cases h:Nat.beq k n
 ·have:¬k=n:=λe=>by subst e;simp at h
  simp[this]
 ·have:k=n:=On h;simp[this]
theorem fj (l:List (Nat× α)) (n m:Nat) (v:α):look (put l n v) m=if n=m then some v else look l m:=by
 induction l with
 |nil=>rw[put,aC]
 |cons x l ih=>
  obtain⟨k,u⟩:=x;simp only[put];cases hk:Nat.beq k n
  ·simp only[cond_false,look,ih];cases hm:Nat.beq k m
   ·simp
   ·have h1:k=m:=On hm;subst h1
    have:¬n=k:=λe=>by subst e;simp at hk
    simp[this]
  ·have h1:k=n:=On hk;subst h1;simp only[cond_true,look];cases hm:Nat.beq k m
   ·have:¬k=m:=λe=>by subst e;simp at hm
    simp[this]
   ·have:k=m:=On hm;simp[this]
theorem aJ (l l':List (Nat× α)) (n:Nat):look (l++l') n=(look l n).or (look l' n):=by
 induction l with
 |nil=>simp[look]
 |cons x l ih=>
  obtain⟨k,u⟩:=x;simp only[YY,look];cases Nat.beq k n<;>simp[ih]
theorem mem_iff (i:Nat) (l:List Nat):mem i l=true↔i∈l:=by
 induction l with
 |nil=>simp[mem]
 |cons k l ih=>
  simp only[mem];cases h:Nat.beq k i
  ·have:¬i=k:=λe=>by subst e;simp at h
   simp[ih,this]
  ·have:k=i:=On h;simp[this]
theorem fX (T d:List Nat) (h:hit T d=false):∀i,mem i d=true->mem i T=false:=by
 induction d with
 |nil=>intro i hi;simp[mem]at hi
 |cons k l ih=>
  simp only[hit]at h;cases hk:mem k T
  ·rw[hk]at h;intro i hi;rw[mem_iff]at hi
   rcases X3.1 hi with rfl|hi
   ·exact hk
   ·exact ih h i ((mem_iff i l).2 hi)
  ·rw[hk]at h;simp at h
theorem bG (n:Nat) (l:List Blk) (i:Nat):look (aN n l) i=if n<=i then l[i-n]? else none:=by
 induction l generalizing n with
 |nil=>simp[aN,look]
 |cons b l ih=>
  rw[aN,aC,ih];by_cases h:n=i
  ·subst h;simp
  ·by_cases h2:n<=i
   ·rw[if_neg h,if_pos (by omega),if_pos h2];rw[show i-n=(i-(n+1))+1 from by omega];rfl
   ·rw[if_neg h,if_neg (by omega),if_neg h2]
theorem GD (u h:aM) (i:Nat):look (tI u h) i=match look u.reverse i with|some b=>some b|none=>look h i:=by
 induction u generalizing h with
 |nil=>simp[tI,look]
 |cons x l ih=>
  obtain⟨k,b⟩:=x;rw[tI,ih,List.reverse_cons,aJ,fj,aC]
  cases look l.reverse i with
  |some c=>simp
  |none=>by_cases hk:k=i<;>simp[hk,look]
theorem Ji (T:Kil) (s:List (Nat× SV)) (t:Nat):look (KM T s) t=(look s t).map (SV.aP T):=by
 induction s with
 |nil=>rfl
 |cons x l ih=>
  obtain⟨k,v⟩:=x;rw[KM,aC,aC,ih];by_cases h:k=t<;>simp[h]
theorem AA (T:Kil) (h h':aM) (e:As T h=some h') (i:Nat):
  look h' i=cond (mem i T.1) none ((look h i).bind (Blk.aP T))/\(∀b,look h i=some b->mem i T.1=false->∃b',b.aP T=some b'):=by
 induction h generalizing h' with
 |nil=>simp only[As,It]at e;subst e;simp[look]
 |cons x l ih=>
  obtain⟨k,b⟩:=x;simp only[As]at e;cases hk:mem k T.1
  ·simp only[hk,cond_false,An,It]at e;obtain⟨b',hb,l',hl,rfl⟩:=e;rw[aC,aC];by_cases hi:k=i
   ·subst hi;simp[hk,hb]
   ·simpa[hi]using ih l' hl
  ·simp only[hk,cond_true]at e;have:=ih h' e;rw[aC];by_cases hi:k=i
   ·subst hi;simp[hk]at this⊢;exact this
   ·simpa[hi]using this
theorem eR {α:Type} {l:List α} (h:isNil l=true):l=[]:=by cases l with|nil=>rfl|cons _ _=>exact nomatch h
theorem Jj {T:Kil} (h:T.2=[]) (h1:∀i,mem i T.1=true->mem i T.2=true):T=([],[]):=by
 obtain⟨a,b⟩:=T;simp only at h h1;subst h
 cases a with
 |nil=>rfl
 |cons x l=>have:=h1 x (by simp[mem]);exact nomatch this
theorem AB (i:Nat) (a b:List Nat):mem i (a++b)=(mem i a||mem i b):=by
 induction a with
 |nil=>simp[mem]
 |cons x l ih=>simp only[YY,mem,ih];cases Nat.beq x i<;>simp
theorem CR.gx (c:CR):∀i,mem i c.kil.1=true->mem i c.kil.2=true:=λi h=>by
 show mem i (c.gone++c.mH)=true;rw[AB,show mem i c.gone=true from h];rfl
theorem oZ (T:Kil) (l:List SV) (j:Nat):(iU T l)[j]? =(l[j]?).map (SV.aP T):=by
 induction l generalizing j with
 |nil=>rfl
 |cons v l ih=>cases j with
  |zero=>rfl
  |succ j=>simpa[iU]using ih j
theorem gS (T:Kil) (l:List SV):(iU T l).length=l.length:=by
 induction l with
 |nil=>rfl
 |cons v l ih=>simp[iU,ih]
end lists
def Blk.nt:Blk->Blk->Prop
 |.box a,.box b=>a.length=b.length
 |.arr _ t xs,.arr _ t' ys=>t.sz=t'.sz/\xs.length=ys.length
 |_,_=>False
theorem Blk.dB (b:Blk):b.nt b:=by cases b<;>simp[Blk.nt]
structure lM (T:Kil) (w:World) (H:aM) (pl:Pl) (w':World) (H':aM) (pl':Pl):Prop where
 k1:∀i B,look H i=some B->mem i T.1=false->∃B',look H' i=some B'/\B.nt B'/\pl'.hdr i=pl.hdr i
 k2:∀d p u,(∀i,mem i d=true->mem i T.2=false)->okd H pl d p->w.at? p=some u->okd H' pl' d p/\w'.at? p=some u
theorem ar.bJ {T:Kil} {w w':World} {H H':aM} {pl pl':Pl} (hk:lM T w H pl w' H' pl') {v:SV} {u:Value} (h:ar w H pl v u):
  ar w' H' pl' (v.aP T) u:=by
 induction h with
 |r d x v h=>
  simp only[SV.aP];cases hd:hit T.2 d
  ·exact .r d x v (h.frame λp u hp hu=>hk.k2 d p u (fX T.2 d hd) hp hu)
  ·exact .undef _
 |cF=>exact .cF
 |qZ=>exact .qZ
 |own i sh t xs h=>
  simp only[SV.aP];cases hi:mem i T.1
  ·obtain⟨B',h1,h2,h3⟩:=hk.k1 i _ h hi
   cases B' with
   |box cs=>exact h2.elim
   |arr sh' t' ys=>rw[<-h3];exact .own i sh' t' ys h1
  ·exact .undef _
 |sub i o n sh t xs a a' cap jk h hh hn hc hc' ha=>
  simp only[SV.aP];cases hi:mem i T.1
  ·obtain⟨B',h1,h2,h3⟩:=hk.k1 i _ h hi
   cases B' with
   |box cs=>exact h2.elim
   |arr sh' t' ys=>
    obtain⟨hz,hl⟩:=h2;exact .sub i o n sh' t' ys a a' cap jk h1 (by rw[h3,hh,hl]) (hl▸hn) hc hc' (by rw[<-hz];exact ha)
  ·exact .undef _
 |bsl i n cs a h hh=>
  simp only[SV.aP];cases hi:mem i T.1
  ·obtain⟨B',h1,h2,h3⟩:=hk.k1 i _ h hi
   cases B' with
   |arr _ _ _=>exact h2.elim
   |box ds=>
    exact .bsl i n ds a h1 (h3.trans hh)
  ·exact .undef _
 |wQ i o cs b k h hh=>
  simp only[SV.aP];cases hi:mem i T.1
  ·obtain⟨B',h1,h2,h3⟩:=hk.k1 i _ h hi
   cases B' with
   |arr _ _ _=>exact h2.elim
   |box ds=>exact .wQ i o ds b k h1 (h3.trans hh)
  ·exact .undef _
 |uQ i x o sh t xs b k n cap h hx hh=>
  simp only[SV.aP];cases hi:mem i T.1
  ·obtain⟨B',h1,h2,h3⟩:=hk.k1 i _ h hi
   cases B' with
   |box cs=>exact h2.elim
   |arr sh' t' ys=>
    obtain⟨hz,hl⟩:=h2;rw[hz];exact .uQ i x o sh' t' ys b k n cap h1 (hl▸hx) (h3.trans hh)
  ·exact .undef _
 |inn i x c sh t xs b k n cap v h hx hc hh hok hv h1=>
  simp only[SV.aP];cases hi:(mem i T.1||mem i T.2)
  ·rw[Bool.or_eq_false_iff]at hi;obtain⟨B',g1,g2,g3⟩:=hk.k1 i _ h hi.1
   have g4:=hk.k2 [i] _ v (λj hj=>by
    simp only[mem]at hj;cases hb:Nat.beq i j<;>simp only[hb,cond_true,cond_false]at hj
    ·exact nomatch hj
    ·rw[<-On hb];exact hi.2) hok hv
   cases B' with
   |box cs=>exact g2.elim
   |arr sh' t' ys=>
    obtain⟨hz,hl⟩:=g2;rw[hz]at g4 hc;exact .inn i x c sh' t' ys b k n cap v g1 (hl▸hx) hc (g3.trans hh) g4.1 g4.2 h1
  ·exact .undef _
 |lB d cs b o vs hc hr=>
  simp only[SV.aP];cases hd:hit T.2 d
  ·exact .lB d cs b o vs (λj r hj=>hk.k2 d _ _ (fX T.2 d hd) (hc j r hj).1 (hc j r hj).2)
    λj r hj=>(hr j r hj).frame λp u hp hu=>hk.k2 d p u (fX T.2 d hd) hp hu
  ·exact .undef _
 |agg cs vs hl h1 h ih=>
  refine .agg _ vs (by rw[gS,hl]) h1 λj x v hx hv=>?_;rw[oZ]at hx;obtain⟨y,hy,rfl⟩:=XK.1 hx
  exact ih j y v hy hv
 |tup cs vs hl h ih=>
  refine .tup _ vs (by rw[gS,hl]) λj x v hx hv=>?_;rw[oZ]at hx;obtain⟨y,hy,rfl⟩:=XK.1 hx
  exact ih j y v hy hv
 |fn f as bs us vs hl h hl' h' ih ih'=>
  refine .fn f _ _ us vs (by rw[gS,hl]) (λj x v hx hv=>?_) (by rw[gS,hl']) λj x v hx hv=>?_
  ·rw[oZ]at hx;obtain⟨y,hy,rfl⟩:=XK.1 hx;exact ih j y v hy hv
  ·rw[oZ]at hx;obtain⟨y,hy,rfl⟩:=XK.1 hx
   exact ih' j y v hy hv
 |undef v=>exact .undef _
theorem EJ (d:List Nat):hit [] d=false:=by
 induction d with
 |nil=>rfl
 |cons k l ih=>simpa[hit,mem]using ih
mutual
theorem dC:(v:SV)->v.aP ([],[])=v
 |.r d x=>by simp[SV.aP,EJ]
 |.own j=>by simp[SV.aP,mem]
 |.sub j o n=>by simp[SV.aP,mem]
 |.bsl j n=>by simp[SV.aP,mem]
 |.ptr j x o=>by simp[SV.aP,mem]
 |.inn j x c=>by simp[SV.aP,mem]
 |.lB d cs=>by simp[SV.aP,EJ]
 |.agg cs=>by simp[SV.aP,jX cs]
 |.tup cs=>by simp[SV.aP,jX cs]
 |.fn f a b=>by simp[SV.aP,jX a,jX b]
 |.cF=>by simp[SV.aP]
 |.qZ=>by simp[SV.aP]
 |.undef=>by simp[SV.aP]
theorem jX:(l:List SV)->iU ([],[]) l=l
 |[]=>rfl
 |v::l=>by simp[iU,dC v,jX l]
end
theorem ar.zt {w w':World} {H H':aM} {pl pl':Pl} (hk:lM ([],[]) w H pl w' H' pl') {v:SV} {u:Value} (h:ar w H pl v u):
  ar w' H' pl' v u:=by have:=h.bJ hk;rwa [dC]at this
end
section
variable [Tok]
section
variable {w:World} {H:aM} {pl:Pl}
theorem RepR.scalar {ok:Cell->Prop} {x:R} {v:Value} (h:RepR w ok x v) (ok':Cell->Prop) (hs:∀t xs,x≠.sl t xs):RepR w ok' x v:=by
 cases h with
 |int=>exact .int _ _
 |bool=>exact .bool _
 |str=>exact .str _
 |tok=>exact .tok _
 |nr v h=>exact .nr v h
 |sl t xs=>exact(hs t xs rfl).elim
theorem AD {d:List Nat} {x:R} {v:Value} (h:RepR w (okd H pl d) x v):ar w H pl (mkR d x) v:=by
 cases x with
 |sl t xs=>exact .r _ _ _ h
 |_=>exact .r _ _ _ (h.scalar _ (λ_ _ e=>nomatch e))
theorem RepR.tD {ok:Cell->Prop} {x:R} {v:Value} (h:RepR w ok x v):one v=true:=by cases h<;>first|rfl|exact Tok.Oa _|assumption
def gT (w:World) (H:aM) (pl:Pl) (s:List (Nat× SV)) (a:Act):Prop:=∀t v,look s t=some v->ar w H pl v (a.tmps.getD t undef)
theorem AE {v:Value} {x:SV} (h:wL v=some x):ar w H pl x v:=by
 unfold wL at h
 split at h<;>first|(cases h)|skip
 ·exact .r _ _ _ (.bool _)
 ·exact .r _ _ _ (.int _ _)
 ·exact .r _ _ _ (.str _)
 ·exact .cF
 ·exact .qZ
theorem Dr:∀{vs:List Value} {l:List SV},Dm vs=some l->l.length=vs.length/\∀(j:Nat) (x:SV) (v:Value),l[j]? =some x->vs[j]? =some v->ar w H pl x v
 |[],l,h=>by cases h;exact⟨rfl,λj x v hx _=>by simp at hx⟩
 |v::vs,l,h=>by
  simp only[Dm,An,It]at h;obtain⟨x,hx,xs,hxs,rfl⟩:=h;obtain⟨h1,h2⟩:=Dr hxs;refine⟨by simp[h1],λj y u hy hu=>?_⟩
  cases j with
  |zero=>simp at hy hu;subst hy hu;exact AE hx
  |succ j=>exact h2 j y u (by simpa using hy) (by simpa using hu)
theorem Jk {v:Value} {x:SV} (h:wL v=some x):one v=true:=by
 unfold wL at h
 split at h<;>first|rfl|(cases h)
theorem Ds:∀{vs:List Value} {l:List SV},Dm vs=some l->∀(j:Nat) (v:Value),vs[j]? =some v->one v=true
 |[],l,_,j,v,hv=>by simp at hv
 |u::vs,l,h,j,v,hv=>by
  simp only[Dm,An,It]at h;obtain⟨x,hx,xs,hxs,rfl⟩:=h
  cases j with
  |zero=>simp at hv;subst hv;exact Jk hx
  |succ j=>exact Ds hxs j v (by simpa using hv)
theorem wR {v:Value} {x:SV} (h:KN v=some x):ar w H pl x v:=by
 unfold KN at h;split at h
 ·simp only[An,It]at h;obtain⟨l,hl,rfl⟩:=h;obtain⟨h1,h2⟩:=Dr (w:=w) (H:=H) (pl:=pl) hl;refine .agg _ _ (by simpa using h1) (λj v hv=>?_) λj x v hx hv=>h2 j x v hx (by simpa using hv);exact Ds hl j v (by simpa using hv)
 ·exact AE h
theorem aW {s:List (Nat× SV)} {a:Act} (hs:gT w H pl s a) {o:Operand} {x:SV} (h:opd s o=some x):ar w H pl x (a.eval o):=by
 cases o with
 |tmp t=>exact hs t x h
 |const v=>exact wR h
 |func f=>
  simp only[opd,It]at h;subst h
  exact .fn _ _ _ _ _ rfl (λj x v hx _=>by simp at hx) rfl (λj x v hx _=>by simp at hx)
 |global g=>exact nomatch h
theorem ey {P:Program} {T:TypeId} {i:TypeInfo} (h:P.info? T=some i) (w:World):(sizeOf T).run P w=.ok i.size w:=by
 simp[sizeOf,typeInfo,h]
theorem cZ {P:Program} {T:TypeId} {d:TypeDesc} (h:P.underlying T=some d) (w:World):(underlying T).run P w=.ok d w:=by
 simp[underlying,h]
theorem mo {P:Program} {T:TypeId} {d:TypeDesc} (h:P.underlying T=some d) (w:World):(isAgg T).run P w=.ok (Au P T) w:=by
 simp only[isAgg,Sem.run_bind,cZ h,Result.andThen_ok,Au,h];cases d<;>rfl
theorem AF (hr:cY H pl w) {p:SV} {u:Value} (hp:ar w H pl p u) {cs:List SV} (h:mG H p=some cs):
  ∃b o,u=.pointer (some ⟨b,o,none⟩)/\∀(j:Nat) (x:SV),cs[j]? =some x->∃y,w.at? (b,o+j)=some y/\one y=true/\ar w H pl x y:=by
 cases hp with
 |lB d cs' b o vs hc hr'=>
  simp only[mG,It]at h;subst h;refine⟨b,o,rfl,λj x hx=>?_⟩;rw[Yl]at hx;obtain⟨r,hj,rfl⟩:=XK.1 hx
  exact⟨vs j,(hc j r hj).2,(hr' j r hj).tD,AD (hr' j r hj)⟩
 |wQ i o cs' b k hl hh=>
  simp only[mG,hl,It]at h;subst h;obtain⟨b',o',e,_,hc⟩:=hr.blk i _ hl;rw[hh]at e;cases e;refine⟨b,k+o,rfl,λj x hx=>?_⟩;rw[XU]at hx;obtain⟨y,h1,_,h3,h4⟩:=hc _ _ hx
  exact⟨y,by rw[Yz];exact h1,h3,h4⟩
 |uQ i x o sh t xs b k n cap hl hx hh=>
  simp only[mG,hl,An,It]at h;obtain⟨e,he,rfl⟩:=h;have hb:=hr.blk i _ hl;refine⟨b,k+(x*t.sz+o),rfl,λj y hy=>?_⟩;rw[XU,Yl]at hy;obtain⟨r,hj,rfl⟩:=XK.1 hy;have hcell:aB t xs x (o+j) r:=⟨e,he,hj⟩
  cases sh with
  |none=>
   obtain⟨R⟩:=hb;obtain⟨a',jk,b',o',vs,fs,h1,h2,h3,h4,h5,h6,h7,h8,h9⟩:=R;rw[hh]at h1;cases h1
   have hne:cap≠0:=by omega
   have h3:=h3.resolve_left hne;cases h3;refine⟨vs x (o+j),by rw[show k+(x*t.sz+o)+j=k+(x*t.sz+(o+j))from by omega];exact h5 _ _ _ hcell,?_,?_⟩
   ·exact((h6 _ _ _ hcell).Oc (ok:=λ_=>True) (λ_ _=>trivial)).tD
   ·refine AD ((h6 _ _ _ hcell).Oc λp hp=>⟨hr.ob i _ p hl ((h9 p).2 (.inr ⟨_,_,_,hcell,hp⟩)),λi' B hB hm hf=>?_⟩);have hp':pl.fp i p:=(h9 p).2 (.inr ⟨_,_,_,hcell,hp⟩);have:=hr.dis i' i _ _ p hB hl hf hp';subst this;have hbx:=hm (by simp[NY,mem]);rw[hl]at hB;cases hB
    simp[Blk.lF]at hbx
  |some d=>
   obtain⟨R⟩:=hb;obtain⟨a',jk,b',o',vs,fs,h1,h2,h3,h4,h5,h6,h7,h8,h9⟩:=R;rw[hh]at h1;cases h1
   have hne:cap≠0:=by omega
   have h3:=h3.resolve_left hne;cases h3
   exact⟨vs x (o+j),by rw[show k+(x*t.sz+o)+j=k+(x*t.sz+(o+j))from by omega];exact h5 _ _ _ hcell,(h6 _ _ _ hcell).1.tD,AD (h6 _ _ _ hcell).1⟩
 |_=>exact nomatch h
theorem Dt {α:Type} {n:Nat} {l m:List α} (h:takeN n l=some m):m.length=n/\∀j,j<n->m[j]? =l[j]? :=by
 unfold takeN at h;cases hn:Nat.ble n l.length
 ·simp[hn]at h
 ·simp only[hn,cond_true,It]at h;subst h;have:=XT hn;exact⟨by simp[this],λj hj=>by simp[hj]⟩
theorem EK {P:Program} {T:TypeId} {cs:List SV} {v:SV} (h:ji P T cs=some v) (b o:Nat)
  (hc:∀(j:Nat) (x:SV),cs[j]? =some x->∃y,w.at? (b,o+j)=some y/\one y=true/\ar w H pl x y):
  ∃u,(loadVar T ⟨b,o,none⟩).run P w=.ok u w/\ar w H pl v u:=by
 simp only[ji,An]at h;obtain⟨d,hd,i,hi,l,hl,h⟩:=h;obtain⟨h1,h2⟩:=Dt hl
 have hy:∀j,j<i.size->∃y x,l[j]? =some x/\w.at? (b,o+j)=some y/\ar w H pl x y:=λj hj=>by
  have hx:l[j]? =some (l[j]'(by omega)):=So (by omega);obtain⟨y,h3,_,h5⟩:=hc j _ ((h2 j hj)▸hx);exact⟨y,_,hx,h3,h5⟩
 cases ha:Au P T
 ·simp only[ha,cond_false]at h
  match l,h1,hl,h,hy,h2 with
  |[x],h1,hl,h,hy,h2=>
   simp only[It]at h;subst h;have h1:i.size=1:=h1.symm;obtain⟨y,x',h3,h4,h5⟩:=hy 0 (by omega);simp at h3;subst h3;refine⟨y,?_,h5⟩;have h4:w.cell? ⟨b,o,none⟩=some y:=h4;simp[loadVar,mo hd,ha,h4]
 ·simp only[ha,cond_true,It]at h;subst h
  let f:Nat->Value:=λj=>(w.at? (b,o+j)).getD undef
  have hf:∀j,j<i.size->w.cell? (Addr.add ⟨b,o,none⟩ j)=some (f j):=λj hj=>by
   obtain⟨y,x,_,h4,_⟩:=hy j hj
   have e:Addr.add ⟨b,o,none⟩ j=⟨b,o+j,none⟩:=by
    unfold Addr.add;split
    ·rename_i h0;subst h0;rfl
    ·rfl
   rw[e];show w.at? (b,o+j)=some (f j);simp only[f,h4];rfl
  have Du:∀j,j<i.size->one (f j)=true:=λj hj=>by
   have hx:l[j]? =some (l[j]'(by omega)):=So (by omega);obtain⟨y,h3,h4,_⟩:=hc j _ ((h2 j hj)▸hx);simp only[f,h3];exact h4
  refine⟨.agg ((List.range i.size).map f).toArray,?_,?_⟩
  ·simp[loadVar,mo hd,ha,ey hi,run_loadCells (P:=P) w ⟨b,o,none⟩ i.size f hf]
  ·refine .agg _ _ (by simp[h1]) (λj v hv=>by
    by_cases hj:j<i.size
    ·have:v=f j:=by simp[hj]at hv;exact hv.symm
     rw[this];exact Du j hj
    ·simp[hj]at hv) λj x v hx hv=>?_
   have hj:j<i.size:=by have:=(Of.1 hx).1;omega
   obtain⟨y,x',h3,h4,h5⟩:=hy j hj;rw[h3]at hx;cases hx
   have:v=f j:=by simp[hj]at hv;exact hv.symm
   subst this;simp only[f,h4];exact h5
end
end
end Go.Proofs.Ev
