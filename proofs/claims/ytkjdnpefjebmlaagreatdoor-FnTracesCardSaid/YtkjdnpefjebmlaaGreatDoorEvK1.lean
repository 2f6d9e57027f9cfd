/- The evaluator over the model's code, and that it is sound: part 1. -/
import Derived.Calls
import Derived.Laws.IdiomCopy
import Derived.Laws.Cells
import Derived.Laws.Sem
set_option linter.unusedVariables false
set_option linter.unusedSimpArgs false
set_option linter.unusedSectionVars false
namespace Go.Proofs.Ev
theorem An:type_of% @Option.bind_eq_some_iff:=@Option.bind_eq_some_iff
theorem It:type_of% @Option.some.injEq:=@Option.some.injEq
theorem Of:type_of% @List.getElem?_eq_some_iff:=@List.getElem?_eq_some_iff
theorem On:type_of% @List.getElem?_eq_getElem:=@List.getElem?_eq_getElem
theorem So:type_of% @Nat.eq_of_beq_eq_true:=@Nat.eq_of_beq_eq_true
theorem W3:type_of% @Bool.and_eq_true:=@Bool.and_eq_true
theorem W4:type_of% @Int.toNat_natCast:=@Int.toNat_natCast
theorem W5:type_of% @List.length_append:=@List.length_append
theorem W6:type_of% @Option.bind_some:=@Option.bind_some
theorem W7:type_of% @List.length_cons:=@List.length_cons
theorem W8:type_of% @Option.elim_some:=@Option.elim_some
theorem W9:type_of% @List.getElem_mem:=@List.getElem_mem
theorem Xa:type_of% @Bool.not_true:=@Bool.not_true
theorem Xb:type_of% @Option.map_eq_some_iff:=@Option.map_eq_some_iff
theorem Xc:type_of% @Prod.mk.injEq:=@Prod.mk.injEq
theorem Xd:type_of% @List.getElem?_append_right:=@List.getElem?_append_right
theorem Xe:type_of% @Nat.zero_add:=@Nat.zero_add
theorem Xf:type_of% @Bool.true_and:=@Bool.true_and
theorem Xg:type_of% @List.length_nil:=@List.length_nil
theorem Xh:type_of% @List.append_assoc:=@List.append_assoc
theorem Xi:type_of% @List.getElem?_append_left:=@List.getElem?_append_left
theorem Xj:type_of% @Array.getElem?_eq_getElem:=@Array.getElem?_eq_getElem
theorem Xk:type_of% @Nat.le_of_ble_eq_true:=@Nat.le_of_ble_eq_true
theorem Xl:type_of% @List.getElem?_drop:=@List.getElem?_drop
theorem Xm:type_of% @List.mem_cons:=@List.mem_cons
theorem Xn:type_of% @List.mem_of_getElem?:=@List.mem_of_getElem?
theorem Xo:type_of% @List.append_nil:=@List.append_nil
theorem Xp:type_of% @Array.getElem?_eq_some_iff:=@Array.getElem?_eq_some_iff
theorem Xq:type_of% @List.mem_cons_of_mem:=@List.mem_cons_of_mem
theorem Xr:type_of% @Nat.mul_le_mul_right:=@Nat.mul_le_mul_right
theorem Xt:type_of% @Nat.le_refl:=@Nat.le_refl
theorem Xu:type_of% @Array.getD_eq_getD_getElem?:=@Array.getD_eq_getD_getElem?
theorem Xv:type_of% @List.all_eq_true:=@List.all_eq_true
theorem Xw:type_of% @List.length_take:=@List.length_take
theorem Xx:type_of% @Nat.add_mul:=@Nat.add_mul
theorem Xy:type_of% @List.getElem?_eq_none:=@List.getElem?_eq_none
theorem Xz:type_of% @List.mem_cons_self:=@List.mem_cons_self
theorem XA:type_of% @Bool.not_false:=@Bool.not_false
theorem XB:type_of% @Nat.add_zero:=@Nat.add_zero
theorem XC:type_of% @List.mem_iff_getElem:=@List.mem_iff_getElem
theorem XD:type_of% @Nat.mul_comm:=@Nat.mul_comm
theorem XE:type_of% @Nat.zero_le:=@Nat.zero_le
theorem XG:type_of% @List.getElem?_take:=@List.getElem?_take
theorem XH:type_of% @Option.bind_assoc:=@Option.bind_assoc
theorem XI:type_of% @List.length_eq_zero_iff:=@List.length_eq_zero_iff
theorem XJ:type_of% @Nat.add_sub_cancel_left:=@Nat.add_sub_cancel_left
theorem XK:type_of% @Nat.mod_eq_of_lt:=@Nat.mod_eq_of_lt
theorem XL:type_of% @List.getElem?_map:=@List.getElem?_map
theorem XM:type_of% @Option.elim_none:=@Option.elim_none
theorem XN:type_of% @List.mem_append:=@List.mem_append
theorem XO:type_of% @List.take_length:=@List.take_length
theorem XP:type_of% @Nat.sub_zero:=@Nat.sub_zero
theorem XQ:type_of% @List.map_cons:=@List.map_cons
theorem XR:type_of% @List.getD_eq_getElem?_getD:=@List.getD_eq_getElem?_getD
theorem XT:type_of% @Int.tdiv_eq_ediv_of_nonneg:=@Int.tdiv_eq_ediv_of_nonneg
theorem XU:type_of% @List.take_append_drop:=@List.take_append_drop
theorem XV:type_of% @List.length_set:=@List.length_set
theorem XW:type_of% @Nat.mul_le_mul:=@Nat.mul_le_mul
theorem XX:type_of% @Nat.add_assoc:=@Nat.add_assoc
theorem XY:type_of% @Bool.and_eq_true_iff:=@Bool.and_eq_true_iff
theorem XZ:type_of% @List.length_drop:=@List.length_drop
theorem X1:type_of% @List.mem_filter:=@List.mem_filter
theorem X2:type_of% @List.getElem?_of_mem:=@List.getElem?_of_mem
theorem X3:type_of% @List.foldl_append:=@List.foldl_append
theorem X4:type_of% @Bool.false_and:=@Bool.false_and
theorem X5:type_of% @List.nil_append:=@List.nil_append
theorem X6:type_of% @List.cons.injEq:=@List.cons.injEq
theorem X7:type_of% @Int.mul_nonneg:=@Int.mul_nonneg
theorem X8:type_of% @List.mem_of_mem_take:=@List.mem_of_mem_take
theorem X9:type_of% @List.findIdx?_eq_none_iff:=@List.findIdx?_eq_none_iff
theorem Ya:type_of% @List.getElem?_set_self:=@List.getElem?_set_self
theorem Yb:type_of% @Option.or_none:=@Option.or_none
theorem Yc:type_of% @Nat.mul_add_mod:=@Nat.mul_add_mod
theorem Yd:type_of% @List.nodup_cons:=@List.nodup_cons
theorem Ye:type_of% @Int.natCast_mul:=@Int.natCast_mul
theorem Yf:type_of% @List.findIdx?_eq_some_iff_getElem:=@List.findIdx?_eq_some_iff_getElem
theorem Yg:type_of% @Option.bind_none:=@Option.bind_none
theorem Yh:type_of% @Array.getElem?_toList:=@Array.getElem?_toList
theorem Yi:type_of% @Array.getElem?_append_left:=@Array.getElem?_append_left
theorem Yj:type_of% @List.mem_singleton:=@List.mem_singleton
theorem Yk:type_of% @Option.some.inj:=@Option.some.inj
theorem Yl:type_of% @List.map_append:=@List.map_append
theorem Ym:type_of% @List.cons_append:=@List.cons_append
theorem Yn:type_of% @Nat.div_eq_of_lt:=@Nat.div_eq_of_lt
theorem Yo:type_of% @List.filter_eq_self:=@List.filter_eq_self
theorem Yp:type_of% @List.take_append_of_le_length:=@List.take_append_of_le_length
theorem Yq:type_of% @List.length_replicate:=@List.length_replicate
theorem Yr:type_of% @Nat.ble_eq_true_of_le:=@Nat.ble_eq_true_of_le
theorem Ys:type_of% @Nat.le_trans:=@Nat.le_trans
theorem Yt:type_of% @Bool.false_eq_true:=@Bool.false_eq_true
theorem Yu:type_of% @Option.getD_some:=@Option.getD_some
theorem Yv:type_of% @List.any_eq_not_all_not:=@List.any_eq_not_all_not
theorem Yw:type_of% @List.all_cons:=@List.all_cons
theorem Yx:type_of% @Nat.succ_mul:=@Nat.succ_mul
theorem Yy:type_of% @Int.mul_le_mul:=@Int.mul_le_mul
theorem Yz:type_of% @List.take_of_length_le:=@List.take_of_length_le
theorem YA:type_of% @List.flatMap_append:=@List.flatMap_append
theorem YB:type_of% @Nat.mul_add_div:=@Nat.mul_add_div
theorem YC:type_of% @List.range_succ:=@List.range_succ
theorem YD:type_of% @List.drop_eq_getElem_cons:=@List.drop_eq_getElem_cons
theorem YE:type_of% @List.mem_or_eq_of_mem_set:=@List.mem_or_eq_of_mem_set
theorem YF:type_of% @Option.isSome_none:=@Option.isSome_none
theorem YG:type_of% @Int.tmod_lt_of_pos:=@Int.tmod_lt_of_pos
theorem YH:type_of% @List.filter_cons:=@List.filter_cons
theorem YI:type_of% @List.not_mem_nil:=@List.not_mem_nil
theorem YJ:type_of% @Bool.or_true:=@Bool.or_true
theorem YK:type_of% @List.map_nil:=@List.map_nil
theorem YL:type_of% @List.getElem?_set_ne:=@List.getElem?_set_ne
theorem YM:type_of% @Bool.and_false:=@Bool.and_false
theorem YN:type_of% @List.pairwise_append:=@List.pairwise_append
theorem YO:type_of% @List.getElem?_cons_succ:=@List.getElem?_cons_succ
theorem YP:type_of% @Option.map_some:=@Option.map_some
theorem YQ:type_of% @Array.ext':=@Array.ext'
theorem YR:type_of% @Nat.min_eq_left:=@Nat.min_eq_left
theorem YS:type_of% @List.sum_cons:=@List.sum_cons
theorem YT:type_of% @List.mem_flatMap:=@List.mem_flatMap
theorem YU:type_of% @List.mem_replicate:=@List.mem_replicate
theorem YV:type_of% @List.filter_append:=@List.filter_append
theorem YW:type_of% @List.length_filter_le:=@List.length_filter_le
theorem YX:type_of% @List.foldl_cons:=@List.foldl_cons
theorem YY:type_of% @Bool.or_eq_true:=@Bool.or_eq_true
theorem YZ:type_of% @List.sum_append:=@List.sum_append
theorem Y0:type_of% @Int.toNat_of_nonneg:=@Int.toNat_of_nonneg
theorem Y1:type_of% @List.getElem?_cons_zero:=@List.getElem?_cons_zero
theorem Y2:type_of% @List.drop_zero:=@List.drop_zero
theorem Y3:type_of% @List.drop_length:=@List.drop_length
theorem Y4:type_of% @Nat.div_add_mod:=@Nat.div_add_mod
theorem Y5:type_of% @Nat.div_lt_iff_lt_mul:=@Nat.div_lt_iff_lt_mul
theorem Y6:type_of% @List.mem_append_right:=@List.mem_append_right
theorem Y7:type_of% @Bool.not_eq_true':=@Bool.not_eq_true'
theorem Y8:type_of% @Nat.lt_trichotomy:=@Nat.lt_trichotomy
theorem Za:type_of% @List.mem_append_left:=@List.mem_append_left
theorem Zb:type_of% @List.take_zero:=@List.take_zero
theorem Zc:type_of% @List.mem_of_mem_drop:=@List.mem_of_mem_drop
theorem Zf:type_of% @Bool.and_true:=@Bool.and_true
theorem Zg:type_of% @Bool.eq_iff_iff:=@Bool.eq_iff_iff
theorem Zh:type_of% @Int.tmod_nonneg:=@Int.tmod_nonneg
theorem Zi:type_of% @Nat.mod_lt:=@Nat.mod_lt
theorem Zj:type_of% @Nat.lt_of_lt_of_le:=@Nat.lt_of_lt_of_le
theorem Zk:type_of% @List.findIdx?_cons:=@List.findIdx?_cons
theorem Zl:type_of% @List.pairwise_cons:=@List.pairwise_cons
theorem Zm:type_of% @Option.isSome_some:=@Option.isSome_some
theorem Zo:type_of% @Nat.zero_mul:=@Nat.zero_mul
theorem Zq:type_of% @List.mem_map:=@List.mem_map
theorem Zt:type_of% @Bool.not_not:=@Bool.not_not
theorem Zu:type_of% @Nat.le_of_lt:=@Nat.le_of_lt
theorem Zv:type_of% @List.map_id':=@List.map_id'
theorem ZB:type_of% @Int.mul_assoc:=@Int.mul_assoc
theorem ZD:type_of% @Nat.mul_one:=@Nat.mul_one
theorem ZE:type_of% @Int.le_refl:=@Int.le_refl
theorem ZJ:type_of% @Iff.rfl:=@Iff.rfl
section
structure Shape where
 h:Int
 w:Int
 c:Int
 deriving DecidableEq
structure aD where
 sh:Shape
 data:List Int
 deriving DecidableEq
structure aq where
 kind:Int
 out:Int
 size:Int
 step:Int
 mult:Int
 shift:Int
 zero:Int
 weights:List Int
 my:List Int
 deriving DecidableEq
structure Model where
 inp:Shape
 aE:List aq
 deriving DecidableEq
structure Job where
 model:Model
 at_:Int
 act:aD
 jQ:Int
 deriving DecidableEq
structure Task where
 id:Int
 ax:List Int
 at_:Int
 due:Int
 born:Int
 deriving DecidableEq
structure al where
 now:Int
 aj:Int
 age:Int
 tasks:List Task
 run:Int
 left:Int
 turns:Int
 next:Int
 deriving DecidableEq
structure Request where
 id:Int
 model:Int
 job:Job
 due:Int
 deriving DecidableEq
structure Runtime where
 sched:al
 aB:List Model
 aC:List Bool
 ag:List Request
 deriving DecidableEq
structure Step where
 kind:Int
 a:Int
 b:Int
 data:List Int
 input:aD
 deriving DecidableEq
structure Event where
 kind:Int
 a:Int
 b:Int
 out:aD
 deriving DecidableEq
structure Entry where
 id:Int
 model:Model
 input:aD
 at_:Int
 due:Int
 end_:Int
 done:Bool
 deriving DecidableEq
structure LG where
 id:Int
 model:Int
 due:Int
 deriving DecidableEq
structure dY where
 id:Int
 ax:Nat
 at_:Int
 due:Int
 born:Int
 deriving DecidableEq
structure vh where
 id:Int
 model:Int
 mh:Int
 mw:Int
 mc:Int
 aE:Nat
 jat:Int
 ah:Int
 aw:Int
 ac:Int
 data:Nat
 jQ:Int
 due:Int
 deriving DecidableEq
structure Reader where
 b:List Int
 at_:Int
 bad:Bool
 deriving DecidableEq
inductive S where
 |shape|eN|bG|model|task|request|step|event|entry|P5|fD|jg
 deriving DecidableEq
inductive Ty where
 |int (k:IntKind)|bool|str|sl (t:Ty)|st (s:S)|tok
 |ho (s:S)|hl (t:Ty)
 deriving DecidableEq
def S.E:S->Type
 |.shape=>Shape|.eN=>aD|.bG=>aq|.model=>Model|.task=>Task|.request=>Request
 |.step=>Step|.event=>Event|.entry=>Entry|.P5=>LG|.fD=>dY|.jg=>vh
def Ty.El:Ty->Type
 |.int _=>Int
 |.bool=>Bool
 |.str=>List UInt8
 |.sl t=>List t.El
 |.st s=>s.E
 |.tok=>Nat
 |.ho s=>Option s.E
 |.hl t=>Option (List t.El)
inductive R where
 |int (k:IntKind) (n:Int)
 |bool (b:Bool)
 |str (l:List UInt8)
 |sl (t:Ty) (xs:List t.El)
 |tok (n:Nat)
 |nt
abbrev R.i (n:Int):R:=.int .i64 n
abbrev R.ints (xs:List Int):R:=.sl (.int .i64) xs
abbrev R.bytes (xs:List Int):R:=.sl (.int .u8) xs
def Nd (x:Shape):List R:=[.i x.h,.i x.w,.i x.c]
def Nf (x:aD):List R:=[.i x.sh.h,.i x.sh.w,.i x.sh.c,.ints x.data]
def Rz (x:aq):List R:=[.i x.kind,.i x.out,.i x.size,.i x.step,.i x.mult,.i x.shift,.i x.zero,.ints x.weights,.ints x.my]
def RA (x:Model):List R:=[.i x.inp.h,.i x.inp.w,.i x.inp.c,.sl (.st .bG) x.aE]
def Qd (x:Task):List R:=[.i x.id,.ints x.ax,.i x.at_,.i x.due,.i x.born]
def Kf (x:Request):List R:=[.i x.id,.i x.model,.i x.job.model.inp.h,.i x.job.model.inp.w,.i x.job.model.inp.c,.sl (.st .bG) x.job.model.aE,.i x.job.at_,.i x.job.act.sh.h,.i x.job.act.sh.w,.i x.job.act.sh.c,.ints x.job.act.data,.i x.job.jQ,.i x.due]
def TP (x:Step):List R:=[.i x.kind,.i x.a,.i x.b,.bytes x.data,.i x.input.sh.h,.i x.input.sh.w,.i x.input.sh.c,.ints x.input.data]
def RB (x:Event):List R:=[.i x.kind,.i x.a,.i x.b,.i x.out.sh.h,.i x.out.sh.w,.i x.out.sh.c,.ints x.out.data]
def RC (x:Entry):List R:=[.i x.id,.i x.model.inp.h,.i x.model.inp.w,.i x.model.inp.c,.sl (.st .bG) x.model.aE,.i x.input.sh.h,.i x.input.sh.w,.i x.input.sh.c,.ints x.input.data,.i x.at_,.i x.due,.i x.end_,.bool x.done]
def R8 (x:LG):List R:=[.i x.id,.i x.model,.i x.due]
def CW (x:dY):List R:=[.i x.id,.tok x.ax,.i x.at_,.i x.due,.i x.born]
def Aj (x:vh):List R:=[.i x.id,.i x.model,.i x.mh,.i x.mw,.i x.mc,.tok x.aE,.i x.jat,.i x.ah,.i x.aw,.i x.ac,.tok x.data,.i x.jQ,.i x.due]
def S.sz:S->Nat
 |.shape=>3|.eN=>4|.bG=>9|.model=>4|.task=>5|.request=>13|.step=>8|.event=>7|.entry=>13|.P5=>3|.fD=>5|.jg=>13
def S.cells:(s:S)->s.E->List R
 |.shape=>Nd|.eN=>Nf|.bG=>Rz|.model=>RA|.task=>Qd|.request=>Kf
 |.step=>TP|.event=>RB|.entry=>RC|.P5=>R8|.fD=>CW|.jg=>Aj
def Ty.sz:Ty->Nat
 |.st s=>s.sz
 |.ho s=>s.sz
 |_=>1
def Ty.cells:(t:Ty)->t.El->List R
 |.int k,n=>[.int k n]
 |.bool,b=>[.bool b]
 |.str,l=>[.str l]
 |.sl t,xs=>[.sl t xs]
 |.st s,x=>s.cells x
 |.tok,n=>[.tok n]
 |.ho s,x=>match x with
  |some x=>s.cells x
  |none=>List.replicate s.sz .nt
 |.hl t,x=>match x with
  |some xs=>[.sl t xs]
  |none=>[.nt]
theorem S.cd (s:S) (x:s.E):(s.cells x).length=s.sz:=by cases s<;>rfl
theorem Ty.cd (t:Ty) (x:t.El):(t.cells x).length=t.sz:=by
 cases t with
 |st s=>exact s.cd x
 |ho s=>cases x with
  |none=>simp[Ty.cells,Ty.sz]
  |some x=>exact s.cd x
 |hl t=>cases x<;>rfl
 |_=>rfl
theorem Ty.hY (t:Ty):0<t.sz:=by
 cases t with
 |st s=>cases s<;>simp[Ty.sz,S.sz]
 |ho s=>cases s<;>simp[Ty.sz,S.sz]
 |_=>simp[Ty.sz]
def R.asI:R->Option Int
 |.int .i64 n=>some n
 |_=>none
def R.asB:R->Option Bool
 |.bool b=>some b
 |_=>none
def R.asL (t:Ty):R->Option (List t.El)
 |.sl t' xs=>if h:t'=t then some (h▸xs)else none
 |_=>none
def R.asT:R->Option Nat
 |.tok n=>some n
 |_=>none
theorem R.Ee {r:R} {n:Nat} (h:r.asT=some n):r=.tok n:=by
 unfold R.asT at h;split at h
 ·cases h;rfl
 ·cases h
theorem R.aJ {r:R} {n:Int} (h:r.asI=some n):r=.int .i64 n:=by
 unfold R.asI at h;split at h
 ·cases h;rfl
 ·cases h
theorem R.Qe {r:R} {n:Bool} (h:r.asB=some n):r=.bool n:=by
 unfold R.asB at h;split at h
 ·cases h;rfl
 ·cases h
theorem R.fY {t:Ty} {r:R} {n:List t.El} (h:r.asL t=some n):r=.sl t n:=by
 unfold R.asL at h;split at h
 ·split at h
  ·rename_i e;subst e;cases h;rfl
  ·cases h
 ·cases h
def Ge:List R->Option Shape
 |[a',b',c']=>(a'.asI).bind λa=>(b'.asI).bind λb=>(c'.asI).bind λc=>some ⟨a,b,c⟩
 |_=>none
theorem Iw (cs:List R) (x:Shape) (h:Ge cs=some x):Nd x=cs:=by
 unfold Ge at h;split at h
 ·simp only[An]at h;obtain⟨a,ha,b,hb,c,hc,h⟩:=h;cases h;rw[R.aJ ha,R.aJ hb,R.aJ hc];rfl
 ·cases h
def Ak:List R->Option aD
 |[a',b',c',d']=>(a'.asI).bind λa=>(b'.asI).bind λb=>(c'.asI).bind λc=>(d'.asL (.int .i64)).bind λd=>some ⟨⟨a,b,c⟩,d⟩
 |_=>none
theorem Gf (cs:List R) (x:aD) (h:Ak cs=some x):Nf x=cs:=by
 unfold Ak at h;split at h
 ·simp only[An]at h;obtain⟨a,ha,b,hb,c,hc,d,hd,h⟩:=h;cases h;rw[R.aJ ha,R.aJ hb,R.aJ hc,R.fY hd];rfl
 ·cases h
def Gg:List R->Option aq
 |[a',b',c',d',e',f',g',h',i']=>(a'.asI).bind λa=>(b'.asI).bind λb=>(c'.asI).bind λc=>(d'.asI).bind λd=>(e'.asI).bind λe=>(f'.asI).bind λf=>(g'.asI).bind λg=>(h'.asL (.int .i64)).bind λh=>(i'.asL (.int .i64)).bind λi=>some ⟨a,b,c,d,e,f,g,h,i⟩
 |_=>none
theorem Ix (cs:List R) (x:aq) (h:Gg cs=some x):Rz x=cs:=by
 unfold Gg at h;split at h
 ·simp only[An]at h;obtain⟨a,ha,b,hb,c,hc,d,hd,e,he,f,hf,g,hg,h,hh,i,hi,h⟩:=h;cases h;rw[R.aJ ha,R.aJ hb,R.aJ hc,R.aJ hd,R.aJ he,R.aJ hf,R.aJ hg,R.fY hh,R.fY hi];rfl
 ·cases h
def Gh:List R->Option Model
 |[a',b',c',d']=>(a'.asI).bind λa=>(b'.asI).bind λb=>(c'.asI).bind λc=>(d'.asL (.st .bG)).bind λd=>some ⟨⟨a,b,c⟩,d⟩
 |_=>none
theorem Iy (cs:List R) (x:Model) (h:Gh cs=some x):RA x=cs:=by
 unfold Gh at h;split at h
 ·simp only[An]at h;obtain⟨a,ha,b,hb,c,hc,d,hd,h⟩:=h;cases h;rw[R.aJ ha,R.aJ hb,R.aJ hc,R.fY hd];rfl
 ·cases h
def Ng:List R->Option Task
 |[a',b',c',d',e']=>(a'.asI).bind λa=>(b'.asL (.int .i64)).bind λb=>(c'.asI).bind λc=>(d'.asI).bind λd=>(e'.asI).bind λe=>some ⟨a,b,c,d,e⟩
 |_=>none
theorem LH (cs:List R) (x:Task) (h:Ng cs=some x):Qd x=cs:=by
 unfold Ng at h;split at h
 ·simp only[An]at h;obtain⟨a,ha,b,hb,c,hc,d,hd,e,he,h⟩:=h;cases h;rw[R.aJ ha,R.fY hb,R.aJ hc,R.aJ hd,R.aJ he];rfl
 ·cases h
def vi:List R->Option Request
 |[a',b',c',d',e',f',g',h',i',j',k',l',m']=>(a'.asI).bind λa=>(b'.asI).bind λb=>(c'.asI).bind λc=>(d'.asI).bind λd=>(e'.asI).bind λe=>(f'.asL (.st .bG)).bind λf=>(g'.asI).bind λg=>(h'.asI).bind λh=>(i'.asI).bind λi=>(j'.asI).bind λj=>(k'.asL (.int .i64)).bind λk=>(l'.asI).bind λl=>(m'.asI).bind λm=>some ⟨a,b,⟨⟨⟨c,d,e⟩,f⟩,g,⟨⟨h,i,j⟩,k⟩,l⟩,m⟩
 |_=>none
theorem Ef (cs:List R) (x:Request) (h:vi cs=some x):Kf x=cs:=by
 unfold vi at h;split at h
 ·simp only[An]at h;obtain⟨a,ha,b,hb,c,hc,d,hd,e,he,f,hf,g,hg,h,hh,i,hi,j,hj,k,hk,l,hl,m,hm,h⟩:=h;cases h;rw[R.aJ ha,R.aJ hb,R.aJ hc,R.aJ hd,R.aJ he,R.fY hf,R.aJ hg,R.aJ hh,R.aJ hi,R.aJ hj,R.fY hk,R.aJ hl,R.aJ hm];rfl
 ·cases h
def Nh:List R->Option Step
 |[a',b',c',d',e',f',g',h']=>(a'.asI).bind λa=>(b'.asI).bind λb=>(c'.asI).bind λc=>(d'.asL (.int .u8)).bind λd=>(e'.asI).bind λe=>(f'.asI).bind λf=>(g'.asI).bind λg=>(h'.asL (.int .i64)).bind λh=>some ⟨a,b,c,d,⟨⟨e,f,g⟩,h⟩⟩
 |_=>none
theorem LI (cs:List R) (x:Step) (h:Nh cs=some x):TP x=cs:=by
 unfold Nh at h;split at h
 ·simp only[An]at h;obtain⟨a,ha,b,hb,c,hc,d,hd,e,he,f,hf,g,hg,h,hh,h⟩:=h;cases h;rw[R.aJ ha,R.aJ hb,R.aJ hc,R.fY hd,R.aJ he,R.aJ hf,R.aJ hg,R.fY hh];rfl
 ·cases h
def Gi:List R->Option Event
 |[a',b',c',d',e',f',g']=>(a'.asI).bind λa=>(b'.asI).bind λb=>(c'.asI).bind λc=>(d'.asI).bind λd=>(e'.asI).bind λe=>(f'.asI).bind λf=>(g'.asL (.int .i64)).bind λg=>some ⟨a,b,c,⟨⟨d,e,f⟩,g⟩⟩
 |_=>none
theorem Iz (cs:List R) (x:Event) (h:Gi cs=some x):RB x=cs:=by
 unfold Gi at h;split at h
 ·simp only[An]at h;obtain⟨a,ha,b,hb,c,hc,d,hd,e,he,f,hf,g,hg,h⟩:=h;cases h;rw[R.aJ ha,R.aJ hb,R.aJ hc,R.aJ hd,R.aJ he,R.aJ hf,R.fY hg];rfl
 ·cases h
def Gj:List R->Option Entry
 |[a',b',c',d',e',f',g',h',i',j',k',l',m']=>(a'.asI).bind λa=>(b'.asI).bind λb=>(c'.asI).bind λc=>(d'.asI).bind λd=>(e'.asL (.st .bG)).bind λe=>(f'.asI).bind λf=>(g'.asI).bind λg=>(h'.asI).bind λh=>(i'.asL (.int .i64)).bind λi=>(j'.asI).bind λj=>(k'.asI).bind λk=>(l'.asI).bind λl=>(m'.asB).bind λm=>some ⟨a,⟨⟨b,c,d⟩,e⟩,⟨⟨f,g,h⟩,i⟩,j,k,l,m⟩
 |_=>none
theorem IA (cs:List R) (x:Entry) (h:Gj cs=some x):RC x=cs:=by
 unfold Gj at h;split at h
 ·simp only[An]at h;obtain⟨a,ha,b,hb,c,hc,d,hd,e,he,f,hf,g,hg,h,hh,i,hi,j,hj,k,hk,l,hl,m,hm,h⟩:=h;cases h;rw[R.aJ ha,R.aJ hb,R.aJ hc,R.aJ hd,R.fY he,R.aJ hf,R.aJ hg,R.aJ hh,R.fY hi,R.aJ hj,R.aJ hk,R.aJ hl,R.Qe hm];rfl
 ·cases h
def Ni:List R->Option LG
 |[a',b',c']=>(a'.asI).bind λa=>(b'.asI).bind λb=>(c'.asI).bind λc=>some ⟨a,b,c⟩
 |_=>none
theorem LJ (cs:List R) (x:LG) (h:Ni cs=some x):R8 x=cs:=by
 unfold Ni at h;split at h
 ·simp only[An]at h;obtain⟨a,ha,b,hb,c,hc,h⟩:=h;cases h;rw[R.aJ ha,R.aJ hb,R.aJ hc];rfl
 ·cases h
def Kg:List R->Option dY
 |[a',b',c',d',e']=>(a'.asI).bind λa=>(b'.asT).bind λb=>(c'.asI).bind λc=>(d'.asI).bind λd=>(e'.asI).bind λe=>some ⟨a,b,c,d,e⟩
 |_=>none
theorem IB (cs:List R) (x:dY) (hq:Kg cs=some x):CW x=cs:=by
 unfold Kg at hq;split at hq
 ·simp only[An]at hq;obtain⟨a,ha,b,hb,c,hc,d,hd,e,he,hq⟩:=hq;cases hq;rw[R.aJ ha,R.Ee hb,R.aJ hc,R.aJ hd,R.aJ he];rfl
 ·cases hq
def vj:List R->Option vh
 |[a',b',c',d',e',f',g',h',i',j',k',l',m']=>(a'.asI).bind λa=>(b'.asI).bind λb=>(c'.asI).bind λc=>(d'.asI).bind λd=>(e'.asI).bind λe=>(f'.asT).bind λf=>(g'.asI).bind λg=>(h'.asI).bind λh=>(i'.asI).bind λi=>(j'.asI).bind λj=>(k'.asT).bind λk=>(l'.asI).bind λl=>(m'.asI).bind λm=>some ⟨a,b,c,d,e,f,g,h,i,j,k,l,m⟩
 |_=>none
theorem Cy (cs:List R) (x:vh) (hq:vj cs=some x):Aj x=cs:=by
 unfold vj at hq;split at hq
 ·simp only[An]at hq;obtain⟨a,ha,b,hb,c,hc,d,hd,e,he,f,hf,g,hg,h0,hh,i,hi,j,hj,k,hk,l,hl,m,hm,hq⟩:=hq;cases hq;rw[R.aJ ha,R.aJ hb,R.aJ hc,R.aJ hd,R.aJ he,R.Ee hf,R.aJ hg,R.aJ hh,R.aJ hi,R.aJ hj,R.Ee hk,R.aJ hl,R.aJ hm];rfl
 ·cases hq
def S.eV:(s:S)->List R->Option s.E
 |.shape=>Ge
 |.eN=>Ak
 |.bG=>Gg
 |.model=>Gh
 |.task=>Ng
 |.request=>vi
 |.step=>Nh
 |.event=>Gi
 |.entry=>Gj
 |.P5=>Ni
 |.fD=>Kg
 |.jg=>vj
def Ty.yF:(t:Ty)->R->Option t.El
 |.int k,.int k' n=>if k'=k then some n else none
 |.bool,.bool b=>some b
 |.str,.str l=>some l
 |.sl t,.sl t' xs=>if h:t'=t then some (h▸xs)else none
 |.tok,.tok n=>some n
 |.hl t,.sl t' xs=>if h:t'=t then some (some (h▸xs))else none
 |_,_=>none
def Ty.eV:(t:Ty)->List R->Option t.El
 |.st s,cs=>s.eV cs
 |.ho s,cs=>(s.eV cs).bind λx=>some (some x)
 |t,[r]=>t.yF r
 |_,_=>none
theorem Ty.IC (t:Ty) (r:R) (x:t.El) (h:t.yF r=some x):t.cells x=[r]:=by
 cases t with
 |st s=>cases r<;>exact nomatch h
 |int k=>
  cases r with
  |int k' n=>
   replace h:(if k'=k then some n else none)=some x:=h
   split at h
   ·rename_i e;subst e;cases h;rfl
   ·cases h
  |_=>exact nomatch h
 |bool=>
  cases r with
  |bool b=>cases h;rfl
  |_=>exact nomatch h
 |str=>
  cases r with
  |str b=>cases h;rfl
  |_=>exact nomatch h
 |sl t=>
  cases r with
  |sl t' xs=>
   replace h:(if h:t'=t then some (h▸xs)else none)=some x:=h
   split at h
   ·rename_i e;subst e;cases h;rfl
   ·cases h
  |_=>exact nomatch h
 |tok=>
  cases r with
  |tok n=>cases h;rfl
  |_=>exact nomatch h
 |ho s=>cases r<;>exact nomatch h
 |hl t=>
  cases r with
  |sl t' xs=>
   replace h:(if h:t'=t then some (some (h▸xs))else none)=some x:=h
   split at h
   ·rename_i e;subst e;cases h;rfl
   ·cases h
  |_=>exact nomatch h
theorem S.cG (s:S) (cs:List R) (x:s.E) (h:s.eV cs=some x):s.cells x=cs:=by
 cases s
 ·exact Iw cs x h
 ·exact Gf cs x h
 ·exact Ix cs x h
 ·exact Iy cs x h
 ·exact LH cs x h
 ·exact Ef cs x h
 ·exact LI cs x h
 ·exact Iz cs x h
 ·exact IA cs x h
 ·exact LJ cs x h
 ·exact IB cs x h
 ·exact Cy cs x h
theorem Ty.cG (t:Ty) (cs:List R) (x:t.El) (h:t.eV cs=some x):t.cells x=cs:=by
 cases t with
 |st s=>exact S.cG s cs x h
 |ho s=>
  replace h:(s.eV cs).bind (λx=>some (some x))=some x:=h
  obtain⟨y,hy,e⟩:=An.1 h;cases e
  exact S.cG s cs y hy
 |_=>
  match cs,h with
  |[r],h=>exact Ty.IC _ r x h
end
section
inductive SV where
 |r (d:List Nat) (x:R)
 |dt
 |rq
 |own (i:Nat)
 |sub (i off len:Nat)
 |bsl (i n:Nat)
 |ptr (i idx off:Nat)
 |inn (i x c:Nat)
 |lz (d:List Nat) (cs:List R)
 |agg (cs:List SV)
 |tup (vs:List SV)
 |fn (f:Fn) (first cap:List SV)
 |undef
abbrev SV.i (n:Int):SV:=.r [] (.int .i64 n)
abbrev SV.b (b:Bool):SV:=.r [] (.bool b)
inductive Blk where
 |box (cs:List SV)
 |arr (sh:Option (List Nat)) (t:Ty) (xs:List t.El)
abbrev aP:=List (Nat× Blk)
structure St where
 cp:List (Nat× SV)
 heap:aP
 nid:Nat
 n:Nat
 gh:List (Option Nat):=[]
def look {α:Type}:List (Nat× α)->Nat->Option α
 |[],_=>none
 |(k,v)::l,n=>cond (Nat.beq k n) (some v) (look l n)
def put {α:Type}:List (Nat× α)->Nat->α->List (Nat× α)
 |[],n,v=>[(n,v)]
 |(k,u)::l,n,v=>cond (Nat.beq k n) ((k,v)::l) ((k,u)::put l n v)
def idx {α:Type} (xs:List α) (i:Int):Option α:=cond (decide (0<=i)) xs[i.toNat]? none
def mem (i:Nat):List Nat->Bool
 |[]=>false
 |k::l=>cond (Nat.beq k i) true (mem i l)
def hit (T:List Nat):List Nat->Bool
 |[]=>false
 |k::l=>cond (mem k T) true (hit T l)
abbrev Kil:=List Nat× List Nat
mutual
def SV.aT (T:Kil):SV->SV
 |.r d x=>cond (hit T.2 d) .undef (.r d x)
 |.own j=>cond (mem j T.1) .undef (.own j)
 |.sub j o n=>cond (mem j T.1) .undef (.sub j o n)
 |.bsl j n=>cond (mem j T.1) .undef (.bsl j n)
 |.ptr j x o=>cond (mem j T.1) .undef (.ptr j x o)
 |.inn j x c=>cond (mem j T.1||mem j T.2) .undef (.inn j x c)
 |.lz d cs=>cond (hit T.2 d) .undef (.lz d cs)
 |.agg cs=>.agg (iS T cs)
 |.tup cs=>.tup (iS T cs)
 |.fn f a b=>.fn f (iS T a) (iS T b)
 |.dt=>.dt
 |.rq=>.rq
 |.undef=>.undef
def iS (T:Kil):List SV->List SV
 |[]=>[]
 |v::l=>v.aT T::iS T l
end
def Blk.aT (T:Kil):Blk->Option Blk
 |.box cs=>some (.box (iS T cs))
 |.arr none t xs=>some (.arr none t xs)
 |.arr (some d) t xs=>cond (hit T.2 d) none (some (.arr (some d) t xs))
def Al (T:Kil):aP->Option aP
 |[]=>some []
 |(k,b)::l=>cond (mem k T.1) (Al T l) ((b.aT T).bind λb=>(Al T l).bind λl=>some ((k,b)::l))
def Kh (T:Kil):List (Nat× SV)->List (Nat× SV)
 |[]=>[]
 |(k,v)::l=>(k,v.aT T)::Kh T l
def jh (T:Kil) (h:aP):Option aP:=
 match T.2 with
 |[]=>some h
 |_=>Al T h
def pT (T:Kil) (s:List (Nat× SV)):List (Nat× SV):=
 match T.2 with
 |[]=>s
 |_=>Kh T s
def SV.list (h:aP) (t:Ty):SV->Option (List Nat× List t.El)
 |.r d x=>(x.asL t).bind λxs=>some (d,xs)
 |.dt=>some ([],[])
 |.own i=>match look h i with
  |some (.arr sh t' xs)=>if e:t'=t then some (i::sh.getD [],e▸xs)else none
  |_=>none
 |.sub i o n=>match look h i with
  |some (.arr sh t' xs)=>if e:t'=t then some (i::sh.getD [],((e▸xs).drop o).take n)else none
  |_=>none
 |_=>none
def SV.asInt (k:IntKind):SV->Option Int
 |.r _ (.int k' n)=>cond (decide (k'=k)) (some n) none
 |_=>none
def SV.asI:SV->Option Int
 |.r _ (.int _ n)=>some n
 |_=>none
def SV.asB:SV->Option Bool
 |.r _ (.bool b)=>some b
 |_=>none
def SV.asR (h:aP) (t:Ty) (v:SV):Option (List Nat× R):=
 match t with
 |.sl t'=>(v.list h t').bind λp=>some (p.1,.sl t' p.2)
 |.st _=>none
 |.tok=>match v with
  |.r d (.tok n)=>some (d,.tok n)
  |.dt=>some ([],.tok 0)
  |_=>none
 |_=>match v with
  |.r d x=>some (d,x)
  |_=>none
def S.tys:S->List Ty
 |.shape=>[.int .i64,.int .i64,.int .i64]
 |.eN=>[.int .i64,.int .i64,.int .i64,.sl (.int .i64)]
 |.bG=>[.int .i64,.int .i64,.int .i64,.int .i64,.int .i64,.int .i64,.int .i64,.sl (.int .i64),.sl (.int .i64)]
 |.model=>[.int .i64,.int .i64,.int .i64,.sl (.st .bG)]
 |.task=>[.int .i64,.sl (.int .i64),.int .i64,.int .i64,.int .i64]
 |.request=>[.int .i64,.int .i64,.int .i64,.int .i64,.int .i64,.sl (.st .bG),.int .i64,.int .i64,.int .i64,.int .i64,.sl (.int .i64),.int .i64,.int .i64]
 |.step=>[.int .i64,.int .i64,.int .i64,.sl (.int .u8),.int .i64,.int .i64,.int .i64,.sl (.int .i64)]
 |.event=>[.int .i64,.int .i64,.int .i64,.int .i64,.int .i64,.int .i64,.sl (.int .i64)]
 |.entry=>[.int .i64,.int .i64,.int .i64,.int .i64,.sl (.st .bG),.int .i64,.int .i64,.int .i64,.sl (.int .i64),.int .i64,.int .i64,.int .i64,.bool]
 |.P5=>[.int .i64,.int .i64,.int .i64]
 |.fD=>[.int .i64,.tok,.int .i64,.int .i64,.int .i64]
 |.jg=>[.int .i64,.int .i64,.int .i64,.int .i64,.int .i64,.tok,.int .i64,.int .i64,.int .i64,.int .i64,.tok,.int .i64,.int .i64]
def Ty.tys:Ty->List Ty
 |.st s=>s.tys
 |.ho s=>s.tys
 |.hl t=>[.sl t]
 |t=>[t]
def M7 (h:aP):List Ty->List SV->Option (List Nat× List R)
 |[],[]=>some ([],[])
 |t::ts,v::vs=>(v.asR h t).bind λp=>(M7 h ts vs).bind λq=>some (p.1++q.1,p.2::q.2)
 |_,_=>none
def UX (h:aP) (t:Ty) (vs:List SV):Option (List Nat× t.El):=
 (M7 h t.tys vs).bind λp=>(t.eV p.2).bind λx=>some (p.1,x)
def SV.cells:SV->Option (List SV)
 |.agg cs=>some cs
 |.tup _=>none
 |.undef=>none
 |v=>some [v]
mutual
def SV.ids:SV->List Nat
 |.own i=>[i]
 |.sub i _ _=>[i]
 |.bsl i _=>[i]
 |.ptr i _ _=>[i]
 |.agg cs=>LK cs
 |.tup cs=>LK cs
 |.fn _ a b=>LK a++LK b
 |_=>[]
def LK:List SV->List Nat
 |[]=>[]
 |v::l=>v.ids++LK l
end
def qZ:List Nat->List Nat->List Nat
 |acc,[]=>acc
 |acc,i::l=>cond (mem i acc) (qZ acc l) (qZ (acc++[i]) l)
def RD (h:aP):List Nat->List Nat
 |[]=>[]
 |i::l=>(match look h i with
  |some (.box cs)=>LK cs
  |_=>[])++RD h l
def reach (h:aP):Nat->List Nat->List Nat
 |0,L=>L
 |n+1,L=>reach h n (qZ L (RD h L))
def wL:Value->Option SV
 |.bool b=>some (.b b)
 |.int k n=>some (.r [] (.int k n))
 |.string s=>some (.r [] (.str s.data.toList))
 |.slice none 0 0=>some .dt
 |.pointer none=>some .rq
 |_=>none
def CX:List Value->Option (List SV)
 |[]=>some []
 |v::l=>(wL v).bind λx=>(CX l).bind λxs=>some (x::xs)
def Ki:Value->Option SV
 |.agg cs=>(CX cs.toList).bind λl=>some (.agg l)
 |v=>wL v
def opd (cp:List (Nat× SV)):Operand->Option SV
 |.tmp t=>look cp t
 |.const v=>Ki v
 |.func f=>some (.fn (.func f) [] [])
 |.global _=>none
def uw (cp:List (Nat× SV)):List Operand->Option (List SV)
 |[]=>some []
 |x::l=>(opd cp x).bind λv=>(uw cp l).bind λvs=>some (v::vs)
end
section
abbrev TT:=TypeId->Option Ty
def aO:Nat:=2^38
def Am (P:Program) (T:TypeId):Bool:=
 match P.underlying T with
 |some (.struct _)=>true
 |some (.array _ _)=>true
 |_=>false
def mz (P:Program) (T:TypeId):Option TypeId:=
 match P.underlying T with
 |some (.slice e)=>some e
 |_=>none
def wM (P:Program) (T:TypeId) (f:Nat):Option Field:=
 match P.underlying T with
 |some (.struct fs)=>(fs[f]?).bind λf=>(P.info? f.type).bind λi=>cond (Nat.beq i.size 0) none (some f)
 |_=>none
def ji (P:Program) (T:TypeId):Option Nat:=(P.info? T).bind λi=>some i.size
def vk (P:Program):List Field->Option (List (Nat× Nat))
 |[]=>some []
 |f::fs=>(ji P f.type).bind λs=>(vk P fs).bind λl=>some ((f.offset,s)::l)
def takeN {α:Type} (n:Nat) (l:List α):Option (List α):=cond (Nat.ble n l.length) (some (l.take n)) none
def jj (P:Program) (T:TypeId) (cs:List SV):Option SV:=
  (P.underlying T).bind λ_=>(P.info? T).bind λi=>(takeN i.size cs).bind λl=>
    cond (Am P T) (some (.agg l)) (match l with|[v]=>some v|_=>none)
def mkR (d:List Nat):R->SV
 |.sl t xs=>.r d (.sl t xs)
 |x=>.r [] x
def Nj (i:Nat):Option (List Nat)->List Nat
 |none=>[i]
 |some d=>d
def mA (h:aP):SV->Option (List SV)
 |.lz d cs=>some (cs.map (mkR d))
 |.ptr i x o=>match look h i with
  |some (.box cs)=>some (cs.drop o)
  |some (.arr sh t xs)=>(xs[x]?).bind λe=>some (((t.cells e).map (mkR (Nj i sh))).drop o)
  |_=>none
 |_=>none
def gg (P:Program) (T:TypeId):Option (List SV):=
 (P.info? T).bind λi=>i.zero.bind λz=>(Ki z).bind λv=>v.cells
def ra (place:Nat->Option (Nat× Nat)):List SV->List (Nat× SV)->Option (List SV)
 |cs,[]=>some cs
 |cs,(k,v)::l=>(place k).bind λp=>v.cells.bind λvs=>
   cond (Nat.beq vs.length p.2) (cond (Nat.ble (p.1+vs.length) cs.length) (ra place (cs.take p.1++vs++cs.drop (p.1+vs.length)) l) none) none
def TF (op:BinOp) (k:IntKind) (a b:Int):Option R:=
 match op with
 |.add=>some (.int k (k.wrap (a+b)))
 |.sub=>some (.int k (k.wrap (a-b)))
 |.mul=>some (.int k (k.wrap (a*b)))
 |.quo=>cond (decide (b=0)) none (some (.int k (k.wrap (a.tdiv b))))
 |.rem=>cond (decide (b=0)) none (some (.int k (a.tmod b)))
 |.and=>some (.int k (k.wrap (BitVec.ofInt k.bits a&&& BitVec.ofInt k.bits b).toNat))
 |.or=>some (.int k (k.wrap (BitVec.ofInt k.bits a||| BitVec.ofInt k.bits b).toNat))
 |.xor=>some (.int k (k.wrap (BitVec.ofInt k.bits a^^^ BitVec.ofInt k.bits b).toNat))
 |.eql=>some (.bool (a==b))
 |.neq=>some (.bool (a !=b))
 |.lss=>some (.bool (decide (a<b)))
 |.leq=>some (.bool (decide (a<=b)))
 |.gtr=>some (.bool (decide (a>b)))
 |.geq=>some (.bool (decide (a>=b)))
 |_=>none
def Gk (op:BinOp) (k:IntKind) (a b:Int):Option R:=
  cond (decide (b<0)) none
    (match op with
     |.shl=>some (.int k (k.wrap (a*2^(min b.toNat k.bits))))
     |.shr=>some (.int k (a.fdiv (2^(min b.toNat k.bits))))
     |_=>none)
def TQ (op:BinOp) (a b:List UInt8):Option R:=
 match op with
 |.add=>cond (decide (a.length+b.length<=aO)) (some (.str (a++b))) none
 |.eql=>some (.bool (a==b))
 |.neq=>some (.bool (!(a==b)))
 |.lss=>some (.bool (Op.bytesLess a b))
 |.leq=>some (.bool (Op.bytesLess a b||a==b))
 |.gtr=>some (.bool (!(Op.bytesLess a b||a==b)))
 |.geq=>some (.bool (!(Op.bytesLess a b)))
 |_=>none
def Qf (P:Program) (xs ys:List SV):List Field->Option Bool
 |[]=>some true
 |f::fs=>cond (decide (f.name= "_")) none (match P.underlying f.type,xs[f.offset]?,ys[f.offset]? with
  |some (.int _),some (.r _ (.int k a)),some (.r _ (.int l b))=>cond (decide (k=l)) ((Qf P xs ys fs).bind λt=>some (cond (a==b) t false)) none
  |_,_,_=>none)
def TR (P:Program) (T:TypeId) (xs ys:List SV):Option Bool:=
 cond (P.stoodInHeld T) none (cond (P.eqGuardType P.depth T) none (match P.underlying T with
  |some (.struct fs)=>Qf P xs ys fs.toList
  |_=>none))
def Nk:BinOp->Bool
 |.shl|.shr=>true
 |_=>false
def isEq:BinOp->Option Bool
 |.eql=>some true
 |.neq=>some false
 |_=>none
def bin (P:Program) (T:TypeId) (op:BinOp) (x y:SV):Option SV:=
 match x,y with
 |.r _ (.int k a),.r _ (.int l b)=>cond (Nk op) ((Gk op k a b).bind λr=>some (.r [] r)) (cond (decide (k=l)) ((TF op k a b).bind λr=>some (.r [] r)) none)
 |.r _ (.str a),.r _ (.str b)=>(TQ op a b).bind λr=>some (.r [] r)
 |.r _ (.bool a),.r _ (.bool b)=>match P.underlying T with
  |some .bool=>(isEq op).bind λe=>some (.b (cond e (a==b) (!(a==b))))
  |_=>none
 |.agg a,.agg b=>(isEq op).bind λe=>(TR P T a b).bind λt=>some (.b (cond e t (!t)))
 |_,_=>none
def un (op:UnOp) (x:SV):Option SV:=
 match op,x with
 |.neg,.r _ (.int k n)=>some (.r [] (.int k (k.wrap (0-n))))
 |.not,.r _ (.bool b)=>some (.b (!b))
 |_,_=>none
def lenOf (h:aP):SV->Option Nat
 |.r _ (.str l)=>some l.length
 |.r _ (.sl _ xs)=>some xs.length
 |.dt=>some 0
 |.own i=>match look h i with
  |some (.arr _ _ xs)=>some xs.length
  |_=>none
 |.sub _ _ n=>some n
 |.bsl _ n=>some n
 |_=>none
def UY (P:Program) (T:TypeId):SV->Bool
 |.r _ (.str _)=>match P.underlying T with
  |some .string=>true
  |_=>false
 |_=>match P.underlying T with
  |some (.slice _)=>true
  |_=>false
def bounds (n:Nat) (lo hi:Option SV):Option (Nat× Nat):=
  (match hi with
   |none=>some n
   |some v=>v.asI.bind λx=>cond (decide (0<=x/\x<=(n:Int))) (some x.toNat) none).bind λh=>
  (match lo with
   |none=>some 0
   |some v=>v.asI.bind λx=>cond (decide (0<=x/\x<=(h:Int))) (some x.toNat) none).bind λl=>some (l,h)
def slT (P:Program) (T:TypeId) (t:Ty):Bool:=
 match P.underlying T with
 |some (.slice e)=>match ji P e with
  |some n=>Nat.beq n t.sz
  |none=>false
 |_=>false
def Kj (P:Program) (T:TypeId):Bool:=
 match P.underlying T with
 |some (.slice e)=>(ji P e).isSome
 |_=>false
def isStr (P:Program) (T:TypeId):Bool:=
 match P.underlying T with
 |some .string=>true
 |_=>false
def Ve (n m:Nat):Option SV->Nat
 |none=>n
 |some _=>m
def jU (P:Program) (T:TypeId) (h:aP) (x:SV) (lo hi:Option SV):Option SV:=
 match x with
 |.r d (.str l)=>cond (isStr P T) ((bounds l.length lo hi).bind λb=>some (.r d (.str ((l.take b.2).drop b.1)))) none
 |.r d (.sl t xs)=>cond (slT P T t) ((bounds xs.length lo hi).bind λb=>some (.r d (.sl t ((xs.take b.2).drop b.1)))) none
 |.dt=>cond (Kj P T) ((bounds 0 lo hi).bind λ_=>some .dt) none
 |.own i=>match look h i with
  |some (.arr _ t xs)=>cond (slT P T t) ((bounds xs.length lo hi).bind λb=>some (.sub i b.1 (b.2-b.1))) none
  |_=>none
 |.sub i o n=>match look h i with
  |some (.arr _ t xs)=>cond (slT P T t) ((bounds (Ve n (xs.length-o) hi) lo hi).bind λb=>some (.sub i (o+b.1) (b.2-b.1))) none
  |_=>none
 |_=>none
def slN (P:Program) (T:TypeId) (h:aP) (x:SV):Option Nat:=
 match x with
 |.r _ (.sl t xs)=>cond (slT P T t) (some xs.length) none
 |.own i=>match look h i with
  |some (.arr _ t xs)=>cond (slT P T t) (some xs.length) none
  |_=>none
 |_=>none
def zG (P:Program) (T:TypeId) (h:aP) (x:SV) (lo:Option SV) (hi m:SV):Option SV:=
 (slN P T h x).bind λn=>m.asI.bind λz=>cond (decide (0<=z/\z<=(n:Int))) ((bounds z.toNat lo (some hi)).bind λ_=>some .undef) none
def bH (P:Program) (T:TypeId) (h:aP) (x:SV) (k:Int):Option SV:=
 match x with
 |.r d (.sl t xs)=>cond (slT P T t) ((idx xs k).bind λe=>some (.lz d (t.cells e))) none
 |.own i=>match look h i with
  |some (.arr _ t xs)=>cond (slT P T t) (cond (decide (0<=k/\k<(xs.length:Int))) (some (.ptr i k.toNat 0)) none) none
  |_=>none
 |.sub i o n=>match look h i with
  |some (.arr _ t _)=>cond (slT P T t) (cond (decide (0<=k/\k<(n:Int))) (some (.ptr i (o+k.toNat) 0)) none) none
  |_=>none
 |.bsl i n=>(mz P T).bind λe=>(ji P e).bind λsz=>cond (decide (0<=k/\k<(n:Int))) (some (.ptr i 0 (k.toNat*sz))) none
 |_=>none
def Nl (P:Program) (src dst:TypeId) (x:SV):Option SV:=
 match P.underlying src,P.underlying dst,x with
 |some (.int _),some (.int k),.r _ (.int _ n)=>some (.r [] (.int k (k.wrap n)))
 |some .string,some .string,.r _ (.str l)=>some (.r [] (.str l))
 |_,_,_=>none
def yG (P:Program) (T:TypeId):Bool:=
 match mz P T with
 |some e=>match P.underlying e with
  |some (.int .u8)=>true
  |_=>false
 |none=>false
def bytesOf (l:List Int):List UInt8:=l.map λn=>UInt8.ofNat n.toNat
def P6 (cp:List (Nat× SV)):Option Operand->Option (Option SV)
 |none=>some none
 |some x=>(opd cp x).bind λv=>some (some v)
def rr (cp:List (Nat× SV)):List (Nat× Operand)->Option (List (Nat× SV))
 |[]=>some []
 |(k,x)::l=>(opd cp x).bind λv=>(rr cp l).bind λvs=>some ((k,v)::vs)
def ic (P:Program) (s:List (Nat× SV)) (h:aP) (op:Op):Option SV:=
 match op with
 |.move x|.assign x=>opd s x
 |.pick c a b=>(opd s c).bind λc=>c.asB.bind λc=>cond c (opd s a) (opd s b)
 |.build T parts=>
  match P.underlying T with
  |some (.struct fs)=>(vk P fs.toList).bind λpl=>(gg P T).bind λz=>(rr s parts.toList).bind λps=>
   (ra (λk=>pl[k]?) z ps).bind λcs=>some (.agg cs)
  |_=>none
 |.load T a=>(opd s a).bind λa=>(mA h a).bind λcs=>jj P T cs
 |.nilCheck x=>(opd s x).bind λv=>match v with
  |.ptr i x o=>some (.ptr i x o)
  |.lz d cs=>some (.lz d cs)
  |_=>none
 |.binOp op T x y _=>(opd s x).bind λx=>(opd s y).bind λy=>bin P T op x y
 |.unOp op _ x=>(opd s x).bind λx=>un op x
 |.convert src dst x=>(opd s x).bind λx=>cond (yG P src&&isStr P dst) ((x.list h (.int .u8)).bind λp=>some (.r [] (.str (bytesOf p.2)))) (Nl P src dst x)
 |.makeFunc fn first cap=>(uw s first.toList).bind λa=>(uw s cap.toList).bind λb=>some (.fn fn a b)
 |.slice T x lo hi none=>(opd s x).bind λx=>(P6 s lo).bind λlo=>(P6 s hi).bind λhi=>jU P T h x lo hi
 |.slice T x lo (some hi) (some m)=>(opd s x).bind λx=>(P6 s lo).bind λlo=>(opd s hi).bind λhi=>(opd s m).bind λm=>zG P T h x lo hi m
 |.fieldAddr T x f=>(opd s x).bind λx=>(wM P T f).bind λf=>match x with
  |.lz d cs=>some (.lz d (cs.drop f.offset))
  |.ptr i k o=>some (.ptr i k (o+f.offset))
  |_=>none
 |.field T x f=>(opd s x).bind λx=>(wM P T f).bind λf=>match x with
  |.agg cs=>jj P f.type (cs.drop f.offset)
  |_=>none
 |.indexAddr T x k=>(opd s x).bind λx=>(opd s k).bind λk=>k.asI.bind λk=>bH P T h x k
 |.index T x k=>(opd s x).bind λx=>(opd s k).bind λk=>k.asI.bind λk=>match x with
  |.r _ (.str l)=>cond (isStr P T) ((idx l k).bind λc=>some (.r [] (.int .u8 c.toNat))) none
  |_=>none
 |.extract x k=>(opd s x).bind λx=>match x with
  |.tup vs=>vs[k]?
  |_=>none
 |.call {callee:=.builtin .len,args,argTypes}=>(uw s args.toList).bind λvs=>match vs,argTypes.toList with
  |[v],T::_=>cond (UY P T v) ((lenOf h v).bind λn=>some (.i n)) none
  |_,_=>none
 |.call {callee:=.builtin .cap,args,argTypes}=>(uw s args.toList).bind λvs=>match vs,argTypes.toList with
  |[.dt],T::_=>cond (Kj P T) (some (.i 0)) none
  |_,_=>none
 |.call {callee:=.builtin .min,args,.. }=>(uw s args.toList).bind λvs=>match vs with
  |[.r _ (.int k a),.r _ (.int _ b)]=>some (.r [] (.int k (if b<a then b else a)))
  |[.r _ (.int k a),.r _ (.int _ b),.r _ (.int _ c)]=>some (.r [] (.int k (if c<(if b<a then b else a)then c else(if b<a then b else a))))
  |_=>none
 |.call {callee:=.builtin .max,args,.. }=>(uw s args.toList).bind λvs=>match vs with
  |[.r _ (.int k a),.r _ (.int _ b)]=>some (.r [] (.int k (if b>a then b else a)))
  |_=>none
 |_=>none
def Eg {α:Type} (h:aP) (v:SV) (K:List SV->Option α):Option α:=
 match v with
 |.lz d cs=>K (cs.map (mkR d))
 |.ptr i x o=>match look h i with
  |some (.box cs)=>K (cs.drop o)
  |some (.arr sh t xs)=>(xs[x]?).bind λe=>K (((t.cells e).map (mkR (Nj i sh))).drop o)
  |_=>none
 |_=>none
def R9 {α:Type} (op:BinOp) (k:IntKind) (a b:Int) (K:R->Option α):Option α:=
 match op with
 |.quo=>cond (decide (b=0)) none (K (.int k (k.wrap (a.tdiv b))))
 |.rem=>cond (decide (b=0)) none (K (.int k (a.tmod b)))
 |op=>(TF op k a b).bind K
def ID {α:Type} (op:BinOp) (k:IntKind) (a b:Int) (K:R->Option α):Option α:=
  cond (decide (b<0)) none
    (match op with
     |.shl=>K (.int k (k.wrap (a*2^(min b.toNat k.bits))))
     |.shr=>K (.int k (a.fdiv (2^(min b.toNat k.bits))))
     |_=>none)
def Sa {α:Type} (op:BinOp) (a b:List UInt8) (K:R->Option α):Option α:=
 match op with
 |.add=>cond (decide (a.length+b.length<=aO)) (K (.str (a++b))) none
 |op=>(TQ op a b).bind K
def Vf {α:Type} (P:Program) (T:TypeId) (op:BinOp) (x y:SV) (K:SV->Option α):Option α:=
 match x,y with
 |.r _ (.int k a),.r _ (.int l b)=>cond (Nk op) (ID op k a b λr=>K (.r [] r)) (cond (decide (k=l)) (R9 op k a b λr=>K (.r [] r)) none)
 |.r _ (.str a),.r _ (.str b)=>Sa op a b λr=>K (.r [] r)
 |x,y=>(bin P T op x y).bind K
def ru {α:Type} (n:Nat) (lo hi:Option SV) (K:Nat->Nat->Option α):Option α:=
 let lower (h:Nat):Option α:=match lo with
  |none=>K 0 h
  |some v=>v.asI.bind λx=>cond (decide (0<=x/\x<=(h:Int))) (K x.toNat h) none
 match hi with
 |none=>lower n
 |some v=>v.asI.bind λx=>cond (decide (0<=x/\x<=(n:Int))) (lower x.toNat) none
def Nm {α:Type} (P:Program) (T:TypeId) (h:aP) (x:SV) (lo hi:Option SV) (K:SV->Option α):Option α:=
 match x with
 |.r d (.str l)=>cond (isStr P T) (ru l.length lo hi λa b=>K (.r d (.str ((l.take b).drop a)))) none
 |.r d (.sl t xs)=>cond (slT P T t) (ru xs.length lo hi λa b=>K (.r d (.sl t ((xs.take b).drop a)))) none
 |.dt=>cond (Kj P T) (ru 0 lo hi λ_ _=>K .dt) none
 |.own i=>match look h i with
  |some (.arr _ t xs)=>cond (slT P T t) (ru xs.length lo hi λa b=>K (.sub i a (b-a))) none
  |_=>none
 |.sub i o n=>match look h i with
  |some (.arr _ t xs)=>cond (slT P T t) (ru (Ve n (xs.length-o) hi) lo hi λa b=>K (.sub i (o+a) (b-a))) none
  |_=>none
 |_=>none
def wN {α:Type} (P:Program) (T:TypeId) (h:aP) (x:SV) (k:Int) (K:SV->Option α):Option α:=
 match x with
 |.r d (.sl t xs)=>cond (slT P T t) ((idx xs k).bind λe=>K (.lz d (t.cells e))) none
 |.own i=>match look h i with
  |some (.arr _ t xs)=>cond (slT P T t) (cond (decide (0<=k/\k<(xs.length:Int))) (K (.ptr i k.toNat 0)) none) none
  |_=>none
 |.sub i o n=>match look h i with
  |some (.arr _ t _)=>cond (slT P T t) (cond (decide (0<=k/\k<(n:Int))) (K (.ptr i (o+k.toNat) 0)) none) none
  |_=>none
 |x=>(bH P T h x k).bind K
def Gl {α:Type} (P:Program) (T:TypeId) (h:aP) (x:SV) (lo:Option SV) (hi m:SV) (K:SV->Option α):Option α:=
 (slN P T h x).bind λn=>m.asI.bind λz=>cond (decide (0<=z/\z<=(n:Int))) (ru z.toNat lo (some hi) λ_ _=>K .undef) none
def pU {α:Type} (P:Program) (s:List (Nat× SV)) (h:aP) (op:Op) (K:SV->Option α):Option α:=
 match op with
 |.load T a=>(opd s a).bind λa=>Eg h a λcs=>(jj P T cs).bind K
 |.binOp op T x y _=>(opd s x).bind λx=>(opd s y).bind λy=>Vf P T op x y K
 |.slice T x lo hi none=>(opd s x).bind λx=>(P6 s lo).bind λlo=>(P6 s hi).bind λhi=>Nm P T h x lo hi K
 |.slice T x lo (some hi) (some m)=>(opd s x).bind λx=>(P6 s lo).bind λlo=>(opd s hi).bind λhi=>(opd s m).bind λm=>Gl P T h x lo hi m K
 |.indexAddr T x k=>(opd s x).bind λx=>(opd s k).bind λk=>k.asI.bind λk=>wN P T h x k K
 |.index T x k=>(opd s x).bind λx=>(opd s k).bind λk=>k.asI.bind λk=>match x with
  |.r _ (.str l)=>cond (isStr P T) ((idx l k).bind λc=>K (.r [] (.int .u8 c.toNat))) none
  |_=>none
 |op=>(ic P s h op).bind K
theorem fL {α β:Type} (b:Bool) (x y:Option α) (K:α->Option β):(cond b x y).bind K=cond b (x.bind K) (y.bind K):=by cases b<;>rfl
theorem IE {α:Type} (h:aP) (v:SV) (K:List SV->Option α):Eg h v K=(mA h v).bind K:=by
 unfold Eg mA;grind
theorem Qg {α:Type} (op:BinOp) (k:IntKind) (a b:Int) (K:R->Option α):R9 op k a b K=(TF op k a b).bind K:=by
 unfold R9;split
 ·show _=(cond _ none (some _)).bind K;rw[fL];rfl
 ·show _=(cond _ none (some _)).bind K;rw[fL];rfl
 ·rfl
theorem LM {α:Type} (op:BinOp) (k:IntKind) (a b:Int) (K:R->Option α):ID op k a b K=(Gk op k a b).bind K:=by
 unfold ID Gk;grind
theorem Qh {α:Type} (op:BinOp) (a b:List UInt8) (K:R->Option α):Sa op a b K=(TQ op a b).bind K:=by
 unfold Sa;split
 ·show _=(cond _ (some _) none).bind K;rw[fL];rfl
 ·rfl
theorem Sb {α:Type} (P:Program) (T:TypeId) (op:BinOp) (x y:SV) (K:SV->Option α):Vf P T op x y K=(bin P T op x y).bind K:=by
 unfold Vf;split
 ·simp only[bin,fL,LM,Qg,XH,W6,Yg]
 ·simp only[bin,Qh,XH,W6]
 ·rfl
theorem mg {α:Type} (n:Nat) (lo hi:Option SV) (K:Nat->Nat->Option α):ru n lo hi K=(bounds n lo hi).bind λb=>K b.1 b.2:=by
 unfold ru bounds;cases hi<;>cases lo<;>simp only[XH,W6,fL,Yg]
theorem Nn {α:Type} (P:Program) (T:TypeId) (h:aP) (x:SV) (lo hi:Option SV) (K:SV->Option α):Nm P T h x lo hi K=(jU P T h x lo hi).bind K:=by
 unfold Nm jU;split
 ·simp only[fL,mg,XH,W6,Yg]
 ·simp only[fL,mg,XH,W6,Yg]
 ·simp only[fL,mg,XH,W6,Yg]
 ·split
  ·simp only[fL,mg,XH,W6,Yg]
  ·rfl
 ·split
  ·simp only[fL,mg,XH,W6,Yg]
  ·rfl
 ·rfl
theorem Eh {α:Type} (P:Program) (T:TypeId) (h:aP) (x:SV) (k:Int) (K:SV->Option α):wN P T h x k K=(bH P T h x k).bind K:=by
 unfold wN;split
 ·simp only[bH,fL,XH,W6,Yg]
 ·simp only[bH];grind
 ·simp only[bH];grind
 ·rfl
theorem pV {α:Type} (P:Program) (s:List (Nat× SV)) (h:aP) (op:Op) (K:SV->Option α):pU P s h op K=(ic P s h op).bind K:=by
 unfold pU;split
 ·simp only[ic,IE,XH]
 ·simp only[ic,Sb,XH]
 ·simp only[ic,Nn,XH]
 ·simp only[ic,Gl,zG,mg,XH,fL,W6,Yg]
 ·simp only[ic,Eh,XH]
 ·simp only[ic,XH];grind
 ·rfl
structure CR where
 v:SV
 news:List Blk:=[]
 upd:aP:=[]
 gone:List Nat:=[]
 mB:List Nat:=[]
def CR.kil (c:CR):Kil:=(c.gone,c.gone++c.mB)
abbrev Out:=SV× List Blk
abbrev Orc:=(ρ:Type)->Nat->List SV->aP->(CR->Option ρ)->Option ρ
def TS:Orc:=λ_ _ _ _ _=>none
def aQ:Nat->List Blk->aP
 |_,[]=>[]
 |n,b::l=>(n,b)::aQ (n+1) l
inductive Co where
 |oX (sh:Bool) (t:Ty)
 |ro (t:Ty)
 |drop
 |dep (j:Nat)
 |Qi (t j:Nat)
inductive iE where
 |slot (t:Nat)
 |cell (t j:Nat)
 |box (i j:Nat)
 |Np (t j:Nat)
 |gh (k:Nat)
def coV (n:Nat) (h:aP):Co->SV->SV× List Blk
 |.oX sh t,.dt=>(.own n,[.arr (cond sh (some []) none) t []])
 |.ro t,v=>match v.list h t with
  |some p=>(.r p.1 (.sl t p.2),[])
  |none=>(v,[])
 |.drop,_=>(.undef,[])
 |.dep j,.r d x=>(.r (cond (mem j d) d (d++[j])) x,[])
 |_,v=>(v,[])
def Qj (st:St) (i j:Nat) (c:Co):St:=
 match look st.heap i with
 |some (.box cs)=>match cs[j]? with
  |some v=>{st with heap:=put (st.heap++aQ st.nid (coV st.nid st.heap c v).2) i (.box (cs.set j (coV st.nid st.heap c v).1)),nid:=st.nid+(coV st.nid st.heap c v).2.length}
  |none=>st
 |_=>st
def Gm (st:St):iE× Co->St
  | (.slot t, c) => match look st.cp t with
    |some v=>{st with cp:=put st.cp t (coV st.nid st.heap c v).1,heap:=st.heap++aQ st.nid (coV st.nid st.heap c v).2,nid:=st.nid+(coV st.nid st.heap c v).2.length}
    |none=>st
  | (.cell t j, c) => match look st.cp t with
    | some (.agg cs) => match cs[j]? with
      |some v=>{st with cp:=put st.cp t (.agg (cs.set j (coV st.nid st.heap c v).1)),heap:=st.heap++aQ st.nid (coV st.nid st.heap c v).2,nid:=st.nid+(coV st.nid st.heap c v).2.length}
      |none=>st
    |_=>st
  |(.box i j,c)=>Qj st i j c
  | (.Np t j, c) => match look st.cp t with
    |some (.ptr i _ _)=>Qj st i j c
    |_=>st
  |(.gh k,_)=>{st with gh:=st.gh.set k none}
def Vg (st:St):Co->Co
 |.Qi t j=>match look st.cp t with
  |some (.ptr i _ _)=>match look st.heap i with
   |some (.box cs)=>match cs[j]? with
    |some (.own k)=>.dep k
    |_=>.dep 0
   |_=>.dep 0
  |_=>.dep 0
 |c=>c
def TU (st:St) (x:iE× Co):St:=Gm st (x.1,Vg st x.2)
def Nq:List (iE× Co)->St->St
 |[],st=>st
 |x::l,st=>Nq l (TU st x)
structure Env where
 P:Program
 tt:TT
 orc:FuncId->Orc
 wr:FuncId->Bool:=λ_=>false
 wt:Bool:=false
 inn:Bool:=false
 fz:Nat->List (Bool× Nat× List Nat):=λ_=>[]
 wk:Nat->List (iE× Co):=λ_=>[]
 lit:Bool:=false
 tak:Bool:=false
 tkt:List Nat:=[]
 swp:Bool:=false
def ua:aP->aP->aP
 |[],h=>h
 |(k,b)::l,h=>ua l (put h k b)
def TV (s:List (Nat× SV)) (n:Nat) (dst:Option Tmp) (v:SV):Option (List (Nat× SV)):=
 match dst with
 |some t=>cond (Nat.ble (t+1) n) (some (put s t v)) none
 |none=>some s
def St.take (st:St) (dst:Option Tmp) (c:CR):Option St:=
  (jh c.kil (ua c.upd st.heap)).bind λh=>(TV (pT c.kil st.cp) st.n dst c.v).bind λs=>
    some {st with cp:=s,heap:=h++aQ st.nid c.news,nid:=st.nid+c.news.length}
def setCells (cs:List SV) (o:Nat) (vs:List SV):Option (List SV):=
 cond (Nat.ble (o+vs.length) cs.length) (some (cs.take o++vs++cs.drop (o+vs.length))) none
def rv:Ty->Bool
 |.sl _=>false
 |.ho _|.hl _=>false
 |.st .shape|.st .P5|.st .fD|.st .jg=>true
 |.st _=>false
 |_=>true
def isNil {α:Type}:List α->Bool
 |[]=>true
 |_=>false
def LN (h:aP) (t:Ty):Nat->List SV->Option (List Nat× List t.El)
 |0,_=>some ([],[])
 |n+1,cs=>(UX h t (cs.take t.sz)).bind λp=>(LN h t n (cs.drop t.sz)).bind λq=>some (p.1++q.1,p.2::q.2)
def SV.M8 (h:aP) (t:Ty) (v:SV):Option (List Nat× R):=
 match t with
 |.sl t'=>match v with
  |.dt=>some ([],.sl t' [])
  |.own i=>match look h i with
   |some (.arr none t1 xs)=>if e:t1=t' then some ([i],.sl t' (e▸xs))else none
   |_=>none
  |_=>none
 |.st _=>none
 |.tok=>match v with
  |.r _ (.tok n)=>some ([],.tok n)
  |.dt=>some ([],.tok 0)
  |_=>none
 |_=>match v with
  |.r _ (.int k n)=>some ([],.int k n)
  |.r _ (.bool b)=>some ([],.bool b)
  |.r _ (.str l)=>some ([],.str l)
  |_=>none
def IG (h:aP):List Ty->List SV->Option (List Nat× List R)
 |[],[]=>some ([],[])
 |t::ts,v::vs=>(v.M8 h t).bind λp=>(IG h ts vs).bind λq=>some (p.1++q.1,p.2::q.2)
 |_,_=>none
def jk (h:aP) (t:Ty):Nat->List SV->Option (List Nat× List t.El)
 |0,_=>some ([],[])
 |n+1,cs=>(IG h t.tys (cs.take t.sz)).bind λp=>(t.eV p.2).bind λx=>(jk h t n (cs.drop t.sz)).bind λq=>some (p.1++q.1,x::q.2)
def ij:List Nat->Bool
 |[]=>true
 |i::l=>cond (mem i l) false (ij l)
def Gn (h:aP):List SV->Option Bool
 |[]=>some true
 |.own i::l=>(look h i).bind λb=>match b with
  |.arr none _ _=>Gn h l
  |.arr (some _) _ _=>some false
  |.box _=>none
 |.r _ (.sl _ _)::_=>some false
 |.sub _ _ _::_=>some false
 |.bsl _ _::_=>some false
 |_::l=>Gn h l
def Kk (h:aP) (t:Ty) (n:Nat) (cs:List SV):Option (Option (List Nat)× List Nat× List t.El):=
 (Gn h cs).bind λb=>cond b ((jk h t n cs).bind λq=>cond (ij q.1) (some (none,q.1,q.2)) none) ((LN h t n cs).bind λq=>some (some q.1,[],q.2))
def rb (h:aP):SV->List Nat->List Nat
 |.own i,d=>match look h i with
  |some (.arr (some d') _ _)=>d'
  |_=>d
 |_,d=>d
def uy (h:aP) (t:Ty) (v:SV):Option (Option (List Nat)× List Nat× List t.El):=
 match v with
 |.bsl i n=>match look h i with
  |some (.box cs)=>(Kk h t n cs).bind λq=>some (q.1,i::q.2.1,q.2.2)
  |_=>none
 |_=>(v.list h t).bind λp=>cond (rv t) (some (none,[],p.2)) (some (some (rb h v p.1),[],p.2))
def Kl (a b:Option (List Nat)):Option (Option (List Nat)):=
 match a,b with
 |none,none=>some none
 |some d,some d'=>some (some (d++d'))
 |some d,none=>some (some d)
 |none,some d=>some (some d)
def ry (P:Program) (T:TypeId):Bool:=
 match P.info? T with
 |some i=>Nat.ble i.bytes 512
 |none=>false
def TW (E:Env) (s:List (Nat× SV)) (h:aP) (T:TypeId) (a:Operand):Option SV:=
 cond E.inn (cond (Kj E.P T) (match opd s a with
  |some (.ptr i x o)=>match look h i with
   |some (.arr none t _)=>cond (Nat.ble (o+1) t.sz) (some (.inn i x o)) none
   |_=>none
  |_=>none) none) none
def TX {α:Type} (xs:List α) (x:Nat):List (Option α):=(xs.map some).set x none
def Gp {α:Type}:List (Option α)->Option (List α)
 |[]=>some []
 |none::_=>none
 |some x::l=>(Gp l).bind λl=>some (x::l)
def vl (n:Nat):List R->List SV
 |[]=>[]
 |.sl _ _::l=>.own n::vl (n+1) l
 |r::l=>.r [] r::vl n l
def nu:List R->List Blk
 |[]=>[]
 |.sl t ys::l=>.arr none t ys::nu l
 |_::l=>nu l
def TY (P:Program) (s:List (Nat× SV)) (h:aP) (src dst:TypeId) (x:Operand):Option Nat:=
 cond (Nat.beq src dst&&yG P src) (match opd s x with
  |some (.own i)=>match look h i with
   |some (.arr _ _ (_::_))=>some i
   |_=>none
  |_=>none) none
def IH (h:aP):SV->Option (Nat× Nat× Nat)
 |.sub i o n=>some (i,o,n)
 |.own i=>match look h i with
  |some (.arr _ _ xs)=>some (i,0,xs.length)
  |_=>none
 |_=>none
variable {ρ:Type}
def zH (P:Program) (T:TypeId) (h:aP) (i:Nat) (sh:Option (List Nat)) (t:Ty) (ys:List t.El) (k o:Nat) (x:SV) (K:CR->Option ρ):Option ρ:=
 x.cells.bind λxs=>(ji P T).bind λsz=>cond (Nat.beq sz xs.length&&Nat.ble (o+sz) t.sz) (
  match sh with
  |none=>(IG h ((t.tys.drop o).take sz) xs).bind λp=>cond (ij (i::p.1)) (
    cond (Nat.beq sz t.sz)
     ((t.eV p.2).bind λy=>K {v:=.undef,upd:=[(i,.arr none t (ys.set k y))],gone:=p.1,mB:=[i]})
     ((ys[k]?).bind λe=>(t.eV ((t.cells e).take o++p.2++(t.cells e).drop (o+sz))).bind λy=>K {v:=.undef,upd:=[(i,.arr none t (ys.set k y))],gone:=p.1,mB:=[i]})) none
  |some d=>(M7 h ((t.tys.drop o).take sz) xs).bind λp=>cond (mem i p.1) none (
    cond (Nat.beq sz t.sz)
     ((t.eV p.2).bind λy=>K {v:=.undef,upd:=[(i,.arr (some (d++p.1)) t (ys.set k y))],mB:=[i]})
     ((ys[k]?).bind λe=>(t.eV ((t.cells e).take o++p.2++(t.cells e).drop (o+sz))).bind λy=>K {v:=.undef,upd:=[(i,.arr (some (d++p.1)) t (ys.set k y))],mB:=[i]}))) none
def TZ (P:Program) (T:TypeId):Bool:=
 match P.underlying T with
 |some (.int _)=>true
 |_=>false
def V2 (E:Env) (h:aP) (nid n sz:Nat) (t:Ty) (cs:List SV) (K:CR->Option ρ):Option ρ:=
 cond (E.lit&&Nat.beq t.sz sz) (match jk h t n cs with
  |some ([],xs)=>K {v:=.own nid,news:=[.arr none t xs]}
  |_=>K {v:=.bsl nid n,news:=[.box cs]}) (K {v:=.bsl nid n,news:=[.box cs]})
def V3 (E:Env) (nid:Nat) (t:Ty) (xs:List t.El) (K:CR->Option ρ):Option ρ:=
 cond (!isNil E.tkt&&!isNil xs) (K {v:=.r [] (.sl t xs)}) (K {v:=.own nid,news:=[.arr none t xs]})
def II (E:Env) (h:aP) (nid:Nat) (e:TypeId) (sz:Nat) (t:Ty) (T':TypeId) (b x:SV) (K:CR->Option ρ):Option ρ:=
 match b with
 |.dt=>cond (TZ E.P T'&&(ry E.P e&&Nat.beq t.sz sz)) (x.asI.bind λl=>(gg E.P e).bind λz=>(jk h t 1 z).bind λq=>cond (isNil q.1&&Nat.beq z.length sz) (match q.2 with
   |[y]=>cond (decide (1<=l/\l<=(aO:Int))) (K {v:=.own nid,news:=[.arr none t (List.replicate l.toNat y)]}) none
   |_=>none) none) none
 |_=>none
def IJ (h:aP) (t:Ty) (b x:SV) (K:CR->Option ρ):Option ρ:=
 match b,x with
 |.sub i 0 a,.sub i' o n=>cond (Nat.beq i i') (match look h i with
  |some (.arr (some d) t' xs)=>if he:t'=t then cond (mem i d) none (cond (Nat.ble (a+n) xs.length&&(Nat.ble (o+n) xs.length&&Nat.ble 1 xs.length))
    (K {v:=.sub i 0 (a+n),upd:=[(i,.arr (some d) t ((he▸xs).take a++((he▸xs).drop o).take n++(he▸xs).drop (a+n)))],mB:=[i]}) none)else none
  |_=>none) none
 |_,_=>none
def T1 (E:Env) (s:List (Nat× SV)) (h:aP) (nid:Nat) (T:TypeId) (a:Operand) (K:CR->Option ρ) (D:Option ρ):Option ρ:=
 cond E.tak (match opd s a with
  |some (.ptr i x 0)=>match look h i with
   |some (.arr none (.st st) xs)=>cond (rv (.st st)) D ((xs[x]?).bind λe=>(jj E.P T (vl nid (st.cells e))).bind λv=>
     K {v:=v,news:=nu (st.cells e),upd:=[(i,.arr none (.ho st) (TX xs x))],mB:=[i]})
   |_=>D
  |_=>D) D
def taken (E:Env):Operand->Bool
 |.tmp t=>mem t E.tkt
 |_=>false
def T3 (E:Env) (s:List (Nat× SV)) (h:aP) (nid:Nat) (T:TypeId) (a:Operand) (K:CR->Option ρ) (D:Option ρ):Option ρ:=
  cond (taken E a) (match opd s a with
    | some (.ptr i x 0) => match look h i with
      |some (.arr none (.sl t) xs)=>(xs[x]?).bind λe=>(jj E.P T (vl nid ((Ty.sl t).cells e))).bind λv=>
          K {v:=v,news:=nu ((Ty.sl t).cells e),upd:=[(i,.arr none (.hl t) (TX xs x))],mB:=[i]}
      |_=>none
    |_=>none) D
def Ei (E:Env) (s:List (Nat× SV)) (h:aP) (nid:Nat) (op:Op) (K:CR->Option ρ):Option ρ:=
  match op with
  |.alloc T=>(gg E.P T).bind λz=>K {v:=.ptr nid 0 0,news:=[.box z]}
  |.box _ x=>(opd s x).bind λv=>v.cells.bind λcs=>K {v:=.ptr nid 0 0,news:=[.box cs]}
  | .buildSlice T n parts =>
    (mz E.P T).bind λe=>(ji E.P e).bind λsz=>(rr s parts.toList).bind λps=>(gg E.P e).bind λz=>
      cond (Nat.ble (n*sz) 16777216&&Nat.beq z.length sz) ((ra (λi=>some (i*sz,sz)) (List.replicate (n*sz) .undef) ps).bind λcs=>
        match E.tt e with
        |none=>K {v:=.bsl nid n,news:=[.box cs]}
        |some t=>cond ((rv t||Nat.beq n 0)&&Nat.beq t.sz sz) ((jk h t n cs).bind λx=>cond (isNil x.1) (V3 E nid t x.2 K) none) (V2 E h nid n sz t cs K)) none
  | .makeSlice T l c =>
    (mz E.P T).bind λe=>(ji E.P e).bind λsz=>(E.tt e).bind λt=>(gg E.P e).bind λz=>(opd s l).bind λl=>(opd s c).bind λc=>l.asI.bind λl=>c.asI.bind λc=>
      cond (ry E.P e&&Nat.beq t.sz sz) ((jk h t 1 z).bind λx=>cond (isNil x.1&&Nat.beq z.length sz) (match x.2 with
        |[y]=>cond (decide (0<=l/\l<=c/\c<=(aO:Int))) (K {v:=.own nid,news:=[.arr none t (List.replicate l.toNat y)]}) none
        |_=>none) none) none
  | .call { callee := .builtin .append, args, argTypes } => (uw s args.toList).bind λ vs => match vs, argTypes.toList with
    | [b, x], [T, T'] => (mz E.P T).bind λ e => (ji E.P e).bind λ sz => (E.tt e).bind λ t => cond (ry E.P e && (Nat.beq t.sz sz && Nat.beq T T')) ((gg E.P e).bind λ z => cond (Nat.beq z.length sz)
      ((uy h t x).bind λy=>match b with
        |.dt=>cond (hit y.2.1 (y.1.getD [])) none (cond (Nat.ble y.2.2.length aO) (K {v:=.own nid,news:=[.arr y.1 t y.2.2],gone:=y.2.1}) none)
        | .own i => match look h i with
          | some (.arr sh t' xs) => if he : t' = t then
              (Kl sh y.1).bind λsh'=>cond (mem i y.2.1) none (cond (hit (i::y.2.1) (sh'.getD [])) none (cond (Nat.ble (xs.length+y.2.2.length) aO) (K {v:=.own nid,news:=[.arr sh' t ((he▸xs)++y.2.2)],gone:=i::y.2.1}) none))
            else none
          |_=>none
        |b=>IJ h t b x K) none) (II E h nid e sz t T' b x K)
    |_,_=>none
  | .call { callee := .builtin .clear, args, argTypes } => (uw s args.toList).bind λ vs => match vs, argTypes.toList with
    | [v], [T] => (mz E.P T).bind λ e => (gg E.P e).bind λ z => (IH h v).bind λ p => match look h p.1 with
      | some (.arr sh t xs) => cond (Nat.beq z.length t.sz) ((jk h t 1 z).bind λ x => cond (isNil x.1) (match x.2 with
        |[y]=>K {v:=.undef,upd:=[(p.1,.arr sh t (xs.take p.2.1++List.replicate p.2.2 y++xs.drop (p.2.1+p.2.2)))],mB:=[p.1]}
        |_=>none) none) none
      |_=>none
    |_,_=>none
  | .store T a x => (opd s a).bind λ a => (opd s x).bind λ x => match a with
    | .ptr i k o => match look h i with
      |some (.box cs)=>cond (Nat.beq k 0) (x.cells.bind λxs=>(ji E.P T).bind λsz=>cond (Nat.beq sz xs.length) ((setCells cs o xs).bind λcs=>K {v:=.undef,upd:=[(i,.box cs)]}) none) none
      |some (.arr sh t ys)=>zH E.P T h i sh t ys k o x K
      |_=>none
    |_=>none
  | .call { callee := .value f, args, .. } => (opd s f).bind λ f => (uw s args.toList).bind λ vs => match f with
    |.fn (.func g) first cap=>E.orc g ρ nid (first++vs++cap) h K
    |_=>none
  | .load T a => T3 E s h nid T a K (match TW E s h T a with
    |some v=>K {v:=v}
    |none=>T1 E s h nid T a K (pU E.P s h (.load T a) λv=>K {v:=v}))
  | .convert src dst x => match TY E.P s h src dst x with
    |some i=>K {v:=.own i}
    |none=>pU E.P s h (.convert src dst x) λv=>K {v:=v}
  |op=>pU E.P s h op λv=>K {v:=v}
noncomputable def both (x y:Option ρ):Option ρ:=open Classical in if x=y then x else none
def Km:Op->Option (TypeId× Operand× Bool)
 |.binOp .eql T x (.const (.slice none 0 0)) _=>some (T,x,true)
 |.binOp .neq T x (.const (.slice none 0 0)) _=>some (T,x,false)
 |_=>none
noncomputable def Vh (h:aP) (v:SV) (K:Bool->Option ρ):Option ρ:=
 match v with
 |.dt=>K true
 |.r _ (.sl _ xs)=>cond (isNil xs) (both (K true) (K false)) (K false)
 |.own i=>match look h i with
  |some (.arr _ _ xs)=>cond (isNil xs) (both (K true) (K false)) (K false)
  |_=>none
 |_=>none
noncomputable def TG (E:Env) (o:Oper) (st:St) (K:St->Option ρ):Option ρ:=
 match Km o.op with
 |some (T,x,e)=>cond (Kj E.P T) ((opd st.cp x).bind λv=>Vh st.heap v λb=>(st.take o.dst {v:=.b (cond b e (!e))}).bind K) none
 |none=>Ei E st.cp st.heap st.nid o.op λc=>(st.take o.dst c).bind K
def Sc (ops:List Oper) (j:Nat):Option Tmp:=(ops[j]?).bind (·.dst)
def Gq (o:Oper) (st:St) (K:St->Option ρ):Option ρ:=
 (TV st.cp st.n o.dst (.tup [])).bind λs=>K {st with cp:=s}
noncomputable def Ej (E:Env) (all:List Oper):List Oper->St->(St->Option ρ)->Option ρ
  |[],st,K=>K st
  | o :: rest, st, K =>
    match o.guard with
    |none=>TG E o st λst=>Ej E all rest st K
    | some (j, want) => (Sc all j).bind λ t => (look st.cp t).bind λ v => match v with
      |.tup []=>Gq o st λst=>Ej E all rest st K
      | v => v.asB.bind λ b =>
        cond b
          (cond want (TG E o {st with cp:=put st.cp t (.b true)} λst=>Ej E all rest st K)
            (Gq o {st with cp:=put st.cp t (.b true)} λst=>Ej E all rest st K))
          (cond want (Gq o {st with cp:=put st.cp t (.b false)} λst=>Ej E all rest st K)
            (TG E o {st with cp:=put st.cp t (.b false)} λst=>Ej E all rest st K))
def after (H:aP) (nid:Nat) (c:CR):Option aP:=
 (jh c.kil (ua c.upd H)).bind λh=>some (h++aQ nid c.news)
structure DR where
 dst:Option Tmp
 n0:Nat
 c:CR
 see:List Nat
 Qk:List SV:=[]
 len:Bool:=false
abbrev SH:=List (Nat× SV)× aP
def Kn (s:List (Nat× SV)) (dst:Option Tmp) (v:SV):List (Nat× SV):=
 match dst with
 |some t=>put s t v
 |none=>s
def LO:aP->Nat->Blk->aP
 |[],_,_=>[]
 |(k,u)::l,n,b=>cond (Nat.beq k n) ((k,b)::l) ((k,u)::LO l n b)
def jV:aP->aP->aP
 |[],h=>h
 |(k,b)::l,h=>jV l (LO h k b)
def DR.app (r:DR) (x:SH):Option SH:=
 (jh r.c.kil (jV r.c.upd x.2)).bind λh=>some (Kn (pT r.c.kil x.1) r.dst r.c.v,h++aQ r.n0 r.c.news)
def replay (p:Nat->Bool):Nat->List DR->SH->Option SH
 |_,[],x=>some x
 |j,r::l,x=>cond (p j) ((r.app x).bind λx=>replay p (j+1) l x) (replay p (j+1) l x)
def wO (n:Nat):List Edge->Bool
 |[]=>true
 |e::l=>cond (Region.binds .any e) (cond (Nat.ble (e.on+1) n) (wO n l) false) (wO n l)
def Gr (aN:List Nat):List Edge->Nat
 |[]=>0
 |e::l=>cond (Region.binds .any e) ((aN.getD e.on 0||| 2^e.on)||| Gr aN l) (Gr aN l)
def Ao:List Nat->List Oper->Option (List Nat)
 |acc,[]=>some acc
 |acc,o::l=>cond (wO acc.length o.after.toList) (Ao (acc++[Gr acc o.after.toList]) l) none
def jS:List Oper->List Nat
 |[]=>[]
 |o::l=>match o.dst with
  |some t=>t::jS l
  |none=>jS l
def Ql (aN:List Nat) (i:Nat):Nat->List Oper->List Nat
 |_,[]=>[]
 |j,o::l=>cond ((aN.getD j 0).testBit i) (Ql aN i (j+1) l) (match o.dst with
  |some t=>t::Ql aN i (j+1) l
  |none=>Ql aN i (j+1) l)
def LQ (n:Nat):List Nat->Bool
 |[]=>true
 |i::l=>cond (Nat.ble (i+1) n) (LQ n l) false
def fg:List Operand->List Nat
 |[]=>[]
 |.tmp t::l=>t::fg l
 |_::l=>fg l
def oY (T:List Nat) (s:List (Nat× SV)):List Nat->List (Nat× SV)
 |[]=>[]
 |t::l=>cond (mem t T) (oY T s l) (match look s t with
  |some v=>(t,v)::oY T s l
  |none=>oY T s l)
def nB (E:Env):Op->Bool
 |.store _ _ _=>true
 |.load _ _=>E.tak
 |.call {callee:=.builtin .len,.. }|.call {callee:=.builtin .cap,.. }|.call {callee:=.builtin .min,.. }|.call {callee:=.builtin .max,.. }=>false
 |.call {callee:=.builtin _,.. }=>true
 |.call {callee:=.value (.func g),.. }=>E.wr g
 |.call {callee:=.value _,.. }=>E.wt
 |.call _=>false
 |_=>false
def T4 (aN:List Nat) (i j:Nat):Bool:=Nat.beq i j||((aN.getD i 0).testBit j||(aN.getD j 0).testBit i)
def yH (E:Env) (aN:List Nat) (i:Nat):Nat->List Oper->Bool
 |_,[]=>false
 |j,o::l=>cond (nB E o.op) (cond (T4 aN i j) (yH E aN i (j+1) l) true) (yH E aN i (j+1) l)
def Ek (s:List (Nat× SV)):List Nat->List SV
 |[]=>[]
 |t::l=>match look s t with
  |some v=>v::Ek s l
  |none=>Ek s l
def yI (h:aP):List Nat->aP
 |[]=>[]
 |i::l=>match look h i with
  |some b=>(i,b)::yI h l
  |none=>yI h l
def Sd:Op->Bool
 |.move _=>true
 |.assign _=>true
 |.extract _ _=>true
 |.nilCheck _=>true
 |.fieldAddr _ _ _=>true
 |_=>false
def T5:Op->Bool
 |.load _ _=>true
 |_=>false
def Vi (E:Env) (aN:List Nat) (i:Nat) (ops:List Oper) (x:SH) (o:Oper):List Nat:=
 cond (yH E aN i 0 ops&&!Sd o.op) (reach x.2 (cond (T5 o.op) 0 3) (qZ [] (LK (Ek x.1 (fg o.op.operands.toList))))) []
def LR (E:Env) (aN:List Nat) (i:Nat) (ops:List Oper) (x:SH) (o:Oper):aP:=
 cond (yH E aN i 0 ops) (yI x.2 (Vi E aN i ops x o)) x.2
def Qm (L:List Nat):aP->Bool
 |[]=>false
 |(k,_)::l=>cond (mem k L) true (Qm L l)
def okW (E:Env) (op:Op) (c:CR):Bool:=cond (nB E op) true (isNil c.kil.2&&isNil c.upd)
mutual
def SV.M9 (T:Kil):SV->Bool
 |.r d _=>!hit T.2 d
 |.own i=>!mem i T.1
 |.sub i _ _=>!mem i T.1
 |.bsl i _=>!mem i T.1
 |.ptr i _ _=>!mem i T.1
 |.inn i _ _=>!(mem i T.1||mem i T.2)
 |.lz d _=>!hit T.2 d
 |.agg cs=>Ap T cs
 |.tup cs=>Ap T cs
 |.fn _ a b=>Ap T a&&Ap T b
 |.dt=>true
 |.rq=>true
 |.undef=>true
def Ap (T:Kil):List SV->Bool
 |[]=>true
 |v::l=>v.M9 T&&Ap T l
end
def Blk.M9 (T:Kil):Blk->Bool
 |.box cs=>Ap T cs
 |.arr (some d) _ _=>!hit T.2 d
 |.arr none _ _=>true
def Nr (k:Nat) (B:Blk):List DR->Bool
 |[]=>true
 |r::l=>cond ((look r.c.upd k).isNone&&(!mem k r.c.kil.1&&B.M9 r.c.kil)) (Nr k B l) false
def UZ (h:aP) (rs:List DR):List Nat->Bool
 |[]=>true
 |k::l=>match look h k with
  |some B=>cond (Nr k B rs) (UZ h rs l) false
  |none=>false
def gi (cm:DR->Bool) (r:DR):Bool:=isNil r.c.kil.2&&(isNil r.c.upd&&(isNil r.c.news&&cm r))
def LS (b a:DR):Bool:=a.c.v.M9 b.c.kil&&Ap b.c.kil a.Qk
def T6 (b:DR):aP->Bool
 |[]=>true
 |(k,_)::l=>cond (Nat.ble (k+1) b.n0||Nat.ble (b.n0+b.c.news.length) k) (T6 b l) false
def IK (a b:DR):Bool:=(isNil a.c.kil.2&&isNil b.c.kil.2)&&((isNil b.c.upd&&T6 b a.c.upd)||(isNil a.c.upd&&T6 a b.c.upd))&&(!(Qm b.see a.c.upd)&&!(Qm a.see b.c.upd))
def tS (cm:DR->Bool) (a b:DR):Bool:=IK a b||((LS b a&&gi cm a)||(LS a b&&gi cm b))
def Aq (cm:DR->Bool) (aN:List Nat) (i:Nat) (r:DR):Nat->List DR->Bool
 |_,[]=>true
 |j,b::l=>cond ((aN.getD j 0).testBit i) (Aq cm aN i r (j+1) l) (cond (tS cm r b) (Aq cm aN i r (j+1) l) false)
def CY (cm:DR->Bool) (aN:List Nat):Nat->List DR->Bool
 |_,[]=>true
 |i,r::l=>cond (Aq cm aN i r (i+1) l) (CY cm aN (i+1) l) false
def Se:List DR->Nat->SV->List DR
 |[],_,_=>[]
 |r::l,0,v=>{r with c:={r.c with v:=v}}::l
 |r::l,n+1,v=>r::Se l n v
def T7:Op->Bool
 |.indexAddr _ _ _=>true
 |_=>false
def T8 (h:aP):List Nat->Bool
 |[]=>true
 |i::l=>cond (look h i).isSome (T8 h l) false
def Gs (x:SH) (o:Oper):List Nat:=qZ [] (LK (Ek x.1 (fg o.op.operands.toList)))
def Ns (E:Env) (h0:aP) (x:SH) (o:Oper):Bool:=E.swp&&(T7 o.op&&T8 h0 (Gs x o))
def Nt (E:Env) (aN:List Nat) (i:Nat) (ops:List Oper) (h0:aP) (x:SH) (o:Oper):aP:=cond (Ns E h0 x o) (yI h0 (Gs x o)) (LR E aN i ops x o)
def U0 (E:Env) (aN:List Nat) (i:Nat) (ops:List Oper) (h0:aP) (x:SH) (o:Oper):List Nat:=cond (Ns E h0 x o) (Gs x o) (Vi E aN i ops x o)
def Sf (E:Env) (aN:List Nat) (i:Nat) (ops:List Oper) (h0:aP) (x:SH) (o:Oper) (nid:Nat) (c:CR):DR:=⟨o.dst,nid,c,U0 E aN i ops h0 x o,Ek x.1 (fg o.op.operands.toList),Ns E h0 x o⟩
def re (E:Env) (ops:List Oper) (aN dsts:List Nat) (s0:List (Nat× SV)) (h0:aP):Nat->List Oper->Nat->List DR->(List DR->Nat->Option ρ)->Option ρ
  |_,[],nid,rs,K=>K rs nid
  | i, o :: rest, nid, rs, K =>
    (replay (Nat.testBit (aN.getD i 0)) 0 rs (oY (Ql aN i 0 ops) s0 (fg o.op.operands.toList),h0)).bind λx=>
    match o.guard with
    |none=>Ei E (oY [] x.1 (fg o.op.operands.toList)) (Nt E aN i ops h0 x o) nid o.op λc=>cond (okW E o.op c) (re E ops aN dsts s0 h0 (i+1) rest (nid+c.news.length) (rs++[Sf E aN i ops h0 x o nid c]) K) none
    | some (g, want) => cond (Nat.testBit (aN.getD i 0) g) ((rs[g]?).bind λ r => r.dst.bind λ _ => match r.c.v with
      |.tup []=>re E ops aN dsts s0 h0 (i+1) rest nid (rs++[⟨o.dst,nid,{v:=.tup []},[],[],false⟩]) K
      | .r [] (.bool b) => cond b
        (cond want
          (Ei E (oY [] x.1 (fg o.op.operands.toList)) (Nt E aN i ops h0 x o) nid o.op λc=>cond (okW E o.op c) (re E ops aN dsts s0 h0 (i+1) rest (nid+c.news.length) (Se rs g (.b true)++[Sf E aN i ops h0 x o nid c]) K) none)
          (re E ops aN dsts s0 h0 (i+1) rest nid (Se rs g (.b true)++[⟨o.dst,nid,{v:=.tup []},[],[],false⟩]) K))
        (cond want
          (re E ops aN dsts s0 h0 (i+1) rest nid (Se rs g (.b false)++[⟨o.dst,nid,{v:=.tup []},[],[],false⟩]) K)
          (Ei E (oY [] x.1 (fg o.op.operands.toList)) (Nt E aN i ops h0 x o) nid o.op λc=>cond (okW E o.op c) (re E ops aN dsts s0 h0 (i+1) rest (nid+c.news.length) (Se rs g (.b false)++[Sf E aN i ops h0 x o nid c]) K) none))
      |_=>none) none
def Ar:List Nat->List Nat->Bool
 |[],_=>true
 |i::l,T=>cond (mem i T) false (Ar l T)
def Em (L:List Nat):List DR->Bool
 |[]=>true
 |r::l=>cond (Ar L r.c.kil.1) (Em L l) false
def Cw (h:aP) (rs:List DR) (r:DR):Bool:=cond r.len (Em r.see rs) (UZ h rs r.see)
def CZ (cm:DR->Bool):List DR->Bool
 |[]=>true
 |r::l=>cond (!r.len||gi cm r) (CZ cm l) false
def En (E:Env) (ops:List Oper) (st:St) (K:St->Option ρ):Option ρ:=
  cond (E.P.follows .mixedOrders) ((Ao [] ops).bind λaN=>
    cond (ij (jS ops)) (cond (LQ st.n (jS ops))
      (re E ops aN (jS ops) st.cp st.heap 0 ops st.nid [] λrs nid=>cond (CY (Cw st.heap rs) aN 0 rs&&CZ (Cw st.heap rs) rs)
        ((replay (λ_=>true) 0 rs (st.cp,st.heap)).bind λx=>K {st with cp:=x.1,heap:=x.2,nid:=nid}) none) none) none) none
inductive Ex where
 |normal
 |exit (id:Nat)
 |ret
def refine(c:Operand) (b:Bool) (st:St):St:=
 match c with
 |.tmp t=>{st with cp:=put st.cp t (.b b)}
 |_=>st
abbrev Ev (ρ:Type):=St->(Ex->St->Option ρ)->Option ρ
def inBlock (id:Nat) (K:Ex->St->Option ρ):Ex->St->Option ρ
 |.exit j,st=>cond (Nat.beq j id) (K .normal st) (K (.exit j) st)
 |e,st=>K e st
def P7 (i:Nat):List Nat->List Nat
 |[]=>[]
 |k::l=>cond (Nat.beq k i) (P7 i l) (k::P7 i l)
def Ko (i:Nat) (t:Ty) (h:aP) (v:SV):SV:=
 match v.list h t with
 |some p=>.r (P7 i p.1) (.sl t p.2)
 |none=>.undef
mutual
def SV.frz (i:Nat) (t:Ty) (h:aP):SV->SV
 |.r d x=>.r (P7 i d) x
 |.own j=>cond (Nat.beq j i) (Ko i t h (.own j)) (.own j)
 |.sub j o n=>cond (Nat.beq j i) (Ko i t h (.sub j o n)) (.sub j o n)
 |.bsl j n=>cond (Nat.beq j i) .undef (.bsl j n)
 |.ptr j x o=>cond (Nat.beq j i) .undef (.ptr j x o)
 |.inn j x c=>cond (Nat.beq j i) .undef (.inn j x c)
 |.lz d cs=>.lz (P7 i d) cs
 |.agg cs=>.agg (Gc i t h cs)
 |.tup cs=>.tup (Gc i t h cs)
 |.fn f a b=>.fn f (Gc i t h a) (Gc i t h b)
 |.dt=>.dt
 |.rq=>.rq
 |.undef=>.undef
def Gc (i:Nat) (t:Ty) (h:aP):List SV->List SV
 |[]=>[]
 |v::l=>v.frz i t h::Gc i t h l
end
def Blk.frz (i:Nat) (t:Ty) (h:aP):Blk->Blk
 |.box cs=>.box (Gc i t h cs)
 |.arr none t' xs=>.arr none t' xs
 |.arr (some d) t' xs=>.arr (some (P7 i d)) t' xs
def IL (i:Nat) (t:Ty) (h:aP):aP->aP
 |[]=>[]
 |(k,b)::l=>cond (Nat.beq k i) (IL i t h l) ((k,b.frz i t h)::IL i t h l)
def LU (i:Nat) (t:Ty) (h:aP):List (Nat× SV)->List (Nat× SV)
 |[]=>[]
 |(k,v)::l=>(k,v.frz i t h)::LU i t h l
def Vj (i:Nat) (st:St):St:=
 match look st.heap i with
 |some (.arr _ t _)=>{st with cp:=LU i t st.heap st.cp,heap:=IL i t st.heap st.heap}
 |_=>st
def T9 (h:aP):SV->List Nat->Option Nat
 |.own i,[]=>some i
 |.sub i _ _,[]=>some i
 |.agg cs,j::p=>match cs[j]? with
  |some v=>T9 h v p
  |none=>none
 |.tup cs,j::p=>match cs[j]? with
  |some v=>T9 h v p
  |none=>none
 |.ptr i 0 o,j::p=>match look h i with
  |some (.box cs)=>match cs[o+j]? with
   |some v=>T9 h v p
   |none=>none
  |_=>none
 |.bsl i _,j::p=>match look h i with
  |some (.box cs)=>match cs[j]? with
   |some v=>T9 h v p
   |none=>none
  |_=>none
 |_,_=>none
termination_by structural _ p=>p
def Vk (i:Nat) (st:St):St:=
 match look st.heap i with
 |some (.arr none t xs)=>{st with heap:=put st.heap i (.arr (some []) t xs)}
 |_=>st
def RE (st:St) (x:Bool× Nat× List Nat):St:=
 match look st.cp x.2.1 with
 |some v=>match T9 st.heap v x.2.2 with
  |some i=>cond x.1 (Vk i st) (Vj i st)
  |none=>st
 |none=>st
def Kp:List (Bool× Nat× List Nat)->St->St
 |[],st=>st
 |x::l,st=>Kp l (RE st x)
def Blk.Nu (b:Blk) (K:Blk->Option ρ):Option ρ:=
 match b with
 |.arr none (.ho s) zs=>(Gp zs).bind λxs=>K (.arr none (.st s) xs)
 |.arr none (.hl t) zs=>(Gp zs).bind λxs=>K (.arr none (.sl t) xs)
 |b=>K b
def Nv:aP->(aP->Option ρ)->Option ρ
 |[],K=>K []
 |(k,b)::l,K=>b.Nu λb=>Nv l λl=>K ((k,b)::l)
def Kq (E:Env) (K:St->Option ρ) (st:St):Option ρ:=cond E.tak (Nv st.heap λh=>K {st with heap:=h}) (K st)
noncomputable def ev (E:Env) (LP:Nat->Ev ρ->Ev ρ) (cb:Nat):Code->Ev ρ
 |.skip,st,K=>K .normal st
 |.label _,st,K=>K .normal st
 |.region id ops false,st,K=>Ej E ops.toList ops.toList (Nq (E.wk id) (Kp (E.fz id) st)) (Kq E (K .normal))
 |.region id ops true,st,K=>En E ops.toList (Nq (E.wk id) (Kp (E.fz id) st)) (Kq E (K .normal))
 |.seq a b,st,K=>ev E LP cb a st λe st=>match e with
  |.normal=>ev E LP cb b st K
  |e=>K e st
 |.cond c t f,st,K=>(opd st.cp c).bind λv=>v.asB.bind λb=>cond b (ev E LP cb t (refine c true st) K) (ev E LP cb f (refine c false st) K)
 |.block id c,st,K=>ev E LP id c st (inBlock id K)
 |.loop c,st,K=>LP cb (λst K=>ev E LP cb c st K) st K
 |.exit id,st,K=>K (.exit id) st
 |.scope c,st,K=>ev E LP cb c st K
 |.ret,st,K=>K .ret st
 |_,_,_=>none
def Sg (body:Ev ρ):Nat->Ev ρ
 |0,_,_=>none
 |n+1,st,K=>body st λe st=>match e with
  |.normal=>Sg body n st K
  |e=>K e st
end
section
def Ext {α:Type} (s s':List (Nat× α)):Prop:=∀t v,look s t=some v->look s' t=some v
theorem Ext.rfl' {α:Type} {s:List (Nat× α)}:Ext s s:=λ_ _ h=>h
def Le {α:Type} (x y:Option α):Prop:=∀a,x=some a->y=some a
theorem Le.refl {α:Type} (x:Option α):Le x x:=λ_ h=>h
theorem Le.bind {α β:Type} {x y:Option α} {f g:α->Option β} (h:Le x y) (hf:∀a,Le (f a) (g a)):Le (x.bind f) (y.bind g):=by
 intro b hb;rw[An]at hb⊢;obtain⟨a,h1,h2⟩:=hb;exact⟨a,h a h1,hf a b h2⟩
theorem Le.cond {α:Type} {b:Bool} {x y x' y':Option α} (h:Le x x') (h':Le y y'):Le (cond b x y) (cond b x' y'):=by cases b<;>assumption
theorem Le.none {α:Type} {y:Option α}:Le Option.none y:=λ_ h=>nomatch h
section
variable {s s':List (Nat× SV)} {h h':aP} {P:Program}
theorem Si (hh:Ext h h') (i:Nat):Le (look h i) (look h' i):=λ_=>hh i _
theorem dg (hs:Ext s s') (x:Operand):Le (opd s x) (opd s' x):=by
 cases x with
 |tmp t=>exactλv hv=>hs t v hv
 |_=>exact Le.refl _
theorem jW (hs:Ext s s'):(l:List Operand)->Le (uw s l) (uw s' l)
 |[]=>Le.refl _
 |x::l=>(dg hs x).bind λ_=>(jW hs l).bind λ_=>Le.refl _
theorem IM (hs:Ext s s') (x:Option Operand):Le (P6 s x) (P6 s' x):=by
 cases x with
 |none=>exact Le.refl _
 |some x=>exact(dg hs x).bind λ_=>Le.refl _
theorem oZ (hs:Ext s s'):(l:List (Nat× Operand))->Le (rr s l) (rr s' l)
 |[]=>Le.refl _
 |(_,x)::l=>(dg hs x).bind λ_=>(oZ hs l).bind λ_=>Le.refl _
theorem LV (hh:Ext h h') (v:SV):Le (mA h v) (mA h' v):=by
 cases v<;>try exact Le.refl _
 rename_i i x o;intro cs hcs;simp only[mA]at hcs⊢
 cases hl:look h i with
 |none=>rw[hl]at hcs;exact nomatch hcs
 |some B=>rw[hl]at hcs;rw[hh i B hl];exact hcs
theorem Qn (hh:Ext h h') (v:SV):Le (lenOf h v) (lenOf h' v):=by
 intro n hn
 cases v with
 |own i=>
  simp only[lenOf]at hn⊢
  cases hl:look h i with
  |none=>rw[hl]at hn;exact nomatch hn
  |some B=>rw[hl]at hn;rw[hh i B hl];exact hn
 |r d x=>cases x<;>exact hn
 |_=>exact hn
theorem LW (hh:Ext h h') (T:TypeId) (v:SV) (lo hi:Option SV):Le (jU P T h v lo hi) (jU P T h' v lo hi):=by
 intro cs hcs
 cases v with
 |own i=>
  simp only[jU]at hcs⊢
  cases hl:look h i with
  |none=>rw[hl]at hcs;exact nomatch hcs
  |some B=>rw[hl]at hcs;rw[hh i B hl];exact hcs
 |sub i o n=>
  simp only[jU]at hcs⊢
  cases hl:look h i with
  |none=>rw[hl]at hcs;exact nomatch hcs
  |some B=>rw[hl]at hcs;rw[hh i B hl];exact hcs
 |r d x=>cases x<;>exact hcs
 |_=>exact hcs
theorem Cz (hh:Ext h h') (T:TypeId) (v:SV) (k:Int):Le (bH P T h v k) (bH P T h' v k):=by
 intro cs hcs
 cases v with
 |own i=>
  simp only[bH]at hcs⊢
  cases hl:look h i with
  |none=>rw[hl]at hcs;exact nomatch hcs
  |some B=>rw[hl]at hcs;rw[hh i B hl];exact hcs
 |sub i o n=>
  simp only[bH]at hcs⊢
  cases hl:look h i with
  |none=>rw[hl]at hcs;exact nomatch hcs
  |some B=>rw[hl]at hcs;rw[hh i B hl];exact hcs
 |r d x=>cases x<;>exact hcs
 |_=>exact hcs
theorem IP (hh:Ext h h') (t:Ty) (v:SV):Le (v.list h t) (v.list h' t):=by
 intro p hp
 cases v<;>try exact hp
 all_goals
  simp only[SV.list]at hp⊢;split at hp
  ·rename_i hl;rw[hh _ _ hl];exact hp
  ·exact nomatch hp
theorem Ua (hh:Ext h h') (T:TypeId) (x:SV):Le (slN P T h x) (slN P T h' x):=by
 intro n hn
 cases x with
 |own i=>
  simp only[slN]at hn⊢
  cases hl:look h i with
  |none=>rw[hl]at hn;exact nomatch hn
  |some B=>rw[hl]at hn;rw[hh i B hl];exact hn
 |r d x=>cases x<;>exact hn
 |_=>exact hn
theorem wP (hs:Ext s s') (hh:Ext h h') (op:Op):Le (ic P s h op) (ic P s' h' op):=by
 intro v hv;unfold ic at hv;split at hv<;>simp only[ic]
 ·exact dg hs _ v hv
 ·exact dg hs _ v hv
 ·revert hv;exact((dg hs _).bind λc=>(Le.refl _).bind λb=>Le.cond (dg hs _) (dg hs _)) v
 ·revert hv
  split
  ·exact((Le.refl _).bind λ_=>(Le.refl _).bind λ_=>(oZ hs _).bind λ_=>Le.refl _) v
  ·exactλh=>nomatch h
 ·exact((dg hs _).bind λa=>(LV hh a).bind λ_=>Le.refl _) v hv
 ·exact((dg hs _).bind λa=>Le.refl _) v hv
 ·exact((dg hs _).bind λa=>(dg hs _).bind λ_=>Le.refl _) v hv
 ·exact((dg hs _).bind λa=>Le.refl _) v hv
 ·exact((dg hs _).bind λa=>Le.cond ((IP hh _ _).bind λ_=>Le.refl _) (Le.refl _)) v hv
 ·exact((jW hs _).bind λa=>(jW hs _).bind λ_=>Le.refl _) v hv
 ·exact((dg hs _).bind λa=>(IM hs _).bind λ_=>(IM hs _).bind λ_=>LW hh _ _ _ _) v hv
 ·exact((dg hs _).bind λa=>(IM hs _).bind λ_=>(dg hs _).bind λ_=>(dg hs _).bind λ_=>(Ua hh _ _).bind λ_=>Le.refl _) v hv
 ·exact((dg hs _).bind λa=>Le.refl _) v hv
 ·exact((dg hs _).bind λa=>Le.refl _) v hv
 ·exact((dg hs _).bind λa=>(dg hs _).bind λ_=>(Le.refl _).bind λ_=>Cz hh _ _ _) v hv
 ·exact((dg hs _).bind λa=>(dg hs _).bind λ_=>Le.refl _) v hv
 ·exact((dg hs _).bind λa=>Le.refl _) v hv
 ·refine((jW hs _).bind λvs=>?_) v hv;split
  ·exact Le.cond ((Qn hh _).bind λ_=>Le.refl _) (Le.refl _)
  ·exact Le.refl _
 ·exact((jW hs _).bind λa=>Le.refl _) v hv
 ·exact((jW hs _).bind λa=>Le.refl _) v hv
 ·exact((jW hs _).bind λa=>Le.refl _) v hv
 ·exact nomatch hv
theorem Gt (hh:Ext h h') (t:Ty) (v:SV):Le (v.asR h t) (v.asR h' t):=by
 cases t with
 |sl t=>exact(IP hh t v).bind λ_=>Le.refl _
 |_=>exact Le.refl _
theorem IQ (hh:Ext h h'):(ts:List Ty)->(vs:List SV)->Le (M7 h ts vs) (M7 h' ts vs)
 |[],[]=>Le.refl _
 |t::ts,v::vs=>(Gt hh t v).bind λ_=>(IQ hh ts vs).bind λ_=>Le.refl _
 |[],_::_=>Le.refl _
 |_::_,[]=>Le.refl _
theorem Sj (hh:Ext h h') (t:Ty) (vs:List SV):Le (UX h t vs) (UX h' t vs):=(IQ hh _ _).bind λ_=>Le.refl _
theorem Kr (hh:Ext h h') (t:Ty):(n:Nat)->(c:List SV)->Le (LN h t n c) (LN h' t n c)
 |0,_=>Le.refl _
 |n+1,_=>(Sj hh t _).bind λ_=>(Kr hh t n _).bind λ_=>Le.refl _
theorem Eo (hh:Ext h h') (t:Ty) (v:SV):Le (v.M8 h t) (v.M8 h' t):=by
 intro p hp
 cases t with
 |sl t=>
  cases v with
  |own i=>
   simp only[SV.M8]at hp⊢
   cases hl:look h i with
   |none=>rw[hl]at hp;exact nomatch hp
   |some B=>rw[hl]at hp;rw[hh i B hl];exact hp
  |_=>exact hp
 |_=>exact hp
theorem Ks (hh:Ext h h'):(ts:List Ty)->(vs:List SV)->Le (IG h ts vs) (IG h' ts vs)
 |[],[]=>Le.refl _
 |t::ts,v::vs=>(Eo hh t v).bind λ_=>(Ks hh ts vs).bind λ_=>Le.refl _
 |[],_::_=>Le.refl _
 |_::_,[]=>Le.refl _
theorem kJ (hh:Ext h h') (t:Ty):(n:Nat)->(c:List SV)->Le (jk h t n c) (jk h' t n c)
 |0,_=>Le.refl _
 |n+1,_=>(Ks hh _ _).bind λ_=>(Le.refl _).bind λ_=>(kJ hh t n _).bind λ_=>Le.refl _
theorem Gu (hh:Ext h h'):(c:List SV)->Le (Gn h c) (Gn h' c)
 |[]=>Le.refl _
 |v::l=>by
  have ih:=Gu hh l
  cases v with
  |own i=>
   refine(Si hh i).bind λb=>?_
   cases b with
   |box _=>exact Le.refl _
   |arr sh _ _=>cases sh with
    |none=>exact ih
    |some _=>exact Le.refl _
  |r d x=>cases x with
   |sl _ _=>exact Le.refl _
   |_=>exact ih
  |sub _ _ _=>exact Le.refl _
  |bsl _ _=>exact Le.refl _
  |_=>exact ih
theorem Nw (hh:Ext h h') (t:Ty) (n:Nat) (c:List SV):Le (Kk h t n c) (Kk h' t n c):=
 (Gu hh c).bind λb=>Le.cond ((kJ hh t n c).bind λ_=>Le.refl _) ((Kr hh t n c).bind λ_=>Le.refl _)
theorem C0 (hh:Ext h h') (t:Ty) (v:SV):Le (uy h t v) (uy h' t v):=by
 have ind:∀(v:SV) (p:List Nat× List t.El),v.list h t=some p->rb h' v p.1=rb h v p.1:=λv p hp=>by
  cases v with
  |own i=>
   simp only[SV.list]at hp
   cases hl:look h i with
   |none=>rw[hl]at hp;exact nomatch hp
   |some B=>simp only[rb,hl,hh i B hl]
  |_=>rfl
 have lst:∀v:SV,Le ((v.list h t).bind λp=>cond (rv t) (some (none,[],p.2)) (some (some (rb h v p.1),[],p.2)):Option (Option (List Nat)× List Nat× List t.El)) ((v.list h' t).bind λp=>cond (rv t) (some (none,[],p.2)) (some (some (rb h' v p.1),[],p.2))):=λv q hq=>by
  rw[An]at hq⊢;obtain⟨p,hp,hq⟩:=hq;exact⟨p,IP hh t v p hp,by rw[ind v p hp];exact hq⟩
 cases v with
 |bsl i n=>
  intro p hp;simp only[uy]at hp⊢
  cases hl:look h i with
  |none=>rw[hl]at hp;exact nomatch hp
  |some B=>
   rw[hl]at hp;rw[hh i B hl]
   cases B with
   |box cs=>exact((Nw hh t n cs).bind λ_=>Le.refl _) p hp
   |arr _ _ _=>exact nomatch hp
 |r d x=>exact lst (.r d x)
 |dt=>exact lst .dt
 |rq=>exact lst .rq
 |own i=>exact lst (.own i)
 |sub i o n=>exact lst (.sub i o n)
 |ptr i x o=>exact lst (.ptr i x o)
 |inn i x o=>exact lst (.inn i x o)
 |lz d x=>exact lst (.lz d x)
 |agg x=>exact lst (.agg x)
 |tup x=>exact lst (.tup x)
 |fn f a b=>exact lst (.fn f a b)
 |undef=>exact lst .undef
end
end
section
abbrev Cell:=Nat× Nat
def _root_.Go.World.at? (w:World) (p:Cell):Option Value:=w.cell? ⟨p.1,p.2,none⟩
def _root_.Go.World.eD (w:World) (p:Cell):Nat× Nat× Nat:=
 match w.heap[p.1]? with
 |some (.cells c _ fr)=>(fr.1,fr.2,c.size)
 |_=>(0,0,0)
def calm (r:Nat× Nat× Nat):Bool:=decide (r.1=r.2.1\/r.2.2<=r.1)
def whole (r:Nat× Nat× Nat) (o n:Nat):Bool:=calm r&&decide (o=0/\r.2.2=n)
theorem sO {r:Nat× Nat× Nat} {o n:Nat} (h:whole r o n=true):calm r=true:=by
 unfold whole at h;rw[W3]at h;exact h.1
theorem Kt {n:Nat}:whole (0,0,n) 0 n=true:=by simp[whole,calm]
theorem mC {w:World} {b o:Nat} {u:Value} (h:w.at? (b,o)=some u) (hc:calm (w.eD (b,o))=true):w.frozen? ⟨b,o,none⟩=false:=by
 unfold World.at? World.cell? at h;unfold calm World.eD at hc;unfold World.frozen?
 cases hb:w.heap[b]? with
 |none=>rfl
 |some ob=>
  cases ob with
  |cells c t fr=>
   simp only[hb,YF,Yt,if_false]at h;simp only[hb,decide_eq_true_eq]at hc;have:=(Xp.1 h).1;obtain⟨lo,hi⟩:=fr;simp only at hc⊢;rw[Bool.and_eq_false_iff,decide_eq_false_iff_not,decide_eq_false_iff_not]
   omega
  |_=>rfl
theorem Gv (w:World) (a:Addr) (v:Value) (p:Cell):(w.setCell a v).eD p=w.eD p:=by
 unfold World.eD World.setCell;simp only[Array.getElem?_modify];by_cases e:a.block=p.1
 ·rw[if_pos e]
  cases hb:w.heap[p.1]? with
  |none=>rfl
  |some ob=>
   cases ob with
   |cells c t fr=>simp only[YP];split<;>simp
   |_=>rfl
 ·rw[if_neg e]
theorem gH (b:Nat):∀(vs:List Value) (o:Nat) (w:World) (p:Cell),(w.setCells b o vs).eD p=w.eD p
 |[],_,_,_=>rfl
 |v::vs,o,w,p=>(gH b vs (o+1) (w.setCell ⟨b,o,none⟩ v) p).trans (Gv w _ v p)
def one:Value->Bool
 |.agg _|.tuple _=>false
 |_=>true
class Tok where
 env:Nat->Value
 Nx:∀n,one (env n)=true
 Ny:env 0=.slice none 0 0
variable [Tok]
def reg (b o n:Nat) (p:Cell):Prop:=p.1=b/\o<=p.2/\p.2<o+n
def aG (t:Ty) (xs:List t.El) (i j:Nat) (r:R):Prop:=∃x,xs[i]? =some x/\(t.cells x)[j]? =some r
theorem aR {t:Ty} {xs:List t.El} {i j:Nat} {r:R} (h:aG t xs i j r):i<xs.length/\j<t.sz:=by
 obtain⟨x,hx,hr⟩:=h;refine⟨(Of.1 hx).1,?_⟩;have:=(Of.1 hr).1;rwa [Ty.cd]at this
theorem dV {t:Ty} {xs:List t.El} {i j:Nat} (hi:i<xs.length) (hj:j<t.sz):∃r,aG t xs i j r:=by
 refine⟨(t.cells xs[i])[j]'(by rw[Ty.cd];exact hj),xs[i],?_,?_⟩<;>simp
theorem rz {i j n s c:Nat} (hi:i<n) (hj:j<s) (h:n<=c):i*s+j<c*s:=by
 have h1:(i+1)*s<=c*s:=Xr s (by omega);have:(i+1)*s=i*s+s:=Yx i s;omega
inductive RepR (w:World) (ok:Cell->Prop):R->Value->Prop
 |int (k:IntKind) (n:Int):RepR w ok (.int k n) (.int k n)
 |bool (b:Bool):RepR w ok (.bool b) (.bool b)
 |str (l:List UInt8):RepR w ok (.str l) (.string ⟨l.toArray⟩)
 |sl (t:Ty) (xs:List t.El) (a:Option Addr) (cap b o:Nat) (vs:Nat->Nat->Value)
   (hcap:xs.length<=cap) (ha:xs=[]\/a=some ⟨b,o,none⟩)
   (hc:∀i j r,aG t xs i j r->ok (b,o+(i*t.sz+j))/\w.at? (b,o+(i*t.sz+j))=some (vs i j))
   (hr:∀i j r,aG t xs i j r->RepR w ok r (vs i j)):RepR w ok (.sl t xs) (.slice a xs.length cap)
 |tok (n:Nat):RepR w ok (.tok n) (Tok.env n)
 |nt (v:Value) (h:one v=true):RepR w ok .nt v
theorem RepR.frame {w w':World} {ok ok':Cell->Prop} {r:R} {v:Value} (h:RepR w ok r v)
  (hf:∀p u,ok p->w.at? p=some u->ok' p/\w'.at? p=some u):RepR w' ok' r v:=by
 induction h with
 |int=>exact .int _ _
 |bool=>exact .bool _
 |str=>exact .str _
 |tok=>exact .tok _
 |nt v h=>exact .nt v h
 |sl t xs a cap b o vs hcap ha hc _ ih=>
  exact .sl t xs a cap b o vs hcap ha (λi j r hr=>hf _ _ (hc i j r hr).1 (hc i j r hr).2) ih
structure Row (w:World) (inner:R->Value->(Cell->Prop)->Prop) (t:Ty) (xs:List t.El) (hdr:Value) (fp:Cell->Prop) where
 a:Option Addr
 cap:Nat
 b:Nat
 o:Nat
 vs:Nat->Nat->Value
 fs:Nat->Nat->Cell->Prop
 As:hdr=.slice a xs.length cap
 hcap:xs.length<=cap
 ha:cap=0\/a=some ⟨b,o,none⟩
 lA:∀j,j<cap*t.sz->(∃v,w.at? (b,o+j)=some v)/\whole (w.eD (b,o+j)) o (cap*t.sz)=true
 hc:∀i j r,aG t xs i j r->w.at? (b,o+(i*t.sz+j))=some (vs i j)
 hr:∀i j r,aG t xs i j r->inner r (vs i j) (fs i j)
 hd1:∀i j r p,aG t xs i j r->fs i j p->¬reg b o (cap*t.sz) p
 hd2:∀i j r i' j' r' p,aG t xs i j r->aG t xs i' j' r'->fs i j p->fs i' j' p->i=i'/\j=j'
 hfp:∀p,fp p↔reg b o (cap*t.sz) p\/∃i j r,aG t xs i j r/\fs i j p
inductive fK (w:World):R->Value->(Cell->Prop)->Prop
 |int (k:IntKind) (n:Int):fK w (.int k n) (.int k n) (λ_=>False)
 |bool (b:Bool):fK w (.bool b) (.bool b) (λ_=>False)
 |str (l:List UInt8):fK w (.str l) (.string ⟨l.toArray⟩) (λ_=>False)
 |sl (t:Ty) (xs:List t.El) (a:Option Addr) (cap b o:Nat) (vs:Nat->Nat->Value) (fs:Nat->Nat->Cell->Prop) (fp:Cell->Prop)
   (hcap:xs.length<=cap) (ha:cap=0\/a=some ⟨b,o,none⟩)
   (lA:∀j,j<cap*t.sz->(∃v,w.at? (b,o+j)=some v)/\whole (w.eD (b,o+j)) o (cap*t.sz)=true)
   (hc:∀i j r,aG t xs i j r->w.at? (b,o+(i*t.sz+j))=some (vs i j))
   (hr:∀i j r,aG t xs i j r->fK w r (vs i j) (fs i j))
   (hd1:∀i j r p,aG t xs i j r->fs i j p->¬reg b o (cap*t.sz) p)
   (hd2:∀i j r i' j' r' p,aG t xs i j r->aG t xs i' j' r'->fs i j p->fs i' j' p->i=i'/\j=j')
   (hfp:∀p,fp p↔reg b o (cap*t.sz) p\/∃i j r,aG t xs i j r/\fs i j p):fK w (.sl t xs) (.slice a xs.length cap) fp
 |tok (n:Nat):fK w (.tok n) (Tok.env n) (λ_=>False)
 |nt (v:Value) (h:one v=true):fK w .nt v (λ_=>False)
theorem fK.row {w:World} {t:Ty} {xs:List t.El} {v:Value} {fp:Cell->Prop} (h:fK w (.sl t xs) v fp):Nonempty (Row w (fK w) t xs v fp):=by
 cases h with
 |sl t xs a cap b o vs fs fp hcap ha lA hc hr hd1 hd2 hfp=>exact⟨⟨a,cap,b,o,vs,fs,rfl,hcap,ha,lA,hc,hr,hd1,hd2,hfp⟩⟩
theorem Row.U1 {w:World} {t:Ty} {xs:List t.El} {v:Value} {fp:Cell->Prop} (h:Row w (fK w) t xs v fp):fK w (.sl t xs) v fp:=by
 obtain⟨a,cap,b,o,vs,fs,rfl,hcap,ha,lA,hc,hr,hd1,hd2,hfp⟩:=h;exact .sl t xs a cap b o vs fs fp hcap ha lA hc hr hd1 hd2 hfp
theorem fK.frame {w w':World} {r:R} {v:Value} {fp:Cell->Prop} (h:fK w r v fp)
  (hf:∀p u,fp p->w.at? p=some u->w'.at? p=some u/\w'.eD p=w.eD p):fK w' r v fp:=by
 induction h with
 |int=>exact .int _ _
 |bool=>exact .bool _
 |str=>exact .str _
 |tok=>exact .tok _
 |nt v h=>exact .nt v h
 |sl t xs a cap b o vs fs fp hcap ha lA hc _ hd1 hd2 hfp ih=>
  have hin:∀i j r,aG t xs i j r->fp (b,o+(i*t.sz+j)):=λi j r hr=>(hfp _).2 (.inl ⟨rfl,by simp,by
   have:=rz (aR hr).1 (aR hr).2 hcap;simp;omega⟩)
  refine .sl t xs a cap b o vs fs fp hcap ha (λj hj=>?_) (λi j r hr=>(hf _ _ (hin i j r hr) (hc i j r hr)).1)
   (λi j r hr=>ih i j r hr λp u hp=>hf p u ((hfp p).2 (.inr ⟨i,j,r,hr,hp⟩))) hd1 hd2 hfp
  obtain⟨⟨v,hv⟩,hi⟩:=lA j hj;have:=hf (b,o+j) v ((hfp _).2 (.inl ⟨rfl,by simp,by simp;omega⟩)) hv;exact⟨⟨v,this.1⟩,by rw[this.2];exact hi⟩
theorem fK.Nz {w:World} {r:R} {v:Value} {fp:Cell->Prop} {ok:Cell->Prop} (h:fK w r v fp) (hok:∀p,fp p->ok p):RepR w ok r v:=by
 induction h with
 |int=>exact .int _ _
 |bool=>exact .bool _
 |str=>exact .str _
 |tok=>exact .tok _
 |nt v h=>exact .nt v h
 |sl t xs a cap b o vs fs fp hcap ha lA hc _ hd1 hd2 hfp ih=>
  refine .sl t xs a cap b o vs hcap ?_ (λi j r hr=>⟨hok _ ((hfp _).2 (.inl ⟨rfl,by simp,by
   have:=rz (aR hr).1 (aR hr).2 hcap;simp;omega⟩)),hc i j r hr⟩)
   (λi j r hr=>ih i j r hr λp hp=>hok p ((hfp p).2 (.inr ⟨i,j,r,hr,hp⟩)))
  rcases ha with rfl|h
  ·exact .inl (XI.1 (by omega))
  ·exact .inr h
theorem fK.there {w:World} {r:R} {v:Value} {fp:Cell->Prop} (h:fK w r v fp):∀p,fp p->∃u,w.at? p=some u:=by
 induction h with
 |int=>exactλ_ h=>h.elim
 |bool=>exactλ_ h=>h.elim
 |str=>exactλ_ h=>h.elim
 |tok=>exactλ_ h=>h.elim
 |nt=>exactλ_ h=>h.elim
 |sl t xs a cap b o vs fs fp hcap ha lA hc _ hd1 hd2 hfp ih=>
  intro p hp
  rcases(hfp p).1 hp with⟨h1,h2,h3⟩|⟨i,j,r,hr,hp⟩
  ·obtain⟨p1,p2⟩:=p;have h1:p1=b:=h1;simp only at h1 h2 h3;subst h1;have:=(lA (p2-o) (by omega)).1;rwa [show o+(p2-o)=p2 from by omega]at this
  ·exact ih i j r hr p hp
structure Pl where
 hdr:Nat->Value
 fp:Nat->Cell->Prop
 base:Cell->Prop
def Blk.lB:Blk->Bool
 |.box _=>true
 |.arr _ _ _=>false
def okd (H:aP) (pl:Pl) (d:List Nat) (p:Cell):Prop:=pl.base p/\∀i B,look H i=some B->(mem i d=true->B.lB=true)->¬pl.fp i p
inductive au (w:World) (H:aP) (pl:Pl):SV->Value->Prop
 |r (d:List Nat) (x:R) (v:Value) (h:RepR w (okd H pl d) x v):au w H pl (.r d x) v
 |dt:au w H pl .dt (.slice none 0 0)
 |rq:au w H pl .rq (.pointer none)
 |own (i:Nat) (sh:Option (List Nat)) (t:Ty) (xs:List t.El) (h:look H i=some (.arr sh t xs)):au w H pl (.own i) (pl.hdr i)
 |sub (i o n:Nat) (sh:Option (List Nat)) (t:Ty) (xs:List t.El) (a a':Option Addr) (cap jl:Nat) (h:look H i=some (.arr sh t xs))
   (hh:pl.hdr i=.slice a xs.length cap) (hn:o+n<=xs.length) (hc:n<=jl) (hc':o+jl=cap) (ha:jl=0\/a'=a.map (·.add (o*t.sz))):
   au w H pl (.sub i o n) (.slice a' n jl)
 |bsl (i n:Nat) (cs:List SV) (a:Addr) (h:look H i=some (.box cs)) (hh:pl.hdr i=.pointer (some a)):au w H pl (.bsl i n) (.slice (some a) n n)
 |wQ (i o:Nat) (cs:List SV) (b k:Nat) (h:look H i=some (.box cs)) (hh:pl.hdr i=.pointer (some ⟨b,k,none⟩)):au w H pl (.ptr i 0 o) (.pointer (some ⟨b,k+o,none⟩))
 |vg (i x o:Nat) (sh:Option (List Nat)) (t:Ty) (xs:List t.El) (b k n cap:Nat) (h:look H i=some (.arr sh t xs)) (hx:x<xs.length)
   (hh:pl.hdr i=.slice (some ⟨b,k,none⟩) n cap):au w H pl (.ptr i x o) (.pointer (some ⟨b,k+(x*t.sz+o),none⟩))
 |inn (i x c:Nat) (sh:Option (List Nat)) (t:Ty) (xs:List t.El) (b k n cap:Nat) (v:Value) (h:look H i=some (.arr sh t xs)) (hx:x<xs.length) (hc:c<t.sz)
   (hh:pl.hdr i=.slice (some ⟨b,k,none⟩) n cap) (hok:okd H pl [i] (b,k+(x*t.sz+c))) (hv:w.at? (b,k+(x*t.sz+c))=some v) (h1:one v=true):au w H pl (.inn i x c) v
 |lz (d:List Nat) (cs:List R) (b o:Nat) (vs:Nat->Value) (hc:∀j r,cs[j]? =some r->okd H pl d (b,o+j)/\w.at? (b,o+j)=some (vs j))
   (hr:∀j r,cs[j]? =some r->RepR w (okd H pl d) r (vs j)):au w H pl (.lz d cs) (.pointer (some ⟨b,o,none⟩))
 |agg (cs:List SV) (vs:Array Value) (hl:cs.length=vs.size) (h1:∀(j:Nat) (v:Value),vs[j]? =some v->one v=true) (h:∀(j:Nat) (x:SV) (v:Value),cs[j]? =some x->vs[j]? =some v->au w H pl x v):au w H pl (.agg cs) (.agg vs)
 |tup (cs:List SV) (vs:Array Value) (hl:cs.length=vs.size) (h:∀(j:Nat) (x:SV) (v:Value),cs[j]? =some x->vs[j]? =some v->au w H pl x v):au w H pl (.tup cs) (.tuple vs)
 |fn (f:Fn) (as bs:List SV) (us vs:Array Value) (hl:as.length=us.size) (h:∀(j:Nat) (x:SV) (v:Value),as[j]? =some x->us[j]? =some v->au w H pl x v)
   (hl':bs.length=vs.size) (h':∀(j:Nat) (x:SV) (v:Value),bs[j]? =some x->vs[j]? =some v->au w H pl x v):au w H pl (.fn f as bs) (.func f us vs)
 |undef (v:Value):au w H pl .undef v
def eE (w:World) (H:aP) (pl:Pl) (i:Nat):Blk->Prop
 |.box cs=>∃b o,pl.hdr i=.pointer (some ⟨b,o,none⟩)/\(∀p,pl.fp i p↔reg b o cs.length p)/\
   ∀j v,cs[j]? =some v->∃u,w.at? (b,o+j)=some u/\calm (w.eD (b,o+j))=true/\one u=true/\au w H pl v u
 |.arr none t xs=>Nonempty (Row w (fK w) t xs (pl.hdr i) (pl.fp i))
 |.arr (some d) t xs=>Nonempty (Row w (λr v f=>RepR w (okd H pl d) r v/\∀p,¬f p) t xs (pl.hdr i) (pl.fp i))
structure cN (H:aP) (pl:Pl) (w:World):Prop where
 blk:∀i B,look H i=some B->eE w H pl i B
 dis:∀i j B B' p,look H i=some B->look H j=some B'->pl.fp i p->pl.fp j p->i=j
 ob:∀i B p,look H i=some B->pl.fp i p->pl.base p
 nb:∀p,w.at? p=none->pl.base p
end
section
variable [Tok]
section lists
variable {α:Type}
theorem aH (k:Nat) (v:α) (l:List (Nat× α)) (n:Nat):look ((k,v)::l) n=if k=n then some v else look l n:=by
 simp only[look];cases h:Nat.beq k n
 ·have:¬k=n:=λe=>by subst e;simp at h
  simp[this]
 ·have:k=n:=So h;simp[this]
theorem fc (l:List (Nat× α)) (n m:Nat) (v:α):look (put l n v) m=if n=m then some v else look l m:=by
 induction l with
 |nil=>rw[put,aH]
 |cons x l ih=>
  obtain⟨k,u⟩:=x;simp only[put];cases hk:Nat.beq k n
  ·simp only[cond_false,look,ih];cases hm:Nat.beq k m
   ·simp
   ·have h1:k=m:=So hm;subst h1
    have:¬n=k:=λe=>by subst e;simp at hk
    simp[this]
  ·have h1:k=n:=So hk;subst h1;simp only[cond_true,look];cases hm:Nat.beq k m
   ·have:¬k=m:=λe=>by subst e;simp at hm
    simp[this]
   ·have:k=m:=So hm;simp[this]
theorem aM (l l':List (Nat× α)) (n:Nat):look (l++l') n=(look l n).or (look l' n):=by
 induction l with
 |nil=>simp[look]
 |cons x l ih=>
  obtain⟨k,u⟩:=x;simp only[Ym,look];cases Nat.beq k n<;>simp[ih]
theorem mem_iff (i:Nat) (l:List Nat):mem i l=true↔i∈l:=by
 induction l with
 |nil=>simp[mem]
 |cons k l ih=>
  simp only[mem];cases h:Nat.beq k i
  ·have:¬i=k:=λe=>by subst e;simp at h
   simp[ih,this]
  ·have:k=i:=So h;simp[this]
theorem fM (T d:List Nat) (h:hit T d=false):∀i,mem i d=true->mem i T=false:=by
 induction d with
 |nil=>intro i hi;simp[mem]at hi
 |cons k l ih=>
  simp only[hit]at h;cases hk:mem k T
  ·rw[hk]at h;intro i hi;rw[mem_iff]at hi
   rcases Xm.1 hi with rfl|hi
   ·exact hk
   ·exact ih h i ((mem_iff i l).2 hi)
  ·rw[hk]at h;simp at h
theorem bh (n:Nat) (l:List Blk) (i:Nat):look (aQ n l) i=if n<=i then l[i-n]? else none:=by
 induction l generalizing n with
 |nil=>simp[aQ,look]
 |cons b l ih=>
  rw[aQ,aH,ih];by_cases h:n=i
  ·subst h;simp
  ·by_cases h2:n<=i
   ·rw[if_neg h,if_pos (by omega),if_pos h2];rw[show i-n=(i-(n+1))+1 from by omega];rfl
   ·rw[if_neg h,if_neg (by omega),if_neg h2]
theorem Gw (u h:aP) (i:Nat):look (ua u h) i=match look u.reverse i with|some b=>some b|none=>look h i:=by
 induction u generalizing h with
 |nil=>simp[ua,look]
 |cons x l ih=>
  obtain⟨k,b⟩:=x;rw[ua,ih,List.reverse_cons,aM,fc,aH]
  cases look l.reverse i with
  |some c=>simp
  |none=>by_cases hk:k=i<;>simp[hk,look]
theorem IU (T:Kil) (s:List (Nat× SV)) (t:Nat):look (Kh T s) t=(look s t).map (SV.aT T):=by
 induction s with
 |nil=>rfl
 |cons x l ih=>
  obtain⟨k,v⟩:=x;rw[Kh,aH,aH,ih];by_cases h:k=t<;>simp[h]
theorem Au (T:Kil) (h h':aP) (e:Al T h=some h') (i:Nat):
  look h' i=cond (mem i T.1) none ((look h i).bind (Blk.aT T))/\(∀b,look h i=some b->mem i T.1=false->∃b',b.aT T=some b'):=by
 induction h generalizing h' with
 |nil=>simp only[Al,It]at e;subst e;simp[look]
 |cons x l ih=>
  obtain⟨k,b⟩:=x;simp only[Al]at e;cases hk:mem k T.1
  ·simp only[hk,cond_false,An,It]at e;obtain⟨b',hb,l',hl,rfl⟩:=e;rw[aH,aH];by_cases hi:k=i
   ·subst hi;simp[hk,hb]
   ·simpa[hi]using ih l' hl
  ·simp only[hk,cond_true]at e;have:=ih h' e;rw[aH];by_cases hi:k=i
   ·subst hi;simp[hk]at this⊢;exact this
   ·simpa[hi]using this
theorem eO {α:Type} {l:List α} (h:isNil l=true):l=[]:=by cases l with|nil=>rfl|cons _ _=>exact nomatch h
theorem IV {T:Kil} (h:T.2=[]) (h1:∀i,mem i T.1=true->mem i T.2=true):T=([],[]):=by
 obtain⟨a,b⟩:=T;simp only at h h1;subst h
 cases a with
 |nil=>rfl
 |cons x l=>have:=h1 x (by simp[mem]);exact nomatch this
theorem Av (i:Nat) (a b:List Nat):mem i (a++b)=(mem i a||mem i b):=by
 induction a with
 |nil=>simp[mem]
 |cons x l ih=>simp only[Ym,mem,ih];cases Nat.beq x i<;>simp
theorem CR.gj (c:CR):∀i,mem i c.kil.1=true->mem i c.kil.2=true:=λi h=>by
 show mem i (c.gone++c.mB)=true;rw[Av,show mem i c.gone=true from h];rfl
theorem o7 (T:Kil) (l:List SV) (j:Nat):(iS T l)[j]? =(l[j]?).map (SV.aT T):=by
 induction l generalizing j with
 |nil=>rfl
 |cons v l ih=>cases j with
  |zero=>rfl
  |succ j=>simpa[iS]using ih j
theorem gI (T:Kil) (l:List SV):(iS T l).length=l.length:=by
 induction l with
 |nil=>rfl
 |cons v l ih=>simp[iS,ih]
end lists
def Blk.nv:Blk->Blk->Prop
 |.box a,.box b=>a.length=b.length
 |.arr _ t xs,.arr _ t' ys=>t.sz=t'.sz/\xs.length=ys.length
 |_,_=>False
theorem Blk.du (b:Blk):b.nv b:=by cases b<;>simp[Blk.nv]
structure lM (T:Kil) (w:World) (H:aP) (pl:Pl) (w':World) (H':aP) (pl':Pl):Prop where
 k1:∀i B,look H i=some B->mem i T.1=false->∃B',look H' i=some B'/\B.nv B'/\pl'.hdr i=pl.hdr i
 k2:∀d p u,(∀i,mem i d=true->mem i T.2=false)->okd H pl d p->w.at? p=some u->okd H' pl' d p/\w'.at? p=some u
theorem au.cr {T:Kil} {w w':World} {H H':aP} {pl pl':Pl} (hk:lM T w H pl w' H' pl') {v:SV} {u:Value} (h:au w H pl v u):
  au w' H' pl' (v.aT T) u:=by
 induction h with
 |r d x v h=>
  simp only[SV.aT];cases hd:hit T.2 d
  ·exact .r d x v (h.frame λp u hp hu=>hk.k2 d p u (fM T.2 d hd) hp hu)
  ·exact .undef _
 |dt=>exact .dt
 |rq=>exact .rq
 |own i sh t xs h=>
  simp only[SV.aT];cases hi:mem i T.1
  ·obtain⟨B',h1,h2,h3⟩:=hk.k1 i _ h hi
   cases B' with
   |box cs=>exact h2.elim
   |arr sh' t' ys=>rw[<-h3];exact .own i sh' t' ys h1
  ·exact .undef _
 |sub i o n sh t xs a a' cap jl h hh hn hc hc' ha=>
  simp only[SV.aT];cases hi:mem i T.1
  ·obtain⟨B',h1,h2,h3⟩:=hk.k1 i _ h hi
   cases B' with
   |box cs=>exact h2.elim
   |arr sh' t' ys=>
    obtain⟨hz,hl⟩:=h2;exact .sub i o n sh' t' ys a a' cap jl h1 (by rw[h3,hh,hl]) (hl▸hn) hc hc' (by rw[<-hz];exact ha)
  ·exact .undef _
 |bsl i n cs a h hh=>
  simp only[SV.aT];cases hi:mem i T.1
  ·obtain⟨B',h1,h2,h3⟩:=hk.k1 i _ h hi
   cases B' with
   |arr _ _ _=>exact h2.elim
   |box ds=>
    exact .bsl i n ds a h1 (h3.trans hh)
  ·exact .undef _
 |wQ i o cs b k h hh=>
  simp only[SV.aT];cases hi:mem i T.1
  ·obtain⟨B',h1,h2,h3⟩:=hk.k1 i _ h hi
   cases B' with
   |arr _ _ _=>exact h2.elim
   |box ds=>exact .wQ i o ds b k h1 (h3.trans hh)
  ·exact .undef _
 |vg i x o sh t xs b k n cap h hx hh=>
  simp only[SV.aT];cases hi:mem i T.1
  ·obtain⟨B',h1,h2,h3⟩:=hk.k1 i _ h hi
   cases B' with
   |box cs=>exact h2.elim
   |arr sh' t' ys=>
    obtain⟨hz,hl⟩:=h2;rw[hz];exact .vg i x o sh' t' ys b k n cap h1 (hl▸hx) (h3.trans hh)
  ·exact .undef _
 |inn i x c sh t xs b k n cap v h hx hc hh hok hv h1=>
  simp only[SV.aT];cases hi:(mem i T.1||mem i T.2)
  ·rw[Bool.or_eq_false_iff]at hi;obtain⟨B',g1,g2,g3⟩:=hk.k1 i _ h hi.1
   have g4:=hk.k2 [i] _ v (λj hj=>by
    simp only[mem]at hj;cases hb:Nat.beq i j<;>simp only[hb,cond_true,cond_false]at hj
    ·exact nomatch hj
    ·rw[<-So hb];exact hi.2) hok hv
   cases B' with
   |box cs=>exact g2.elim
   |arr sh' t' ys=>
    obtain⟨hz,hl⟩:=g2;rw[hz]at g4 hc;exact .inn i x c sh' t' ys b k n cap v g1 (hl▸hx) hc (g3.trans hh) g4.1 g4.2 h1
  ·exact .undef _
 |lz d cs b o vs hc hr=>
  simp only[SV.aT];cases hd:hit T.2 d
  ·exact .lz d cs b o vs (λj r hj=>hk.k2 d _ _ (fM T.2 d hd) (hc j r hj).1 (hc j r hj).2)
    λj r hj=>(hr j r hj).frame λp u hp hu=>hk.k2 d p u (fM T.2 d hd) hp hu
  ·exact .undef _
 |agg cs vs hl h1 h ih=>
  refine .agg _ vs (by rw[gI,hl]) h1 λj x v hx hv=>?_;rw[o7]at hx;obtain⟨y,hy,rfl⟩:=Xb.1 hx
  exact ih j y v hy hv
 |tup cs vs hl h ih=>
  refine .tup _ vs (by rw[gI,hl]) λj x v hx hv=>?_;rw[o7]at hx;obtain⟨y,hy,rfl⟩:=Xb.1 hx
  exact ih j y v hy hv
 |fn f as bs us vs hl h hl' h' ih ih'=>
  refine .fn f _ _ us vs (by rw[gI,hl]) (λj x v hx hv=>?_) (by rw[gI,hl']) λj x v hx hv=>?_
  ·rw[o7]at hx;obtain⟨y,hy,rfl⟩:=Xb.1 hx;exact ih j y v hy hv
  ·rw[o7]at hx;obtain⟨y,hy,rfl⟩:=Xb.1 hx
   exact ih' j y v hy hv
 |undef v=>exact .undef _
theorem Ep (d:List Nat):hit [] d=false:=by
 induction d with
 |nil=>rfl
 |cons k l ih=>simpa[hit,mem]using ih
mutual
theorem dv:(v:SV)->v.aT ([],[])=v
 |.r d x=>by simp[SV.aT,Ep]
 |.own j=>by simp[SV.aT,mem]
 |.sub j o n=>by simp[SV.aT,mem]
 |.bsl j n=>by simp[SV.aT,mem]
 |.ptr j x o=>by simp[SV.aT,mem]
 |.inn j x c=>by simp[SV.aT,mem]
 |.lz d cs=>by simp[SV.aT,Ep]
 |.agg cs=>by simp[SV.aT,jX cs]
 |.tup cs=>by simp[SV.aT,jX cs]
 |.fn f a b=>by simp[SV.aT,jX a,jX b]
 |.dt=>by simp[SV.aT]
 |.rq=>by simp[SV.aT]
 |.undef=>by simp[SV.aT]
theorem jX:(l:List SV)->iS ([],[]) l=l
 |[]=>rfl
 |v::l=>by simp[iS,dv v,jX l]
end
theorem au.zq {w w':World} {H H':aP} {pl pl':Pl} (hk:lM ([],[]) w H pl w' H' pl') {v:SV} {u:Value} (h:au w H pl v u):
  au w' H' pl' v u:=by have:=h.cr hk;rwa [dv]at this
end
section
variable [Tok]
section
variable {w:World} {H:aP} {pl:Pl}
theorem RepR.scalar {ok:Cell->Prop} {x:R} {v:Value} (h:RepR w ok x v) (ok':Cell->Prop) (hs:∀t xs,x≠.sl t xs):RepR w ok' x v:=by
 cases h with
 |int=>exact .int _ _
 |bool=>exact .bool _
 |str=>exact .str _
 |tok=>exact .tok _
 |nt v h=>exact .nt v h
 |sl t xs=>exact(hs t xs rfl).elim
theorem Aw {d:List Nat} {x:R} {v:Value} (h:RepR w (okd H pl d) x v):au w H pl (mkR d x) v:=by
 cases x with
 |sl t xs=>exact .r _ _ _ h
 |_=>exact .r _ _ _ (h.scalar _ (λ_ _ e=>nomatch e))
theorem RepR.tT {ok:Cell->Prop} {x:R} {v:Value} (h:RepR w ok x v):one v=true:=by cases h<;>first|rfl|exact Tok.Nx _|assumption
def gJ (w:World) (H:aP) (pl:Pl) (s:List (Nat× SV)) (a:Act):Prop:=∀t v,look s t=some v->au w H pl v (a.tmps.getD t undef)
theorem Ax {v:Value} {x:SV} (h:wL v=some x):au w H pl x v:=by
 unfold wL at h
 split at h<;>first|(cases h)|skip
 ·exact .r _ _ _ (.bool _)
 ·exact .r _ _ _ (.int _ _)
 ·exact .r _ _ _ (.str _)
 ·exact .dt
 ·exact .rq
theorem C3:∀{vs:List Value} {l:List SV},CX vs=some l->l.length=vs.length/\∀(j:Nat) (x:SV) (v:Value),l[j]? =some x->vs[j]? =some v->au w H pl x v
 |[],l,h=>by cases h;exact⟨rfl,λj x v hx _=>by simp at hx⟩
 |v::vs,l,h=>by
  simp only[CX,An,It]at h;obtain⟨x,hx,xs,hxs,rfl⟩:=h;obtain⟨h1,h2⟩:=C3 hxs;refine⟨by simp[h1],λj y u hy hu=>?_⟩
  cases j with
  |zero=>simp at hy hu;subst hy hu;exact Ax hx
  |succ j=>exact h2 j y u (by simpa using hy) (by simpa using hu)
theorem IW {v:Value} {x:SV} (h:wL v=some x):one v=true:=by
 unfold wL at h
 split at h<;>first|rfl|(cases h)
theorem C4:∀{vs:List Value} {l:List SV},CX vs=some l->∀(j:Nat) (v:Value),vs[j]? =some v->one v=true
 |[],l,_,j,v,hv=>by simp at hv
 |u::vs,l,h,j,v,hv=>by
  simp only[CX,An,It]at h;obtain⟨x,hx,xs,hxs,rfl⟩:=h
  cases j with
  |zero=>simp at hv;subst hv;exact IW hx
  |succ j=>exact C4 hxs j v (by simpa using hv)
theorem wR {v:Value} {x:SV} (h:Ki v=some x):au w H pl x v:=by
 unfold Ki at h;split at h
 ·simp only[An,It]at h;obtain⟨l,hl,rfl⟩:=h;obtain⟨h1,h2⟩:=C3 (w:=w) (H:=H) (pl:=pl) hl;refine .agg _ _ (by simpa using h1) (λj v hv=>?_) λj x v hx hv=>h2 j x v hx (by simpa using hv);exact C4 hl j v (by simpa using hv)
 ·exact Ax h
theorem aW {s:List (Nat× SV)} {a:Act} (hs:gJ w H pl s a) {o:Operand} {x:SV} (h:opd s o=some x):au w H pl x (a.eval o):=by
 cases o with
 |tmp t=>exact hs t x h
 |const v=>exact wR h
 |func f=>
  simp only[opd,It]at h;subst h
  exact .fn _ _ _ _ _ rfl (λj x v hx _=>by simp at hx) rfl (λj x v hx _=>by simp at hx)
 |global g=>exact nomatch h
theorem eo {P:Program} {T:TypeId} {i:TypeInfo} (h:P.info? T=some i) (w:World):(sizeOf T).run P w=.ok i.size w:=by
 simp[sizeOf,typeInfo,h]
theorem cQ {P:Program} {T:TypeId} {d:TypeDesc} (h:P.underlying T=some d) (w:World):(underlying T).run P w=.ok d w:=by
 simp[underlying,h]
theorem mi {P:Program} {T:TypeId} {d:TypeDesc} (h:P.underlying T=some d) (w:World):(isAgg T).run P w=.ok (Am P T) w:=by
 simp only[isAgg,Sem.run_bind,cQ h,Result.andThen_ok,Am,h];cases d<;>rfl
theorem Ay (hr:cN H pl w) {p:SV} {u:Value} (hp:au w H pl p u) {cs:List SV} (h:mA H p=some cs):
  ∃b o,u=.pointer (some ⟨b,o,none⟩)/\∀(j:Nat) (x:SV),cs[j]? =some x->∃y,w.at? (b,o+j)=some y/\one y=true/\au w H pl x y:=by
 cases hp with
 |lz d cs' b o vs hc hr'=>
  simp only[mA,It]at h;subst h;refine⟨b,o,rfl,λj x hx=>?_⟩;rw[XL]at hx;obtain⟨r,hj,rfl⟩:=Xb.1 hx
  exact⟨vs j,(hc j r hj).2,(hr' j r hj).tT,Aw (hr' j r hj)⟩
 |wQ i o cs' b k hl hh=>
  simp only[mA,hl,It]at h;subst h;obtain⟨b',o',e,_,hc⟩:=hr.blk i _ hl;rw[hh]at e;cases e;refine⟨b,k+o,rfl,λj x hx=>?_⟩;rw[Xl]at hx;obtain⟨y,h1,_,h3,h4⟩:=hc _ _ hx
  exact⟨y,by rw[XX];exact h1,h3,h4⟩
 |vg i x o sh t xs b k n cap hl hx hh=>
  simp only[mA,hl,An,It]at h;obtain⟨e,he,rfl⟩:=h;have hb:=hr.blk i _ hl;refine⟨b,k+(x*t.sz+o),rfl,λj y hy=>?_⟩;rw[Xl,XL]at hy;obtain⟨r,hj,rfl⟩:=Xb.1 hy;have hcell:aG t xs x (o+j) r:=⟨e,he,hj⟩
  cases sh with
  |none=>
   obtain⟨R⟩:=hb;obtain⟨a',jl,b',o',vs,fs,h1,h2,h3,h4,h5,h6,h7,h8,h9⟩:=R;rw[hh]at h1;cases h1
   have hne:cap≠0:=by omega
   have h3:=h3.resolve_left hne;cases h3;refine⟨vs x (o+j),by rw[show k+(x*t.sz+o)+j=k+(x*t.sz+(o+j))from by omega];exact h5 _ _ _ hcell,?_,?_⟩
   ·exact((h6 _ _ _ hcell).Nz (ok:=λ_=>True) (λ_ _=>trivial)).tT
   ·refine Aw ((h6 _ _ _ hcell).Nz λp hp=>⟨hr.ob i _ p hl ((h9 p).2 (.inr ⟨_,_,_,hcell,hp⟩)),λi' B hB hm hf=>?_⟩);have hp':pl.fp i p:=(h9 p).2 (.inr ⟨_,_,_,hcell,hp⟩);have:=hr.dis i' i _ _ p hB hl hf hp';subst this;have hbx:=hm (by simp[Nj,mem]);rw[hl]at hB;cases hB
    simp[Blk.lB]at hbx
  |some d=>
   obtain⟨R⟩:=hb;obtain⟨a',jl,b',o',vs,fs,h1,h2,h3,h4,h5,h6,h7,h8,h9⟩:=R;rw[hh]at h1;cases h1
   have hne:cap≠0:=by omega
   have h3:=h3.resolve_left hne;cases h3
   exact⟨vs x (o+j),by rw[show k+(x*t.sz+o)+j=k+(x*t.sz+(o+j))from by omega];exact h5 _ _ _ hcell,(h6 _ _ _ hcell).1.tT,Aw (h6 _ _ _ hcell).1⟩
 |_=>exact nomatch h
theorem C5 {α:Type} {n:Nat} {l m:List α} (h:takeN n l=some m):m.length=n/\∀j,j<n->m[j]? =l[j]? :=by
 unfold takeN at h;cases hn:Nat.ble n l.length
 ·simp[hn]at h
 ·simp only[hn,cond_true,It]at h;subst h;have:=Xk hn;exact⟨by simp[this],λj hj=>by simp[hj]⟩
theorem Er {P:Program} {T:TypeId} {cs:List SV} {v:SV} (h:jj P T cs=some v) (b o:Nat)
  (hc:∀(j:Nat) (x:SV),cs[j]? =some x->∃y,w.at? (b,o+j)=some y/\one y=true/\au w H pl x y):
  ∃u,(loadVar T ⟨b,o,none⟩).run P w=.ok u w/\au w H pl v u:=by
 simp only[jj,An]at h;obtain⟨d,hd,i,hi,l,hl,h⟩:=h;obtain⟨h1,h2⟩:=C5 hl
 have hy:∀j,j<i.size->∃y x,l[j]? =some x/\w.at? (b,o+j)=some y/\au w H pl x y:=λj hj=>by
  have hx:l[j]? =some (l[j]'(by omega)):=On (by omega);obtain⟨y,h3,_,h5⟩:=hc j _ ((h2 j hj)▸hx);exact⟨y,_,hx,h3,h5⟩
 cases ha:Am P T
 ·simp only[ha,cond_false]at h
  match l,h1,hl,h,hy,h2 with
  |[x],h1,hl,h,hy,h2=>
   simp only[It]at h;subst h;have h1:i.size=1:=h1.symm;obtain⟨y,x',h3,h4,h5⟩:=hy 0 (by omega);simp at h3;subst h3;refine⟨y,?_,h5⟩;have h4:w.cell? ⟨b,o,none⟩=some y:=h4;simp[loadVar,mi hd,ha,h4]
 ·simp only[ha,cond_true,It]at h;subst h
  let f:Nat->Value:=λj=>(w.at? (b,o+j)).getD undef
  have hf:∀j,j<i.size->w.cell? (Addr.add ⟨b,o,none⟩ j)=some (f j):=λj hj=>by
   obtain⟨y,x,_,h4,_⟩:=hy j hj
   have e:Addr.add ⟨b,o,none⟩ j=⟨b,o+j,none⟩:=by
    unfold Addr.add;split
    ·rename_i h0;subst h0;rfl
    ·rfl
   rw[e];show w.at? (b,o+j)=some (f j);simp only[f,h4];rfl
  have C6:∀j,j<i.size->one (f j)=true:=λj hj=>by
   have hx:l[j]? =some (l[j]'(by omega)):=On (by omega);obtain⟨y,h3,h4,_⟩:=hc j _ ((h2 j hj)▸hx);simp only[f,h3];exact h4
  refine⟨.agg ((List.range i.size).map f).toArray,?_,?_⟩
  ·simp[loadVar,mi hd,ha,eo hi,run_loadCells (P:=P) w ⟨b,o,none⟩ i.size f hf]
  ·refine .agg _ _ (by simp[h1]) (λj v hv=>by
    by_cases hj:j<i.size
    ·have:v=f j:=by simp[hj]at hv;exact hv.symm
     rw[this];exact C6 j hj
    ·simp[hj]at hv) λj x v hx hv=>?_
   have hj:j<i.size:=by have:=(Of.1 hx).1;omega
   obtain⟨y,x',h3,h4,h5⟩:=hy j hj;rw[h3]at hx;cases hx
   have:v=f j:=by simp[hj]at hv;exact hv.symm
   subst this;simp only[f,h4];exact h5
end
end
end Go.Proofs.Ev
