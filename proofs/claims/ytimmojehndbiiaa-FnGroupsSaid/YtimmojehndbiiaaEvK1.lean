/- The evaluator over the model's code, and that it is sound: part 1. -/
import Derived.Calls
import Derived.Laws.IdiomCopy
import Derived.Laws.Cells
import Derived.Laws.Sem
set_option linter.unusedVariables false
set_option linter.unusedSimpArgs false
set_option linter.unusedSectionVars false
namespace Go.Proofs.Ev
theorem An:type_of% @Option.bind_eq_some_iff:=@Option.bind_eq_some_iff
theorem Fu:type_of% @Option.some.injEq:=@Option.some.injEq
theorem Fv:type_of% @List.getElem?_eq_some_iff:=@List.getElem?_eq_some_iff
theorem Fw:type_of% @List.getElem?_eq_getElem:=@List.getElem?_eq_getElem
theorem Fx:type_of% @Nat.eq_of_beq_eq_true:=@Nat.eq_of_beq_eq_true
theorem Fy:type_of% @Bool.and_eq_true:=@Bool.and_eq_true
theorem Fz:type_of% @List.getElem?_append_right:=@List.getElem?_append_right
theorem FA:type_of% @Option.map_eq_some_iff:=@Option.map_eq_some_iff
theorem FB:type_of% @List.getElem?_append_left:=@List.getElem?_append_left
theorem FC:type_of% @Nat.zero_add:=@Nat.zero_add
theorem FD:type_of% @List.length_append:=@List.length_append
theorem FE:type_of% @List.append_assoc:=@List.append_assoc
theorem FF:type_of% @Array.getElem?_eq_getElem:=@Array.getElem?_eq_getElem
theorem FG:type_of% @List.mem_of_getElem?:=@List.mem_of_getElem?
theorem FH:type_of% @Nat.le_of_ble_eq_true:=@Nat.le_of_ble_eq_true
theorem FI:type_of% @Prod.mk.injEq:=@Prod.mk.injEq
theorem FJ:type_of% @Array.getElem?_eq_some_iff:=@Array.getElem?_eq_some_iff
theorem FK:type_of% @List.length_eq_zero_iff:=@List.length_eq_zero_iff
theorem FL:type_of% @Array.getD_eq_getD_getElem?:=@Array.getD_eq_getD_getElem?
theorem FM:type_of% @List.mem_cons:=@List.mem_cons
theorem FN:type_of% @Option.bind_some:=@Option.bind_some
theorem FO:type_of% @List.getElem?_drop:=@List.getElem?_drop
theorem FQ:type_of% @Nat.le_refl:=@Nat.le_refl
theorem FR:type_of% @List.append_nil:=@List.append_nil
theorem FT:type_of% @List.length_take:=@List.length_take
theorem FU:type_of% @List.take_append_drop:=@List.take_append_drop
theorem FV:type_of% @Nat.add_sub_cancel_left:=@Nat.add_sub_cancel_left
theorem FW:type_of% @List.mem_singleton:=@List.mem_singleton
theorem FX:type_of% @Option.bind_assoc:=@Option.bind_assoc
theorem FY:type_of% @List.getElem?_take:=@List.getElem?_take
theorem FZ:type_of% @List.mem_cons_of_mem:=@List.mem_cons_of_mem
theorem F0:type_of% @List.getElem_mem:=@List.getElem_mem
theorem F1:type_of% @Nat.add_zero:=@Nat.add_zero
theorem F2:type_of% @Nat.zero_le:=@Nat.zero_le
theorem F3:type_of% @List.getElem?_map:=@List.getElem?_map
theorem F4:type_of% @List.length_cons:=@List.length_cons
theorem F5:type_of% @List.mem_cons_self:=@List.mem_cons_self
theorem F6:type_of% @Nat.mul_le_mul_right:=@Nat.mul_le_mul_right
theorem F7:type_of% @List.mem_append:=@List.mem_append
theorem F8:type_of% @Nat.mul_comm:=@Nat.mul_comm
theorem F9:type_of% @List.map_cons:=@List.map_cons
theorem Ga:type_of% @List.length_map:=@List.length_map
theorem Gb:type_of% @List.map_append:=@List.map_append
theorem Gc:type_of% @List.getElem?_of_mem:=@List.getElem?_of_mem
theorem Gd:type_of% @Nat.sub_zero:=@Nat.sub_zero
theorem Ge:type_of% @Option.bind_none:=@Option.bind_none
theorem Gf:type_of% @Nat.add_mul:=@Nat.add_mul
theorem Gg:type_of% @List.mem_append_left:=@List.mem_append_left
theorem Gh:type_of% @Option.or_none:=@Option.or_none
theorem Gi:type_of% @Array.getElem?_toList:=@Array.getElem?_toList
theorem Gj:type_of% @List.getElem?_eq_none:=@List.getElem?_eq_none
theorem Gk:type_of% @Int.toNat_natCast:=@Int.toNat_natCast
theorem Gl:type_of% @List.getD_eq_getElem?_getD:=@List.getD_eq_getElem?_getD
theorem Gm:type_of% @Nat.add_assoc:=@Nat.add_assoc
theorem Gn:type_of% @Option.some.inj:=@Option.some.inj
theorem Gp:type_of% @List.cons.injEq:=@List.cons.injEq
theorem Gq:type_of% @Option.getD_some:=@Option.getD_some
theorem Gr:type_of% @List.take_length:=@List.take_length
theorem Gs:type_of% @List.getElem_of_mem:=@List.getElem_of_mem
theorem Gt:type_of% @Nat.ble_eq_true_of_le:=@Nat.ble_eq_true_of_le
theorem Gu:type_of% @List.mem_append_right:=@List.mem_append_right
theorem Gv:type_of% @Bool.false_eq_true:=@Bool.false_eq_true
theorem Gw:type_of% @Nat.mod_eq_of_lt:=@Nat.mod_eq_of_lt
theorem Gx:type_of% @Array.getElem?_append_left:=@Array.getElem?_append_left
theorem Gy:type_of% @Nat.mul_add_mod:=@Nat.mul_add_mod
theorem Gz:type_of% @List.drop_eq_getElem_cons:=@List.drop_eq_getElem_cons
theorem GA:type_of% @List.cons_append:=@List.cons_append
theorem GC:type_of% @List.pairwise_cons:=@List.pairwise_cons
theorem GD:type_of% @Nat.succ_mul:=@Nat.succ_mul
theorem GF:type_of% @Bool.not_true:=@Bool.not_true
theorem GG:type_of% @List.pairwise_append:=@List.pairwise_append
theorem GH:type_of% @Bool.not_eq_true':=@Bool.not_eq_true'
theorem GI:type_of% @Array.ext':=@Array.ext'
theorem GJ:type_of% @List.nodup_cons:=@List.nodup_cons
theorem GK:type_of% @Bool.or_true:=@Bool.or_true
theorem GL:type_of% @List.map_nil:=@List.map_nil
theorem GM:type_of% @List.drop_length:=@List.drop_length
theorem GN:type_of% @List.length_replicate:=@List.length_replicate
theorem GO:type_of% @Option.map_some:=@Option.map_some
theorem GP:type_of% @List.map_set:=@List.map_set
theorem GQ:type_of% @List.length_drop:=@List.length_drop
theorem GR:type_of% @Nat.div_eq_of_lt:=@Nat.div_eq_of_lt
theorem GS:type_of% @List.length_nil:=@List.length_nil
theorem GU:type_of% @Nat.mul_add_div:=@Nat.mul_add_div
theorem GV:type_of% @List.length_set:=@List.length_set
theorem GW:type_of% @Bool.or_eq_true:=@Bool.or_eq_true
theorem GX:type_of% @List.length_zip:=@List.length_zip
theorem GY:type_of% @Nat.div_lt_iff_lt_mul:=@Nat.div_lt_iff_lt_mul
theorem GZ:type_of% @List.perm_append_comm:=@List.perm_append_comm
theorem G2:type_of% @Bool.and_eq_true_iff:=@Bool.and_eq_true_iff
theorem G3:type_of% @Nat.le_trans:=@Nat.le_trans
theorem G4:type_of% @List.getElem_zip:=@List.getElem_zip
theorem G6:type_of% @List.nil_append:=@List.nil_append
theorem G7:type_of% @List.sum_append:=@List.sum_append
theorem G8:type_of% @Option.isSome_none:=@Option.isSome_none
theorem G9:type_of% @Nat.add_sub_cancel:=@Nat.add_sub_cancel
theorem Ha:type_of% @Int.le_refl:=@Int.le_refl
theorem Hd:type_of% @List.mem_map:=@List.mem_map
theorem Hu:type_of% @Iff.rfl:=@Iff.rfl
theorem Hx:type_of% @Nat.mod_lt:=@Nat.mod_lt
section
structure Shape where
 h:Int
 w:Int
 c:Int
 deriving DecidableEq
structure fy where
 sh:Shape
 data:List Int
 deriving DecidableEq
structure pt where
 kind:Int
 out:Int
 size:Int
 step:Int
 mult:Int
 shift:Int
 zero:Int
 weights:List Int
 EL:List Int
 deriving DecidableEq
structure Model where
 inp:Shape
 om:List pt
 deriving DecidableEq
structure Job where
 model:Model
 at_:Int
 act:fy
 zW:Int
 deriving DecidableEq
structure Task where
 id:Int
 zX:List Int
 at_:Int
 due:Int
 born:Int
 deriving DecidableEq
structure zY where
 now:Int
 D5:Int
 age:Int
 tasks:List Task
 run:Int
 left:Int
 turns:Int
 next:Int
 deriving DecidableEq
structure Request where
 id:Int
 model:Int
 job:Job
 due:Int
 deriving DecidableEq
structure Runtime where
 sched:zY
 CO:List Model
 CP:List Bool
 zZ:List Request
 deriving DecidableEq
structure Step where
 kind:Int
 a:Int
 b:Int
 data:List Int
 input:fy
 deriving DecidableEq
structure Event where
 kind:Int
 a:Int
 b:Int
 out:fy
 deriving DecidableEq
structure Entry where
 id:Int
 model:Model
 input:fy
 at_:Int
 due:Int
 end_:Int
 done:Bool
 deriving DecidableEq
structure Wish where
 id:Int
 model:Int
 due:Int
 deriving DecidableEq
structure wT where
 id:Int
 zX:Nat
 at_:Int
 due:Int
 born:Int
 deriving DecidableEq
structure ku where
 id:Int
 model:Int
 mh:Int
 mw:Int
 mc:Int
 om:Nat
 jat:Int
 ah:Int
 aw:Int
 ac:Int
 data:Nat
 zW:Int
 due:Int
 deriving DecidableEq
inductive S where
 |shape|iN|iO|model|task|request|step|event|entry|wish|mH|ea
 deriving DecidableEq
inductive Ty where
 |int (k:IntKind)|bool|str|sl (t:Ty)|st (s:S)|tok
 |ho (s:S)|hl (t:Ty)
 deriving DecidableEq
def S.E:S->Type
 |.shape=>Shape|.iN=>fy|.iO=>pt|.model=>Model|.task=>Task|.request=>Request
 |.step=>Step|.event=>Event|.entry=>Entry|.wish=>Wish|.mH=>wT|.ea=>ku
def Ty.El:Ty->Type
 |.int _=>Int
 |.bool=>Bool
 |.str=>List UInt8
 |.sl t=>List t.El
 |.st s=>s.E
 |.tok=>Nat
 |.ho s=>Option s.E
 |.hl t=>Option (List t.El)
inductive R where
 |int (k:IntKind) (n:Int)
 |bool (b:Bool)
 |str (l:List UInt8)
 |sl (t:Ty) (xs:List t.El)
 |tok (n:Nat)
 |gV
abbrev R.i (n:Int):R:=.int .i64 n
abbrev R.ints (xs:List Int):R:=.sl (.int .i64) xs
abbrev R.bytes (xs:List Int):R:=.sl (.int .u8) xs
def wU (x:Shape):List R:=[.i x.h,.i x.w,.i x.c]
def wV (x:fy):List R:=[.i x.sh.h,.i x.sh.w,.i x.sh.c,.ints x.data]
def A9 (x:pt):List R:=[.i x.kind,.i x.out,.i x.size,.i x.step,.i x.mult,.i x.shift,.i x.zero,.ints x.weights,.ints x.EL]
def Ba (x:Model):List R:=[.i x.inp.h,.i x.inp.w,.i x.inp.c,.sl (.st .iO) x.om]
def CQ (x:Task):List R:=[.i x.id,.ints x.zX,.i x.at_,.i x.due,.i x.born]
def ur (x:Request):List R:=[.i x.id,.i x.model,.i x.job.model.inp.h,.i x.job.model.inp.w,.i x.job.model.inp.c,.sl (.st .iO) x.job.model.om,.i x.job.at_,.i x.job.act.sh.h,.i x.job.act.sh.w,.i x.job.act.sh.c,.ints x.job.act.data,.i x.job.zW,.i x.due]
def CS (x:Step):List R:=[.i x.kind,.i x.a,.i x.b,.bytes x.data,.i x.input.sh.h,.i x.input.sh.w,.i x.input.sh.c,.ints x.input.data]
def Bb (x:Event):List R:=[.i x.kind,.i x.a,.i x.b,.i x.out.sh.h,.i x.out.sh.w,.i x.out.sh.c,.ints x.out.data]
def Bc (x:Entry):List R:=[.i x.id,.i x.model.inp.h,.i x.model.inp.w,.i x.model.inp.c,.sl (.st .iO) x.model.om,.i x.input.sh.h,.i x.input.sh.w,.i x.input.sh.c,.ints x.input.data,.i x.at_,.i x.due,.i x.end_,.bool x.done]
def BB (x:Wish):List R:=[.i x.id,.i x.model,.i x.due]
def wW (x:wT):List R:=[.i x.id,.tok x.zX,.i x.at_,.i x.due,.i x.born]
def mI (x:ku):List R:=[.i x.id,.i x.model,.i x.mh,.i x.mw,.i x.mc,.tok x.om,.i x.jat,.i x.ah,.i x.aw,.i x.ac,.tok x.data,.i x.zW,.i x.due]
def S.sz:S->Nat
 |.shape=>3|.iN=>4|.iO=>9|.model=>4|.task=>5|.request=>13|.step=>8|.event=>7|.entry=>13|.wish=>3|.mH=>5|.ea=>13
def S.cells:(s:S)->s.E->List R
 |.shape=>wU|.iN=>wV|.iO=>A9|.model=>Ba|.task=>CQ|.request=>ur
 |.step=>CS|.event=>Bb|.entry=>Bc|.wish=>BB|.mH=>wW|.ea=>mI
def Ty.sz:Ty->Nat
 |.st s=>s.sz
 |.ho s=>s.sz
 |_=>1
def Ty.cells:(t:Ty)->t.El->List R
 |.int k,n=>[.int k n]
 |.bool,b=>[.bool b]
 |.str,l=>[.str l]
 |.sl t,xs=>[.sl t xs]
 |.st s,x=>s.cells x
 |.tok,n=>[.tok n]
 |.ho s,x=>match x with
  |some x=>s.cells x
  |none=>List.replicate s.sz .gV
 |.hl t,x=>match x with
  |some xs=>[.sl t xs]
  |none=>[.gV]
theorem S.bF (s:S) (x:s.E):(s.cells x).length=s.sz:=by cases s<;>rfl
theorem Ty.bF (t:Ty) (x:t.El):(t.cells x).length=t.sz:=by
 cases t with
 |st s=>exact s.bF x
 |ho s=>cases x with
  |none=>simp[Ty.cells,Ty.sz]
  |some x=>exact s.bF x
 |hl t=>cases x<;>rfl
 |_=>rfl
theorem Ty.eb (t:Ty):0<t.sz:=by
 cases t with
 |st s=>cases s<;>simp[Ty.sz,S.sz]
 |ho s=>cases s<;>simp[Ty.sz,S.sz]
 |_=>simp[Ty.sz]
def R.asI:R->Option Int
 |.int .i64 n=>some n
 |_=>none
def R.asB:R->Option Bool
 |.bool b=>some b
 |_=>none
def R.asL (t:Ty):R->Option (List t.El)
 |.sl t' xs=>if h:t'=t then some (h▸xs)else none
 |_=>none
def R.asT:R->Option Nat
 |.tok n=>some n
 |_=>none
theorem R.pw {r:R} {n:Nat} (h:r.asT=some n):r=.tok n:=by
 unfold R.asT at h;split at h
 ·cases h;rfl
 ·cases h
theorem R.ak {r:R} {n:Int} (h:r.asI=some n):r=.int .i64 n:=by
 unfold R.asI at h;split at h
 ·cases h;rfl
 ·cases h
theorem R.z0 {r:R} {n:Bool} (h:r.asB=some n):r=.bool n:=by
 unfold R.asB at h;split at h
 ·cases h;rfl
 ·cases h
theorem R.de {t:Ty} {r:R} {n:List t.El} (h:r.asL t=some n):r=.sl t n:=by
 unfold R.asL at h;split at h
 ·split at h
  ·rename_i e;subst e;cases h;rfl
  ·cases h
 ·cases h
def qD:List R->Option Shape
 |[a',b',c']=>(a'.asI).bind λa=>(b'.asI).bind λb=>(c'.asI).bind λc=>some ⟨a,b,c⟩
 |_=>none
theorem sG (cs:List R) (x:Shape) (h:qD cs=some x):wU x=cs:=by
 unfold qD at h;split at h
 ·simp only[An]at h;obtain⟨a,ha,b,hb,c,hc,h⟩:=h;cases h;rw[R.ak ha,R.ak hb,R.ak hc];rfl
 ·cases h
def mJ:List R->Option fy
 |[a',b',c',d']=>(a'.asI).bind λa=>(b'.asI).bind λb=>(c'.asI).bind λc=>(d'.asL (.int .i64)).bind λd=>some ⟨⟨a,b,c⟩,d⟩
 |_=>none
theorem qE (cs:List R) (x:fy) (h:mJ cs=some x):wV x=cs:=by
 unfold mJ at h;split at h
 ·simp only[An]at h;obtain⟨a,ha,b,hb,c,hc,d,hd,h⟩:=h;cases h;rw[R.ak ha,R.ak hb,R.ak hc,R.de hd];rfl
 ·cases h
def qF:List R->Option pt
 |[a',b',c',d',e',f',g',h',i']=>(a'.asI).bind λa=>(b'.asI).bind λb=>(c'.asI).bind λc=>(d'.asI).bind λd=>(e'.asI).bind λe=>(f'.asI).bind λf=>(g'.asI).bind λg=>(h'.asL (.int .i64)).bind λh=>(i'.asL (.int .i64)).bind λi=>some ⟨a,b,c,d,e,f,g,h,i⟩
 |_=>none
theorem sH (cs:List R) (x:pt) (h:qF cs=some x):A9 x=cs:=by
 unfold qF at h;split at h
 ·simp only[An]at h;obtain⟨a,ha,b,hb,c,hc,d,hd,e,he,f,hf,g,hg,h,hh,i,hi,h⟩:=h;cases h;rw[R.ak ha,R.ak hb,R.ak hc,R.ak hd,R.ak he,R.ak hf,R.ak hg,R.de hh,R.de hi];rfl
 ·cases h
def qG:List R->Option Model
 |[a',b',c',d']=>(a'.asI).bind λa=>(b'.asI).bind λb=>(c'.asI).bind λc=>(d'.asL (.st .iO)).bind λd=>some ⟨⟨a,b,c⟩,d⟩
 |_=>none
theorem sI (cs:List R) (x:Model) (h:qG cs=some x):Ba x=cs:=by
 unfold qG at h;split at h
 ·simp only[An]at h;obtain⟨a,ha,b,hb,c,hc,d,hd,h⟩:=h;cases h;rw[R.ak ha,R.ak hb,R.ak hc,R.de hd];rfl
 ·cases h
def wX:List R->Option Task
 |[a',b',c',d',e']=>(a'.asI).bind λa=>(b'.asL (.int .i64)).bind λb=>(c'.asI).bind λc=>(d'.asI).bind λd=>(e'.asI).bind λe=>some ⟨a,b,c,d,e⟩
 |_=>none
theorem vA (cs:List R) (x:Task) (h:wX cs=some x):CQ x=cs:=by
 unfold wX at h;split at h
 ·simp only[An]at h;obtain⟨a,ha,b,hb,c,hc,d,hd,e,he,h⟩:=h;cases h;rw[R.ak ha,R.de hb,R.ak hc,R.ak hd,R.ak he];rfl
 ·cases h
def kv:List R->Option Request
 |[a',b',c',d',e',f',g',h',i',j',k',l',m']=>(a'.asI).bind λa=>(b'.asI).bind λb=>(c'.asI).bind λc=>(d'.asI).bind λd=>(e'.asI).bind λe=>(f'.asL (.st .iO)).bind λf=>(g'.asI).bind λg=>(h'.asI).bind λh=>(i'.asI).bind λi=>(j'.asI).bind λj=>(k'.asL (.int .i64)).bind λk=>(l'.asI).bind λl=>(m'.asI).bind λm=>some ⟨a,b,⟨⟨⟨c,d,e⟩,f⟩,g,⟨⟨h,i,j⟩,k⟩,l⟩,m⟩
 |_=>none
theorem px (cs:List R) (x:Request) (h:kv cs=some x):ur x=cs:=by
 unfold kv at h;split at h
 ·simp only[An]at h;obtain⟨a,ha,b,hb,c,hc,d,hd,e,he,f,hf,g,hg,h,hh,i,hi,j,hj,k,hk,l,hl,m,hm,h⟩:=h;cases h;rw[R.ak ha,R.ak hb,R.ak hc,R.ak hd,R.ak he,R.de hf,R.ak hg,R.ak hh,R.ak hi,R.ak hj,R.de hk,R.ak hl,R.ak hm];rfl
 ·cases h
def wY:List R->Option Step
 |[a',b',c',d',e',f',g',h']=>(a'.asI).bind λa=>(b'.asI).bind λb=>(c'.asI).bind λc=>(d'.asL (.int .u8)).bind λd=>(e'.asI).bind λe=>(f'.asI).bind λf=>(g'.asI).bind λg=>(h'.asL (.int .i64)).bind λh=>some ⟨a,b,c,d,⟨⟨e,f,g⟩,h⟩⟩
 |_=>none
theorem vB (cs:List R) (x:Step) (h:wY cs=some x):CS x=cs:=by
 unfold wY at h;split at h
 ·simp only[An]at h;obtain⟨a,ha,b,hb,c,hc,d,hd,e,he,f,hf,g,hg,h,hh,h⟩:=h;cases h;rw[R.ak ha,R.ak hb,R.ak hc,R.de hd,R.ak he,R.ak hf,R.ak hg,R.de hh];rfl
 ·cases h
def qH:List R->Option Event
 |[a',b',c',d',e',f',g']=>(a'.asI).bind λa=>(b'.asI).bind λb=>(c'.asI).bind λc=>(d'.asI).bind λd=>(e'.asI).bind λe=>(f'.asI).bind λf=>(g'.asL (.int .i64)).bind λg=>some ⟨a,b,c,⟨⟨d,e,f⟩,g⟩⟩
 |_=>none
theorem sJ (cs:List R) (x:Event) (h:qH cs=some x):Bb x=cs:=by
 unfold qH at h;split at h
 ·simp only[An]at h;obtain⟨a,ha,b,hb,c,hc,d,hd,e,he,f,hf,g,hg,h⟩:=h;cases h;rw[R.ak ha,R.ak hb,R.ak hc,R.ak hd,R.ak he,R.ak hf,R.de hg];rfl
 ·cases h
def qI:List R->Option Entry
 |[a',b',c',d',e',f',g',h',i',j',k',l',m']=>(a'.asI).bind λa=>(b'.asI).bind λb=>(c'.asI).bind λc=>(d'.asI).bind λd=>(e'.asL (.st .iO)).bind λe=>(f'.asI).bind λf=>(g'.asI).bind λg=>(h'.asI).bind λh=>(i'.asL (.int .i64)).bind λi=>(j'.asI).bind λj=>(k'.asI).bind λk=>(l'.asI).bind λl=>(m'.asB).bind λm=>some ⟨a,⟨⟨b,c,d⟩,e⟩,⟨⟨f,g,h⟩,i⟩,j,k,l,m⟩
 |_=>none
theorem sK (cs:List R) (x:Entry) (h:qI cs=some x):Bc x=cs:=by
 unfold qI at h;split at h
 ·simp only[An]at h;obtain⟨a,ha,b,hb,c,hc,d,hd,e,he,f,hf,g,hg,h,hh,i,hi,j,hj,k,hk,l,hl,m,hm,h⟩:=h;cases h;rw[R.ak ha,R.ak hb,R.ak hc,R.ak hd,R.de he,R.ak hf,R.ak hg,R.ak hh,R.de hi,R.ak hj,R.ak hk,R.ak hl,R.z0 hm];rfl
 ·cases h
def wZ:List R->Option Wish
 |[a',b',c']=>(a'.asI).bind λa=>(b'.asI).bind λb=>(c'.asI).bind λc=>some ⟨a,b,c⟩
 |_=>none
theorem vC (cs:List R) (x:Wish) (h:wZ cs=some x):BB x=cs:=by
 unfold wZ at h;split at h
 ·simp only[An]at h;obtain⟨a,ha,b,hb,c,hc,h⟩:=h;cases h;rw[R.ak ha,R.ak hb,R.ak hc];rfl
 ·cases h
def uu:List R->Option wT
 |[a',b',c',d',e']=>(a'.asI).bind λa=>(b'.asT).bind λb=>(c'.asI).bind λc=>(d'.asI).bind λd=>(e'.asI).bind λe=>some ⟨a,b,c,d,e⟩
 |_=>none
theorem sL (cs:List R) (x:wT) (hq:uu cs=some x):wW x=cs:=by
 unfold uu at hq;split at hq
 ·simp only[An]at hq;obtain⟨a,ha,b,hb,c,hc,d,hd,e,he,hq⟩:=hq;cases hq;rw[R.ak ha,R.pw hb,R.ak hc,R.ak hd,R.ak he];rfl
 ·cases hq
def ky:List R->Option ku
 |[a',b',c',d',e',f',g',h',i',j',k',l',m']=>(a'.asI).bind λa=>(b'.asI).bind λb=>(c'.asI).bind λc=>(d'.asI).bind λd=>(e'.asI).bind λe=>(f'.asT).bind λf=>(g'.asI).bind λg=>(h'.asI).bind λh=>(i'.asI).bind λi=>(j'.asI).bind λj=>(k'.asT).bind λk=>(l'.asI).bind λl=>(m'.asI).bind λm=>some ⟨a,b,c,d,e,f,g,h,i,j,k,l,m⟩
 |_=>none
theorem nP (cs:List R) (x:ku) (hq:ky cs=some x):mI x=cs:=by
 unfold ky at hq;split at hq
 ·simp only[An]at hq;obtain⟨a,ha,b,hb,c,hc,d,hd,e,he,f,hf,g,hg,h0,hh,i,hi,j,hj,k,hk,l,hl,m,hm,hq⟩:=hq;cases hq;rw[R.ak ha,R.ak hb,R.ak hc,R.ak hd,R.ak he,R.pw hf,R.ak hg,R.ak hh,R.ak hi,R.ak hj,R.pw hk,R.ak hl,R.ak hm];rfl
 ·cases hq
def S.dj:(s:S)->List R->Option s.E
 |.shape=>qD
 |.iN=>mJ
 |.iO=>qF
 |.model=>qG
 |.task=>wX
 |.request=>kv
 |.step=>wY
 |.event=>qH
 |.entry=>qI
 |.wish=>wZ
 |.mH=>uu
 |.ea=>ky
def Ty.l7:(t:Ty)->R->Option t.El
 |.int k,.int k' n=>if k'=k then some n else none
 |.bool,.bool b=>some b
 |.str,.str l=>some l
 |.sl t,.sl t' xs=>if h:t'=t then some (h▸xs)else none
 |.tok,.tok n=>some n
 |.hl t,.sl t' xs=>if h:t'=t then some (some (h▸xs))else none
 |_,_=>none
def Ty.dj:(t:Ty)->List R->Option t.El
 |.st s,cs=>s.dj cs
 |.ho s,cs=>(s.dj cs).bind λx=>some (some x)
 |t,[r]=>t.l7 r
 |_,_=>none
theorem Ty.sM (t:Ty) (r:R) (x:t.El) (h:t.l7 r=some x):t.cells x=[r]:=by
 cases t with
 |st s=>cases r<;>exact nomatch h
 |int k=>
  cases r with
  |int k' n=>
   replace h:(if k'=k then some n else none)=some x:=h
   split at h
   ·rename_i e;subst e;cases h;rfl
   ·cases h
  |_=>exact nomatch h
 |bool=>
  cases r with
  |bool b=>cases h;rfl
  |_=>exact nomatch h
 |str=>
  cases r with
  |str b=>cases h;rfl
  |_=>exact nomatch h
 |sl t=>
  cases r with
  |sl t' xs=>
   replace h:(if h:t'=t then some (h▸xs)else none)=some x:=h
   split at h
   ·rename_i e;subst e;cases h;rfl
   ·cases h
  |_=>exact nomatch h
 |tok=>
  cases r with
  |tok n=>cases h;rfl
  |_=>exact nomatch h
 |ho s=>cases r<;>exact nomatch h
 |hl t=>
  cases r with
  |sl t' xs=>
   replace h:(if h:t'=t then some (some (h▸xs))else none)=some x:=h
   split at h
   ·rename_i e;subst e;cases h;rfl
   ·cases h
  |_=>exact nomatch h
theorem S.bT (s:S) (cs:List R) (x:s.E) (h:s.dj cs=some x):s.cells x=cs:=by
 cases s
 ·exact sG cs x h
 ·exact qE cs x h
 ·exact sH cs x h
 ·exact sI cs x h
 ·exact vA cs x h
 ·exact px cs x h
 ·exact vB cs x h
 ·exact sJ cs x h
 ·exact sK cs x h
 ·exact vC cs x h
 ·exact sL cs x h
 ·exact nP cs x h
theorem Ty.bT (t:Ty) (cs:List R) (x:t.El) (h:t.dj cs=some x):t.cells x=cs:=by
 cases t with
 |st s=>exact S.bT s cs x h
 |ho s=>
  replace h:(s.dj cs).bind (λx=>some (some x))=some x:=h
  obtain⟨y,hy,e⟩:=An.1 h;cases e
  exact S.bT s cs y hy
 |_=>
  match cs,h with
  |[r],h=>exact Ty.sM _ r x h
end
section
inductive SV where
 |r (d:List Nat) (x:R)
 |cU
 |iP
 |own (i:Nat)
 |sub (i off len:Nat)
 |bsl (i n:Nat)
 |ptr (i idx off:Nat)
 |inn (i x c:Nat)
 |fb (d:List Nat) (cs:List R)
 |agg (cs:List SV)
 |tup (vs:List SV)
 |fn (f:Fn) (first cap:List SV)
 |undef
abbrev SV.i (n:Int):SV:=.r [] (.int .i64 n)
abbrev SV.b (b:Bool):SV:=.r [] (.bool b)
inductive Blk where
 |box (cs:List SV)
 |arr (sh:Option (List Nat)) (t:Ty) (xs:List t.El)
abbrev az:=List (Nat× Blk)
structure St where
 aS:List (Nat× SV)
 heap:az
 nid:Nat
 n:Nat
 gh:List (Option Nat):=[]
def look {α:Type}:List (Nat× α)->Nat->Option α
 |[],_=>none
 |(k,v)::l,n=>cond (Nat.beq k n) (some v) (look l n)
def put {α:Type}:List (Nat× α)->Nat->α->List (Nat× α)
 |[],n,v=>[(n,v)]
 |(k,u)::l,n,v=>cond (Nat.beq k n) ((k,v)::l) ((k,u)::put l n v)
def idx {α:Type} (xs:List α) (i:Int):Option α:=cond (decide (0<=i)) xs[i.toNat]? none
def mem (i:Nat):List Nat->Bool
 |[]=>false
 |k::l=>cond (Nat.beq k i) true (mem i l)
def hit (T:List Nat):List Nat->Bool
 |[]=>false
 |k::l=>cond (mem k T) true (hit T l)
abbrev Kil:=List Nat× List Nat
mutual
def SV.aA (T:Kil):SV->SV
 |.r d x=>cond (hit T.2 d) .undef (.r d x)
 |.own j=>cond (mem j T.1) .undef (.own j)
 |.sub j o n=>cond (mem j T.1) .undef (.sub j o n)
 |.bsl j n=>cond (mem j T.1) .undef (.bsl j n)
 |.ptr j x o=>cond (mem j T.1) .undef (.ptr j x o)
 |.inn j x c=>cond (mem j T.1||mem j T.2) .undef (.inn j x c)
 |.fb d cs=>cond (hit T.2 d) .undef (.fb d cs)
 |.agg cs=>.agg (dW T cs)
 |.tup cs=>.tup (dW T cs)
 |.fn f a b=>.fn f (dW T a) (dW T b)
 |.cU=>.cU
 |.iP=>.iP
 |.undef=>.undef
def dW (T:Kil):List SV->List SV
 |[]=>[]
 |v::l=>v.aA T::dW T l
end
def Blk.aA (T:Kil):Blk->Option Blk
 |.box cs=>some (.box (dW T cs))
 |.arr none t xs=>some (.arr none t xs)
 |.arr (some d) t xs=>cond (hit T.2 d) none (some (.arr (some d) t xs))
def mK (T:Kil):az->Option az
 |[]=>some []
 |(k,b)::l=>cond (mem k T.1) (mK T l) ((b.aA T).bind λb=>(mK T l).bind λl=>some ((k,b)::l))
def uv (T:Kil):List (Nat× SV)->List (Nat× SV)
 |[]=>[]
 |(k,v)::l=>(k,v.aA T)::uv T l
def ec (T:Kil) (h:az):Option az:=
 match T.2 with
 |[]=>some h
 |_=>mK T h
def gW (T:Kil) (s:List (Nat× SV)):List (Nat× SV):=
 match T.2 with
 |[]=>s
 |_=>uv T s
def SV.list (h:az) (t:Ty):SV->Option (List Nat× List t.El)
 |.r d x=>(x.asL t).bind λxs=>some (d,xs)
 |.cU=>some ([],[])
 |.own i=>match look h i with
  |some (.arr sh t' xs)=>if e:t'=t then some (i::sh.getD [],e▸xs)else none
  |_=>none
 |.sub i o n=>match look h i with
  |some (.arr sh t' xs)=>if e:t'=t then some (i::sh.getD [],((e▸xs).drop o).take n)else none
  |_=>none
 |_=>none
def SV.asInt (k:IntKind):SV->Option Int
 |.r _ (.int k' n)=>cond (decide (k'=k)) (some n) none
 |_=>none
def SV.asI:SV->Option Int
 |.r _ (.int _ n)=>some n
 |_=>none
def SV.asB:SV->Option Bool
 |.r _ (.bool b)=>some b
 |_=>none
def SV.asR (h:az) (t:Ty) (v:SV):Option (List Nat× R):=
 match t with
 |.sl t'=>(v.list h t').bind λp=>some (p.1,.sl t' p.2)
 |.st _=>none
 |.tok=>match v with
  |.r d (.tok n)=>some (d,.tok n)
  |.cU=>some ([],.tok 0)
  |_=>none
 |_=>match v with
  |.r d x=>some (d,x)
  |_=>none
def S.tys:S->List Ty
 |.shape=>[.int .i64,.int .i64,.int .i64]
 |.iN=>[.int .i64,.int .i64,.int .i64,.sl (.int .i64)]
 |.iO=>[.int .i64,.int .i64,.int .i64,.int .i64,.int .i64,.int .i64,.int .i64,.sl (.int .i64),.sl (.int .i64)]
 |.model=>[.int .i64,.int .i64,.int .i64,.sl (.st .iO)]
 |.task=>[.int .i64,.sl (.int .i64),.int .i64,.int .i64,.int .i64]
 |.request=>[.int .i64,.int .i64,.int .i64,.int .i64,.int .i64,.sl (.st .iO),.int .i64,.int .i64,.int .i64,.int .i64,.sl (.int .i64),.int .i64,.int .i64]
 |.step=>[.int .i64,.int .i64,.int .i64,.sl (.int .u8),.int .i64,.int .i64,.int .i64,.sl (.int .i64)]
 |.event=>[.int .i64,.int .i64,.int .i64,.int .i64,.int .i64,.int .i64,.sl (.int .i64)]
 |.entry=>[.int .i64,.int .i64,.int .i64,.int .i64,.sl (.st .iO),.int .i64,.int .i64,.int .i64,.sl (.int .i64),.int .i64,.int .i64,.int .i64,.bool]
 |.wish=>[.int .i64,.int .i64,.int .i64]
 |.mH=>[.int .i64,.tok,.int .i64,.int .i64,.int .i64]
 |.ea=>[.int .i64,.int .i64,.int .i64,.int .i64,.int .i64,.tok,.int .i64,.int .i64,.int .i64,.int .i64,.tok,.int .i64,.int .i64]
def Ty.tys:Ty->List Ty
 |.st s=>s.tys
 |.ho s=>s.tys
 |.hl t=>[.sl t]
 |t=>[t]
def wO (h:az):List Ty->List SV->Option (List Nat× List R)
 |[],[]=>some ([],[])
 |t::ts,v::vs=>(v.asR h t).bind λp=>(wO h ts vs).bind λq=>some (p.1++q.1,p.2::q.2)
 |_,_=>none
def DQ (h:az) (t:Ty) (vs:List SV):Option (List Nat× t.El):=
 (wO h t.tys vs).bind λp=>(t.dj p.2).bind λx=>some (p.1,x)
def SV.cells:SV->Option (List SV)
 |.agg cs=>some cs
 |.tup _=>none
 |.undef=>none
 |v=>some [v]
mutual
def SV.ids:SV->List Nat
 |.own i=>[i]
 |.sub i _ _=>[i]
 |.bsl i _=>[i]
 |.ptr i _ _=>[i]
 |.agg cs=>wP cs
 |.tup cs=>wP cs
 |.fn _ a b=>wP a++wP b
 |_=>[]
def wP:List SV->List Nat
 |[]=>[]
 |v::l=>v.ids++wP l
end
def iQ:List Nat->List Nat->List Nat
 |acc,[]=>acc
 |acc,i::l=>cond (mem i acc) (iQ acc l) (iQ (acc++[i]) l)
def Bd (h:az):List Nat->List Nat
 |[]=>[]
 |i::l=>(match look h i with
  |some (.box cs)=>wP cs
  |_=>[])++Bd h l
def reach (h:az):Nat->List Nat->List Nat
 |0,L=>L
 |n+1,L=>reach h n (iQ L (Bd h L))
def ln:Value->Option SV
 |.bool b=>some (.b b)
 |.int k n=>some (.r [] (.int k n))
 |.string s=>some (.r [] (.str s.data.toList))
 |.slice none 0 0=>some .cU
 |.pointer none=>some .iP
 |_=>none
def oo:List Value->Option (List SV)
 |[]=>some []
 |v::l=>(ln v).bind λx=>(oo l).bind λxs=>some (x::xs)
def uw:Value->Option SV
 |.agg cs=>(oo cs.toList).bind λl=>some (.agg l)
 |v=>ln v
def opd (aS:List (Nat× SV)):Operand->Option SV
 |.tmp t=>look aS t
 |.const v=>uw v
 |.func f=>some (.fn (.func f) [] [])
 |.global _=>none
def jZ (aS:List (Nat× SV)):List Operand->Option (List SV)
 |[]=>some []
 |x::l=>(opd aS x).bind λv=>(jZ aS l).bind λvs=>some (v::vs)
end
section
abbrev TT:=TypeId->Option Ty
def fC:Nat:=2^38
def mL (P:Program) (T:TypeId):Bool:=
 match P.underlying T with
 |some (.struct _)=>true
 |some (.array _ _)=>true
 |_=>false
def fD (P:Program) (T:TypeId):Option TypeId:=
 match P.underlying T with
 |some (.slice e)=>some e
 |_=>none
def lq (P:Program) (T:TypeId) (f:Nat):Option Field:=
 match P.underlying T with
 |some (.struct fs)=>(fs[f]?).bind λf=>(P.info? f.type).bind λi=>cond (Nat.beq i.size 0) none (some f)
 |_=>none
def ed (P:Program) (T:TypeId):Option Nat:=(P.info? T).bind λi=>some i.size
def kz (P:Program):List Field->Option (List (Nat× Nat))
 |[]=>some []
 |f::fs=>(ed P f.type).bind λs=>(kz P fs).bind λl=>some ((f.offset,s)::l)
def takeN {α:Type} (n:Nat) (l:List α):Option (List α):=cond (Nat.ble n l.length) (some (l.take n)) none
def eg (P:Program) (T:TypeId) (cs:List SV):Option SV:=
  (P.underlying T).bind λ_=>(P.info? T).bind λi=>(takeN i.size cs).bind λl=>
    cond (mL P T) (some (.agg l)) (match l with|[v]=>some v|_=>none)
def mkR (d:List Nat):R->SV
 |.sl t xs=>.r d (.sl t xs)
 |x=>.r [] x
def xa (i:Nat):Option (List Nat)->List Nat
 |none=>[i]
 |some d=>d
def fE (h:az):SV->Option (List SV)
 |.fb d cs=>some (cs.map (mkR d))
 |.ptr i x o=>match look h i with
  |some (.box cs)=>some (cs.drop o)
  |some (.arr sh t xs)=>(xs[x]?).bind λe=>some (((t.cells e).map (mkR (xa i sh))).drop o)
  |_=>none
 |_=>none
def dk (P:Program) (T:TypeId):Option (List SV):=
 (P.info? T).bind λi=>i.zero.bind λz=>(uw z).bind λv=>v.cells
def iG (place:Nat->Option (Nat× Nat)):List SV->List (Nat× SV)->Option (List SV)
 |cs,[]=>some cs
 |cs,(k,v)::l=>(place k).bind λp=>v.cells.bind λvs=>
   cond (Nat.beq vs.length p.2) (cond (Nat.ble (p.1+vs.length) cs.length) (iG place (cs.take p.1++vs++cs.drop (p.1+vs.length)) l) none) none
def CG (op:BinOp) (k:IntKind) (a b:Int):Option R:=
 match op with
 |.add=>some (.int k (k.wrap (a+b)))
 |.sub=>some (.int k (k.wrap (a-b)))
 |.mul=>some (.int k (k.wrap (a*b)))
 |.quo=>cond (decide (b=0)) none (some (.int k (k.wrap (a.tdiv b))))
 |.rem=>cond (decide (b=0)) none (some (.int k (a.tmod b)))
 |.and=>some (.int k (k.wrap (BitVec.ofInt k.bits a&&& BitVec.ofInt k.bits b).toNat))
 |.or=>some (.int k (k.wrap (BitVec.ofInt k.bits a||| BitVec.ofInt k.bits b).toNat))
 |.xor=>some (.int k (k.wrap (BitVec.ofInt k.bits a^^^ BitVec.ofInt k.bits b).toNat))
 |.eql=>some (.bool (a==b))
 |.neq=>some (.bool (a !=b))
 |.lss=>some (.bool (decide (a<b)))
 |.leq=>some (.bool (decide (a<=b)))
 |.gtr=>some (.bool (decide (a>b)))
 |.geq=>some (.bool (decide (a>=b)))
 |_=>none
def qJ (op:BinOp) (k:IntKind) (a b:Int):Option R:=
  cond (decide (b<0)) none
    (match op with
     |.shl=>some (.int k (k.wrap (a*2^(min b.toNat k.bits))))
     |.shr=>some (.int k (a.fdiv (2^(min b.toNat k.bits))))
     |_=>none)
def CT (op:BinOp) (a b:List UInt8):Option R:=
 match op with
 |.add=>cond (decide (a.length+b.length<=fC)) (some (.str (a++b))) none
 |.eql=>some (.bool (a==b))
 |.neq=>some (.bool (!(a==b)))
 |.lss=>some (.bool (Op.bytesLess a b))
 |.leq=>some (.bool (Op.bytesLess a b||a==b))
 |.gtr=>some (.bool (!(Op.bytesLess a b||a==b)))
 |.geq=>some (.bool (!(Op.bytesLess a b)))
 |_=>none
def z4 (P:Program) (xs ys:List SV):List Field->Option Bool
 |[]=>some true
 |f::fs=>cond (decide (f.name= "_")) none (match P.underlying f.type,xs[f.offset]?,ys[f.offset]? with
  |some (.int _),some (.r _ (.int k a)),some (.r _ (.int l b))=>cond (decide (k=l)) ((z4 P xs ys fs).bind λt=>some (cond (a==b) t false)) none
  |_,_,_=>none)
def CU (P:Program) (T:TypeId) (xs ys:List SV):Option Bool:=
 cond (P.stoodInHeld T) none (cond (P.eqGuardType P.depth T) none (match P.underlying T with
  |some (.struct fs)=>z4 P xs ys fs.toList
  |_=>none))
def xb:BinOp->Bool
 |.shl|.shr=>true
 |_=>false
def isEq:BinOp->Option Bool
 |.eql=>some true
 |.neq=>some false
 |_=>none
def bin (P:Program) (T:TypeId) (op:BinOp) (x y:SV):Option SV:=
 match x,y with
 |.r _ (.int k a),.r _ (.int l b)=>cond (xb op) ((qJ op k a b).bind λr=>some (.r [] r)) (cond (decide (k=l)) ((CG op k a b).bind λr=>some (.r [] r)) none)
 |.r _ (.str a),.r _ (.str b)=>(CT op a b).bind λr=>some (.r [] r)
 |.r _ (.bool a),.r _ (.bool b)=>match P.underlying T with
  |some .bool=>(isEq op).bind λe=>some (.b (cond e (a==b) (!(a==b))))
  |_=>none
 |.agg a,.agg b=>(isEq op).bind λe=>(CU P T a b).bind λt=>some (.b (cond e t (!t)))
 |_,_=>none
def un (op:UnOp) (x:SV):Option SV:=
 match op,x with
 |.neg,.r _ (.int k n)=>some (.r [] (.int k (k.wrap (0-n))))
 |.not,.r _ (.bool b)=>some (.b (!b))
 |_,_=>none
def lenOf (h:az):SV->Option Nat
 |.r _ (.str l)=>some l.length
 |.r _ (.sl _ xs)=>some xs.length
 |.cU=>some 0
 |.own i=>match look h i with
  |some (.arr _ _ xs)=>some xs.length
  |_=>none
 |.sub _ _ n=>some n
 |.bsl _ n=>some n
 |_=>none
def DS (P:Program) (T:TypeId):SV->Bool
 |.r _ (.str _)=>match P.underlying T with
  |some .string=>true
  |_=>false
 |_=>match P.underlying T with
  |some (.slice _)=>true
  |_=>false
def bounds (n:Nat) (lo hi:Option SV):Option (Nat× Nat):=
  (match hi with
   |none=>some n
   |some v=>v.asI.bind λx=>cond (decide (0<=x/\x<=(n:Int))) (some x.toNat) none).bind λh=>
  (match lo with
   |none=>some 0
   |some v=>v.asI.bind λx=>cond (decide (0<=x/\x<=(h:Int))) (some x.toNat) none).bind λl=>some (l,h)
def slT (P:Program) (T:TypeId) (t:Ty):Bool:=
 match P.underlying T with
 |some (.slice e)=>match ed P e with
  |some n=>Nat.beq n t.sz
  |none=>false
 |_=>false
def uy (P:Program) (T:TypeId):Bool:=
 match P.underlying T with
 |some (.slice e)=>(ed P e).isSome
 |_=>false
def isStr (P:Program) (T:TypeId):Bool:=
 match P.underlying T with
 |some .string=>true
 |_=>false
def D6 (n m:Nat):Option SV->Nat
 |none=>n
 |some _=>m
def eC (P:Program) (T:TypeId) (h:az) (x:SV) (lo hi:Option SV):Option SV:=
 match x with
 |.r d (.str l)=>cond (isStr P T) ((bounds l.length lo hi).bind λb=>some (.r d (.str ((l.take b.2).drop b.1)))) none
 |.r d (.sl t xs)=>cond (slT P T t) ((bounds xs.length lo hi).bind λb=>some (.r d (.sl t ((xs.take b.2).drop b.1)))) none
 |.cU=>cond (uy P T) ((bounds 0 lo hi).bind λ_=>some .cU) none
 |.own i=>match look h i with
  |some (.arr _ t xs)=>cond (slT P T t) ((bounds xs.length lo hi).bind λb=>some (.sub i b.1 (b.2-b.1))) none
  |_=>none
 |.sub i o n=>match look h i with
  |some (.arr _ t xs)=>cond (slT P T t) ((bounds (D6 n (xs.length-o) hi) lo hi).bind λb=>some (.sub i (o+b.1) (b.2-b.1))) none
  |_=>none
 |_=>none
def slN (P:Program) (T:TypeId) (h:az) (x:SV):Option Nat:=
 match x with
 |.r _ (.sl t xs)=>cond (slT P T t) (some xs.length) none
 |.own i=>match look h i with
  |some (.arr _ t xs)=>cond (slT P T t) (some xs.length) none
  |_=>none
 |_=>none
def mv (P:Program) (T:TypeId) (h:az) (x:SV) (lo:Option SV) (hi m:SV):Option SV:=
 (slN P T h x).bind λn=>m.asI.bind λz=>cond (decide (0<=z/\z<=(n:Int))) ((bounds z.toNat lo (some hi)).bind λ_=>some .undef) none
def bj (P:Program) (T:TypeId) (h:az) (x:SV) (k:Int):Option SV:=
 match x with
 |.r d (.sl t xs)=>cond (slT P T t) ((idx xs k).bind λe=>some (.fb d (t.cells e))) none
 |.own i=>match look h i with
  |some (.arr _ t xs)=>cond (slT P T t) (cond (decide (0<=k/\k<(xs.length:Int))) (some (.ptr i k.toNat 0)) none) none
  |_=>none
 |.sub i o n=>match look h i with
  |some (.arr _ t _)=>cond (slT P T t) (cond (decide (0<=k/\k<(n:Int))) (some (.ptr i (o+k.toNat) 0)) none) none
  |_=>none
 |.bsl i n=>(fD P T).bind λe=>(ed P e).bind λsz=>cond (decide (0<=k/\k<(n:Int))) (some (.ptr i 0 (k.toNat*sz))) none
 |_=>none
def xc (P:Program) (src dst:TypeId) (x:SV):Option SV:=
 match P.underlying src,P.underlying dst,x with
 |some (.int _),some (.int k),.r _ (.int _ n)=>some (.r [] (.int k (k.wrap n)))
 |some .string,some .string,.r _ (.str l)=>some (.r [] (.str l))
 |_,_,_=>none
def l8 (P:Program) (T:TypeId):Bool:=
 match fD P T with
 |some e=>match P.underlying e with
  |some (.int .u8)=>true
  |_=>false
 |none=>false
def bytesOf (l:List Int):List UInt8:=l.map λn=>UInt8.ofNat n.toNat
def zO (aS:List (Nat× SV)):Option Operand->Option (Option SV)
 |none=>some none
 |some x=>(opd aS x).bind λv=>some (some v)
def iR (aS:List (Nat× SV)):List (Nat× Operand)->Option (List (Nat× SV))
 |[]=>some []
 |(k,x)::l=>(opd aS x).bind λv=>(iR aS l).bind λvs=>some ((k,v)::vs)
def dH (P:Program) (s:List (Nat× SV)) (h:az) (op:Op):Option SV:=
 match op with
 |.move x|.assign x=>opd s x
 |.pick c a b=>(opd s c).bind λc=>c.asB.bind λc=>cond c (opd s a) (opd s b)
 |.build T parts=>
  match P.underlying T with
  |some (.struct fs)=>(kz P fs.toList).bind λpl=>(dk P T).bind λz=>(iR s parts.toList).bind λps=>
   (iG (λk=>pl[k]?) z ps).bind λcs=>some (.agg cs)
  |_=>none
 |.load T a=>(opd s a).bind λa=>(fE h a).bind λcs=>eg P T cs
 |.nilCheck x=>(opd s x).bind λv=>match v with
  |.ptr i x o=>some (.ptr i x o)
  |.fb d cs=>some (.fb d cs)
  |_=>none
 |.binOp op T x y _=>(opd s x).bind λx=>(opd s y).bind λy=>bin P T op x y
 |.unOp op _ x=>(opd s x).bind λx=>un op x
 |.convert src dst x=>(opd s x).bind λx=>cond (l8 P src&&isStr P dst) ((x.list h (.int .u8)).bind λp=>some (.r [] (.str (bytesOf p.2)))) (xc P src dst x)
 |.makeFunc fn first cap=>(jZ s first.toList).bind λa=>(jZ s cap.toList).bind λb=>some (.fn fn a b)
 |.slice T x lo hi none=>(opd s x).bind λx=>(zO s lo).bind λlo=>(zO s hi).bind λhi=>eC P T h x lo hi
 |.slice T x lo (some hi) (some m)=>(opd s x).bind λx=>(zO s lo).bind λlo=>(opd s hi).bind λhi=>(opd s m).bind λm=>mv P T h x lo hi m
 |.fieldAddr T x f=>(opd s x).bind λx=>(lq P T f).bind λf=>match x with
  |.fb d cs=>some (.fb d (cs.drop f.offset))
  |.ptr i k o=>some (.ptr i k (o+f.offset))
  |_=>none
 |.field T x f=>(opd s x).bind λx=>(lq P T f).bind λf=>match x with
  |.agg cs=>eg P f.type (cs.drop f.offset)
  |_=>none
 |.indexAddr T x k=>(opd s x).bind λx=>(opd s k).bind λk=>k.asI.bind λk=>bj P T h x k
 |.index T x k=>(opd s x).bind λx=>(opd s k).bind λk=>k.asI.bind λk=>match x with
  |.r _ (.str l)=>cond (isStr P T) ((idx l k).bind λc=>some (.r [] (.int .u8 c.toNat))) none
  |_=>none
 |.extract x k=>(opd s x).bind λx=>match x with
  |.tup vs=>vs[k]?
  |_=>none
 |.call {callee:=.builtin .len,args,argTypes}=>(jZ s args.toList).bind λvs=>match vs,argTypes.toList with
  |[v],T::_=>cond (DS P T v) ((lenOf h v).bind λn=>some (.i n)) none
  |_,_=>none
 |.call {callee:=.builtin .cap,args,argTypes}=>(jZ s args.toList).bind λvs=>match vs,argTypes.toList with
  |[.cU],T::_=>cond (uy P T) (some (.i 0)) none
  |_,_=>none
 |.call {callee:=.builtin .min,args,.. }=>(jZ s args.toList).bind λvs=>match vs with
  |[.r _ (.int k a),.r _ (.int _ b)]=>some (.r [] (.int k (if b<a then b else a)))
  |[.r _ (.int k a),.r _ (.int _ b),.r _ (.int _ c)]=>some (.r [] (.int k (if c<(if b<a then b else a)then c else(if b<a then b else a))))
  |_=>none
 |.call {callee:=.builtin .max,args,.. }=>(jZ s args.toList).bind λvs=>match vs with
  |[.r _ (.int k a),.r _ (.int _ b)]=>some (.r [] (.int k (if b>a then b else a)))
  |_=>none
 |_=>none
def py {α:Type} (h:az) (v:SV) (K:List SV->Option α):Option α:=
 match v with
 |.fb d cs=>K (cs.map (mkR d))
 |.ptr i x o=>match look h i with
  |some (.box cs)=>K (cs.drop o)
  |some (.arr sh t xs)=>(xs[x]?).bind λe=>K (((t.cells e).map (mkR (xa i sh))).drop o)
  |_=>none
 |_=>none
def BC {α:Type} (op:BinOp) (k:IntKind) (a b:Int) (K:R->Option α):Option α:=
 match op with
 |.quo=>cond (decide (b=0)) none (K (.int k (k.wrap (a.tdiv b))))
 |.rem=>cond (decide (b=0)) none (K (.int k (a.tmod b)))
 |op=>(CG op k a b).bind K
def sN {α:Type} (op:BinOp) (k:IntKind) (a b:Int) (K:R->Option α):Option α:=
  cond (decide (b<0)) none
    (match op with
     |.shl=>K (.int k (k.wrap (a*2^(min b.toNat k.bits))))
     |.shr=>K (.int k (a.fdiv (2^(min b.toNat k.bits))))
     |_=>none)
def BD {α:Type} (op:BinOp) (a b:List UInt8) (K:R->Option α):Option α:=
 match op with
 |.add=>cond (decide (a.length+b.length<=fC)) (K (.str (a++b))) none
 |op=>(CT op a b).bind K
def D7 {α:Type} (P:Program) (T:TypeId) (op:BinOp) (x y:SV) (K:SV->Option α):Option α:=
 match x,y with
 |.r _ (.int k a),.r _ (.int l b)=>cond (xb op) (sN op k a b λr=>K (.r [] r)) (cond (decide (k=l)) (BC op k a b λr=>K (.r [] r)) none)
 |.r _ (.str a),.r _ (.str b)=>BD op a b λr=>K (.r [] r)
 |x,y=>(bin P T op x y).bind K
def iS {α:Type} (n:Nat) (lo hi:Option SV) (K:Nat->Nat->Option α):Option α:=
 let lower (h:Nat):Option α:=match lo with
  |none=>K 0 h
  |some v=>v.asI.bind λx=>cond (decide (0<=x/\x<=(h:Int))) (K x.toNat h) none
 match hi with
 |none=>lower n
 |some v=>v.asI.bind λx=>cond (decide (0<=x/\x<=(n:Int))) (lower x.toNat) none
def xd {α:Type} (P:Program) (T:TypeId) (h:az) (x:SV) (lo hi:Option SV) (K:SV->Option α):Option α:=
 match x with
 |.r d (.str l)=>cond (isStr P T) (iS l.length lo hi λa b=>K (.r d (.str ((l.take b).drop a)))) none
 |.r d (.sl t xs)=>cond (slT P T t) (iS xs.length lo hi λa b=>K (.r d (.sl t ((xs.take b).drop a)))) none
 |.cU=>cond (uy P T) (iS 0 lo hi λ_ _=>K .cU) none
 |.own i=>match look h i with
  |some (.arr _ t xs)=>cond (slT P T t) (iS xs.length lo hi λa b=>K (.sub i a (b-a))) none
  |_=>none
 |.sub i o n=>match look h i with
  |some (.arr _ t xs)=>cond (slT P T t) (iS (D6 n (xs.length-o) hi) lo hi λa b=>K (.sub i (o+a) (b-a))) none
  |_=>none
 |_=>none
def lr {α:Type} (P:Program) (T:TypeId) (h:az) (x:SV) (k:Int) (K:SV->Option α):Option α:=
 match x with
 |.r d (.sl t xs)=>cond (slT P T t) ((idx xs k).bind λe=>K (.fb d (t.cells e))) none
 |.own i=>match look h i with
  |some (.arr _ t xs)=>cond (slT P T t) (cond (decide (0<=k/\k<(xs.length:Int))) (K (.ptr i k.toNat 0)) none) none
  |_=>none
 |.sub i o n=>match look h i with
  |some (.arr _ t _)=>cond (slT P T t) (cond (decide (0<=k/\k<(n:Int))) (K (.ptr i (o+k.toNat) 0)) none) none
  |_=>none
 |x=>(bj P T h x k).bind K
def qK {α:Type} (P:Program) (T:TypeId) (h:az) (x:SV) (lo:Option SV) (hi m:SV) (K:SV->Option α):Option α:=
 (slN P T h x).bind λn=>m.asI.bind λz=>cond (decide (0<=z/\z<=(n:Int))) (iS z.toNat lo (some hi) λ_ _=>K .undef) none
def gX {α:Type} (P:Program) (s:List (Nat× SV)) (h:az) (op:Op) (K:SV->Option α):Option α:=
 match op with
 |.load T a=>(opd s a).bind λa=>py h a λcs=>(eg P T cs).bind K
 |.binOp op T x y _=>(opd s x).bind λx=>(opd s y).bind λy=>D7 P T op x y K
 |.slice T x lo hi none=>(opd s x).bind λx=>(zO s lo).bind λlo=>(zO s hi).bind λhi=>xd P T h x lo hi K
 |.slice T x lo (some hi) (some m)=>(opd s x).bind λx=>(zO s lo).bind λlo=>(opd s hi).bind λhi=>(opd s m).bind λm=>qK P T h x lo hi m K
 |.indexAddr T x k=>(opd s x).bind λx=>(opd s k).bind λk=>k.asI.bind λk=>lr P T h x k K
 |.index T x k=>(opd s x).bind λx=>(opd s k).bind λk=>k.asI.bind λk=>match x with
  |.r _ (.str l)=>cond (isStr P T) ((idx l k).bind λc=>K (.r [] (.int .u8 c.toNat))) none
  |_=>none
 |op=>(dH P s h op).bind K
theorem cX {α β:Type} (b:Bool) (x y:Option α) (K:α->Option β):(cond b x y).bind K=cond b (x.bind K) (y.bind K):=by cases b<;>rfl
theorem sO {α:Type} (h:az) (v:SV) (K:List SV->Option α):py h v K=(fE h v).bind K:=by
 unfold py fE;grind
theorem z5 {α:Type} (op:BinOp) (k:IntKind) (a b:Int) (K:R->Option α):BC op k a b K=(CG op k a b).bind K:=by
 unfold BC;split
 ·show _=(cond _ none (some _)).bind K;rw[cX];rfl
 ·show _=(cond _ none (some _)).bind K;rw[cX];rfl
 ·rfl
theorem vD {α:Type} (op:BinOp) (k:IntKind) (a b:Int) (K:R->Option α):sN op k a b K=(qJ op k a b).bind K:=by
 unfold sN qJ;grind
theorem z6 {α:Type} (op:BinOp) (a b:List UInt8) (K:R->Option α):BD op a b K=(CT op a b).bind K:=by
 unfold BD;split
 ·show _=(cond _ (some _) none).bind K;rw[cX];rfl
 ·rfl
theorem BF {α:Type} (P:Program) (T:TypeId) (op:BinOp) (x y:SV) (K:SV->Option α):D7 P T op x y K=(bin P T op x y).bind K:=by
 unfold D7;split
 ·simp only[bin,cX,vD,z5,FX,FN,Ge]
 ·simp only[bin,z6,FX,FN]
 ·rfl
theorem fo {α:Type} (n:Nat) (lo hi:Option SV) (K:Nat->Nat->Option α):iS n lo hi K=(bounds n lo hi).bind λb=>K b.1 b.2:=by
 unfold iS bounds;cases hi<;>cases lo<;>simp only[FX,FN,cX,Ge]
theorem xe {α:Type} (P:Program) (T:TypeId) (h:az) (x:SV) (lo hi:Option SV) (K:SV->Option α):xd P T h x lo hi K=(eC P T h x lo hi).bind K:=by
 unfold xd eC;split
 ·simp only[cX,fo,FX,FN,Ge]
 ·simp only[cX,fo,FX,FN,Ge]
 ·simp only[cX,fo,FX,FN,Ge]
 ·split
  ·simp only[cX,fo,FX,FN,Ge]
  ·rfl
 ·split
  ·simp only[cX,fo,FX,FN,Ge]
  ·rfl
 ·rfl
theorem pz {α:Type} (P:Program) (T:TypeId) (h:az) (x:SV) (k:Int) (K:SV->Option α):lr P T h x k K=(bj P T h x k).bind K:=by
 unfold lr;split
 ·simp only[bj,cX,FX,FN,Ge]
 ·simp only[bj];grind
 ·simp only[bj];grind
 ·rfl
theorem gY {α:Type} (P:Program) (s:List (Nat× SV)) (h:az) (op:Op) (K:SV->Option α):gX P s h op K=(dH P s h op).bind K:=by
 unfold gX;split
 ·simp only[dH,sO,FX]
 ·simp only[dH,BF,FX]
 ·simp only[dH,xe,FX]
 ·simp only[dH,qK,mv,fo,FX,cX,FN,Ge]
 ·simp only[dH,pz,FX]
 ·simp only[dH,FX];grind
 ·rfl
structure CR where
 v:SV
 news:List Blk:=[]
 upd:az:=[]
 gone:List Nat:=[]
 fF:List Nat:=[]
def CR.kil (c:CR):Kil:=(c.gone,c.gone++c.fF)
abbrev Out:=SV× List Blk
abbrev Orc:=(ρ:Type)->Nat->List SV->az->(CR->Option ρ)->Option ρ
def CV:Orc:=λ_ _ _ _ _=>none
def aF:Nat->List Blk->az
 |_,[]=>[]
 |n,b::l=>(n,b)::aF (n+1) l
inductive Co where
 |xf (sh:Bool) (t:Ty)
 |ro (t:Ty)
 |drop
 |dep (j:Nat)
 |BG (t j:Nat)
inductive bY where
 |slot (t:Nat)
 |cell (t j:Nat)
 |box (i j:Nat)
 |EM (t j:Nat)
 |gh (k:Nat)
def coV (n:Nat) (h:az):Co->SV->SV× List Blk
 |.xf sh t,.cU=>(.own n,[.arr (cond sh (some []) none) t []])
 |.ro t,v=>match v.list h t with
  |some p=>(.r p.1 (.sl t p.2),[])
  |none=>(v,[])
 |.drop,_=>(.undef,[])
 |.dep j,.r d x=>(.r (cond (mem j d) d (d++[j])) x,[])
 |_,v=>(v,[])
def z7 (st:St) (i j:Nat) (c:Co):St:=
 match look st.heap i with
 |some (.box cs)=>match cs[j]? with
  |some v=>{st with heap:=put (st.heap++aF st.nid (coV st.nid st.heap c v).2) i (.box (cs.set j (coV st.nid st.heap c v).1)),nid:=st.nid+(coV st.nid st.heap c v).2.length}
  |none=>st
 |_=>st
def qL (st:St):bY× Co->St
  | (.slot t, c) => match look st.aS t with
    |some v=>{st with aS:=put st.aS t (coV st.nid st.heap c v).1,heap:=st.heap++aF st.nid (coV st.nid st.heap c v).2,nid:=st.nid+(coV st.nid st.heap c v).2.length}
    |none=>st
  | (.cell t j, c) => match look st.aS t with
    | some (.agg cs) => match cs[j]? with
      |some v=>{st with aS:=put st.aS t (.agg (cs.set j (coV st.nid st.heap c v).1)),heap:=st.heap++aF st.nid (coV st.nid st.heap c v).2,nid:=st.nid+(coV st.nid st.heap c v).2.length}
      |none=>st
    |_=>st
  |(.box i j,c)=>z7 st i j c
  | (.EM t j, c) => match look st.aS t with
    |some (.ptr i _ _)=>z7 st i j c
    |_=>st
  |(.gh k,_)=>{st with gh:=st.gh.set k none}
def D8 (st:St):Co->Co
 |.BG t j=>match look st.aS t with
  |some (.ptr i _ _)=>match look st.heap i with
   |some (.box cs)=>match cs[j]? with
    |some (.own k)=>.dep k
    |_=>.dep 0
   |_=>.dep 0
  |_=>.dep 0
 |c=>c
def CW (st:St) (x:bY× Co):St:=qL st (x.1,D8 st x.2)
def xg:List (bY× Co)->St->St
 |[],st=>st
 |x::l,st=>xg l (CW st x)
structure Env where
 P:Program
 tt:TT
 orc:FuncId->Orc
 wr:FuncId->Bool:=λ_=>false
 wt:Bool:=false
 inn:Bool:=false
 fz:Nat->List (Bool× Nat× List Nat):=λ_=>[]
 wk:Nat->List (bY× Co):=λ_=>[]
 lit:Bool:=false
 tak:Bool:=false
 tkt:List Nat:=[]
 swp:Bool:=false
def jR:az->az->az
 |[],h=>h
 |(k,b)::l,h=>jR l (put h k b)
def CX (s:List (Nat× SV)) (n:Nat) (dst:Option Tmp) (v:SV):Option (List (Nat× SV)):=
 match dst with
 |some t=>cond (Nat.ble (t+1) n) (some (put s t v)) none
 |none=>some s
def St.take (st:St) (dst:Option Tmp) (c:CR):Option St:=
  (ec c.kil (jR c.upd st.heap)).bind λh=>(CX (gW c.kil st.aS) st.n dst c.v).bind λs=>
    some {st with aS:=s,heap:=h++aF st.nid c.news,nid:=st.nid+c.news.length}
def setCells (cs:List SV) (o:Nat) (vs:List SV):Option (List SV):=
 cond (Nat.ble (o+vs.length) cs.length) (some (cs.take o++vs++cs.drop (o+vs.length))) none
def iT:Ty->Bool
 |.sl _=>false
 |.ho _|.hl _=>false
 |.st .shape|.st .wish|.st .mH|.st .ea=>true
 |.st _=>false
 |_=>true
def isNil {α:Type}:List α->Bool
 |[]=>true
 |_=>false
def vE (h:az) (t:Ty):Nat->List SV->Option (List Nat× List t.El)
 |0,_=>some ([],[])
 |n+1,cs=>(DQ h t (cs.take t.sz)).bind λp=>(vE h t n (cs.drop t.sz)).bind λq=>some (p.1++q.1,p.2::q.2)
def SV.wQ (h:az) (t:Ty) (v:SV):Option (List Nat× R):=
 match t with
 |.sl t'=>match v with
  |.cU=>some ([],.sl t' [])
  |.own i=>match look h i with
   |some (.arr none t1 xs)=>if e:t1=t' then some ([i],.sl t' (e▸xs))else none
   |_=>none
  |_=>none
 |.st _=>none
 |.tok=>match v with
  |.r _ (.tok n)=>some ([],.tok n)
  |.cU=>some ([],.tok 0)
  |_=>none
 |_=>match v with
  |.r _ (.int k n)=>some ([],.int k n)
  |.r _ (.bool b)=>some ([],.bool b)
  |.r _ (.str l)=>some ([],.str l)
  |_=>none
def sP (h:az):List Ty->List SV->Option (List Nat× List R)
 |[],[]=>some ([],[])
 |t::ts,v::vs=>(v.wQ h t).bind λp=>(sP h ts vs).bind λq=>some (p.1++q.1,p.2::q.2)
 |_,_=>none
def ek (h:az) (t:Ty):Nat->List SV->Option (List Nat× List t.El)
 |0,_=>some ([],[])
 |n+1,cs=>(sP h t.tys (cs.take t.sz)).bind λp=>(t.dj p.2).bind λx=>(ek h t n (cs.drop t.sz)).bind λq=>some (p.1++q.1,x::q.2)
def iH:List Nat->Bool
 |[]=>true
 |i::l=>cond (mem i l) false (iH l)
def qM (h:az):List SV->Option Bool
 |[]=>some true
 |.own i::l=>(look h i).bind λb=>match b with
  |.arr none _ _=>qM h l
  |.arr (some _) _ _=>some false
  |.box _=>none
 |.r _ (.sl _ _)::_=>some false
 |.sub _ _ _::_=>some false
 |.bsl _ _::_=>some false
 |_::l=>qM h l
def uz (h:az) (t:Ty) (n:Nat) (cs:List SV):Option (Option (List Nat)× List Nat× List t.El):=
 (qM h cs).bind λb=>cond b ((ek h t n cs).bind λq=>cond (iH q.1) (some (none,q.1,q.2)) none) ((vE h t n cs).bind λq=>some (some q.1,[],q.2))
def iI (h:az):SV->List Nat->List Nat
 |.own i,d=>match look h i with
  |some (.arr (some d') _ _)=>d'
  |_=>d
 |_,d=>d
def j1 (h:az) (t:Ty) (v:SV):Option (Option (List Nat)× List Nat× List t.El):=
 match v with
 |.bsl i n=>match look h i with
  |some (.box cs)=>(uz h t n cs).bind λq=>some (q.1,i::q.2.1,q.2.2)
  |_=>none
 |_=>(v.list h t).bind λp=>cond (iT t) (some (none,[],p.2)) (some (some (iI h v p.1),[],p.2))
def uA (a b:Option (List Nat)):Option (Option (List Nat)):=
 match a,b with
 |none,none=>some none
 |some d,some d'=>some (some (d++d'))
 |some d,none=>some (some d)
 |none,some d=>some (some d)
def iW (P:Program) (T:TypeId):Bool:=
 match P.info? T with
 |some i=>Nat.ble i.bytes 512
 |none=>false
def CY (E:Env) (s:List (Nat× SV)) (h:az) (T:TypeId) (a:Operand):Option SV:=
 cond E.inn (cond (uy E.P T) (match opd s a with
  |some (.ptr i x o)=>match look h i with
   |some (.arr none t _)=>cond (Nat.ble (o+1) t.sz) (some (.inn i x o)) none
   |_=>none
  |_=>none) none) none
def kA {α:Type} (xs:List α) (x:Nat):List (Option α):=(xs.map some).set x none
def iJ {α:Type}:List (Option α)->Option (List α)
 |[]=>some []
 |none::_=>none
 |some x::l=>(iJ l).bind λl=>some (x::l)
def kB (n:Nat):List R->List SV
 |[]=>[]
 |.sl _ _::l=>.own n::kB (n+1) l
 |r::l=>.r [] r::kB n l
def fP:List R->List Blk
 |[]=>[]
 |.sl t ys::l=>.arr none t ys::fP l
 |_::l=>fP l
def CZ (P:Program) (s:List (Nat× SV)) (h:az) (src dst:TypeId) (x:Operand):Option Nat:=
 cond (Nat.beq src dst&&l8 P src) (match opd s x with
  |some (.own i)=>match look h i with
   |some (.arr _ _ (_::_))=>some i
   |_=>none
  |_=>none) none
def sQ (h:az):SV->Option (Nat× Nat× Nat)
 |.sub i o n=>some (i,o,n)
 |.own i=>match look h i with
  |some (.arr _ _ xs)=>some (i,0,xs.length)
  |_=>none
 |_=>none
variable {ρ:Type}
def mx (P:Program) (T:TypeId) (h:az) (i:Nat) (sh:Option (List Nat)) (t:Ty) (ys:List t.El) (k o:Nat) (x:SV) (K:CR->Option ρ):Option ρ:=
 x.cells.bind λxs=>(ed P T).bind λsz=>cond (Nat.beq sz xs.length&&Nat.ble (o+sz) t.sz) (
  match sh with
  |none=>(sP h ((t.tys.drop o).take sz) xs).bind λp=>cond (iH (i::p.1)) (
    cond (Nat.beq sz t.sz)
     ((t.dj p.2).bind λy=>K {v:=.undef,upd:=[(i,.arr none t (ys.set k y))],gone:=p.1,fF:=[i]})
     ((ys[k]?).bind λe=>(t.dj ((t.cells e).take o++p.2++(t.cells e).drop (o+sz))).bind λy=>K {v:=.undef,upd:=[(i,.arr none t (ys.set k y))],gone:=p.1,fF:=[i]})) none
  |some d=>(wO h ((t.tys.drop o).take sz) xs).bind λp=>cond (mem i p.1) none (
    cond (Nat.beq sz t.sz)
     ((t.dj p.2).bind λy=>K {v:=.undef,upd:=[(i,.arr (some (d++p.1)) t (ys.set k y))],fF:=[i]})
     ((ys[k]?).bind λe=>(t.dj ((t.cells e).take o++p.2++(t.cells e).drop (o+sz))).bind λy=>K {v:=.undef,upd:=[(i,.arr (some (d++p.1)) t (ys.set k y))],fF:=[i]}))) none
def C0 (P:Program) (T:TypeId):Bool:=
 match P.underlying T with
 |some (.int _)=>true
 |_=>false
def EN (E:Env) (h:az) (nid n sz:Nat) (t:Ty) (cs:List SV) (K:CR->Option ρ):Option ρ:=
 cond (E.lit&&Nat.beq t.sz sz) (match ek h t n cs with
  |some ([],xs)=>K {v:=.own nid,news:=[.arr none t xs]}
  |_=>K {v:=.bsl nid n,news:=[.box cs]}) (K {v:=.bsl nid n,news:=[.box cs]})
def EO (E:Env) (nid:Nat) (t:Ty) (xs:List t.El) (K:CR->Option ρ):Option ρ:=
 cond (!isNil E.tkt&&!isNil xs) (K {v:=.r [] (.sl t xs)}) (K {v:=.own nid,news:=[.arr none t xs]})
def sR (E:Env) (h:az) (nid:Nat) (e:TypeId) (sz:Nat) (t:Ty) (T':TypeId) (b x:SV) (K:CR->Option ρ):Option ρ:=
 match b with
 |.cU=>cond (C0 E.P T'&&(iW E.P e&&Nat.beq t.sz sz)) (x.asI.bind λl=>(dk E.P e).bind λz=>(ek h t 1 z).bind λq=>cond (isNil q.1&&Nat.beq z.length sz) (match q.2 with
   |[y]=>cond (decide (1<=l/\l<=(fC:Int))) (K {v:=.own nid,news:=[.arr none t (List.replicate l.toNat y)]}) none
   |_=>none) none) none
 |_=>none
def sS (h:az) (t:Ty) (b x:SV) (K:CR->Option ρ):Option ρ:=
 match b,x with
 |.sub i 0 a,.sub i' o n=>cond (Nat.beq i i') (match look h i with
  |some (.arr (some d) t' xs)=>if he:t'=t then cond (mem i d) none (cond (Nat.ble (a+n) xs.length&&(Nat.ble (o+n) xs.length&&Nat.ble 1 xs.length))
    (K {v:=.sub i 0 (a+n),upd:=[(i,.arr (some d) t ((he▸xs).take a++((he▸xs).drop o).take n++(he▸xs).drop (a+n)))],fF:=[i]}) none)else none
  |_=>none) none
 |_,_=>none
def C3 (E:Env) (s:List (Nat× SV)) (h:az) (nid:Nat) (T:TypeId) (a:Operand) (K:CR->Option ρ) (D:Option ρ):Option ρ:=
 cond E.tak (match opd s a with
  |some (.ptr i x 0)=>match look h i with
   |some (.arr none (.st st) xs)=>cond (iT (.st st)) D ((xs[x]?).bind λe=>(eg E.P T (kB nid (st.cells e))).bind λv=>
     K {v:=v,news:=fP (st.cells e),upd:=[(i,.arr none (.ho st) (kA xs x))],fF:=[i]})
   |_=>D
  |_=>D) D
def taken (E:Env):Operand->Bool
 |.tmp t=>mem t E.tkt
 |_=>false
def C4 (E:Env) (s:List (Nat× SV)) (h:az) (nid:Nat) (T:TypeId) (a:Operand) (K:CR->Option ρ) (D:Option ρ):Option ρ:=
  cond (taken E a) (match opd s a with
    | some (.ptr i x 0) => match look h i with
      |some (.arr none (.sl t) xs)=>(xs[x]?).bind λe=>(eg E.P T (kB nid ((Ty.sl t).cells e))).bind λv=>
          K {v:=v,news:=fP ((Ty.sl t).cells e),upd:=[(i,.arr none (.hl t) (kA xs x))],fF:=[i]}
      |_=>none
    |_=>none) D
def pA (E:Env) (s:List (Nat× SV)) (h:az) (nid:Nat) (op:Op) (K:CR->Option ρ):Option ρ:=
  match op with
  |.alloc T=>(dk E.P T).bind λz=>K {v:=.ptr nid 0 0,news:=[.box z]}
  |.box _ x=>(opd s x).bind λv=>v.cells.bind λcs=>K {v:=.ptr nid 0 0,news:=[.box cs]}
  | .buildSlice T n parts =>
    (fD E.P T).bind λe=>(ed E.P e).bind λsz=>(iR s parts.toList).bind λps=>(dk E.P e).bind λz=>
      cond (Nat.ble (n*sz) 16777216&&Nat.beq z.length sz) ((iG (λi=>some (i*sz,sz)) (List.replicate (n*sz) .undef) ps).bind λcs=>
        match E.tt e with
        |none=>K {v:=.bsl nid n,news:=[.box cs]}
        |some t=>cond ((iT t||Nat.beq n 0)&&Nat.beq t.sz sz) ((ek h t n cs).bind λx=>cond (isNil x.1) (EO E nid t x.2 K) none) (EN E h nid n sz t cs K)) none
  | .makeSlice T l c =>
    (fD E.P T).bind λe=>(ed E.P e).bind λsz=>(E.tt e).bind λt=>(dk E.P e).bind λz=>(opd s l).bind λl=>(opd s c).bind λc=>l.asI.bind λl=>c.asI.bind λc=>
      cond (iW E.P e&&Nat.beq t.sz sz) ((ek h t 1 z).bind λx=>cond (isNil x.1&&Nat.beq z.length sz) (match x.2 with
        |[y]=>cond (decide (0<=l/\l<=c/\c<=(fC:Int))) (K {v:=.own nid,news:=[.arr none t (List.replicate l.toNat y)]}) none
        |_=>none) none) none
  | .call { callee := .builtin .append, args, argTypes } => (jZ s args.toList).bind λ vs => match vs, argTypes.toList with
    | [b, x], [T, T'] => (fD E.P T).bind λ e => (ed E.P e).bind λ sz => (E.tt e).bind λ t => cond (iW E.P e && (Nat.beq t.sz sz && Nat.beq T T')) ((dk E.P e).bind λ z => cond (Nat.beq z.length sz)
      ((j1 h t x).bind λy=>match b with
        |.cU=>cond (hit y.2.1 (y.1.getD [])) none (cond (Nat.ble y.2.2.length fC) (K {v:=.own nid,news:=[.arr y.1 t y.2.2],gone:=y.2.1}) none)
        | .own i => match look h i with
          | some (.arr sh t' xs) => if he : t' = t then
              (uA sh y.1).bind λsh'=>cond (mem i y.2.1) none (cond (hit (i::y.2.1) (sh'.getD [])) none (cond (Nat.ble (xs.length+y.2.2.length) fC) (K {v:=.own nid,news:=[.arr sh' t ((he▸xs)++y.2.2)],gone:=i::y.2.1}) none))
            else none
          |_=>none
        |b=>sS h t b x K) none) (sR E h nid e sz t T' b x K)
    |_,_=>none
  | .call { callee := .builtin .clear, args, argTypes } => (jZ s args.toList).bind λ vs => match vs, argTypes.toList with
    | [v], [T] => (fD E.P T).bind λ e => (dk E.P e).bind λ z => (sQ h v).bind λ p => match look h p.1 with
      | some (.arr sh t xs) => cond (Nat.beq z.length t.sz) ((ek h t 1 z).bind λ x => cond (isNil x.1) (match x.2 with
        |[y]=>K {v:=.undef,upd:=[(p.1,.arr sh t (xs.take p.2.1++List.replicate p.2.2 y++xs.drop (p.2.1+p.2.2)))],fF:=[p.1]}
        |_=>none) none) none
      |_=>none
    |_,_=>none
  | .store T a x => (opd s a).bind λ a => (opd s x).bind λ x => match a with
    | .ptr i k o => match look h i with
      |some (.box cs)=>cond (Nat.beq k 0) (x.cells.bind λxs=>(ed E.P T).bind λsz=>cond (Nat.beq sz xs.length) ((setCells cs o xs).bind λcs=>K {v:=.undef,upd:=[(i,.box cs)]}) none) none
      |some (.arr sh t ys)=>mx E.P T h i sh t ys k o x K
      |_=>none
    |_=>none
  | .call { callee := .value f, args, .. } => (opd s f).bind λ f => (jZ s args.toList).bind λ vs => match f with
    |.fn (.func g) first cap=>E.orc g ρ nid (first++vs++cap) h K
    |_=>none
  | .load T a => C4 E s h nid T a K (match CY E s h T a with
    |some v=>K {v:=v}
    |none=>C3 E s h nid T a K (gX E.P s h (.load T a) λv=>K {v:=v}))
  | .convert src dst x => match CZ E.P s h src dst x with
    |some i=>K {v:=.own i}
    |none=>gX E.P s h (.convert src dst x) λv=>K {v:=v}
  |op=>gX E.P s h op λv=>K {v:=v}
noncomputable def both (x y:Option ρ):Option ρ:=open Classical in if x=y then x else none
def uB:Op->Option (TypeId× Operand× Bool)
 |.binOp .eql T x (.const (.slice none 0 0)) _=>some (T,x,true)
 |.binOp .neq T x (.const (.slice none 0 0)) _=>some (T,x,false)
 |_=>none
noncomputable def D9 (h:az) (v:SV) (K:Bool->Option ρ):Option ρ:=
 match v with
 |.cU=>K true
 |.r _ (.sl _ xs)=>cond (isNil xs) (both (K true) (K false)) (K false)
 |.own i=>match look h i with
  |some (.arr _ _ xs)=>cond (isNil xs) (both (K true) (K false)) (K false)
  |_=>none
 |_=>none
noncomputable def CH (E:Env) (o:Oper) (st:St) (K:St->Option ρ):Option ρ:=
 match uB o.op with
 |some (T,x,e)=>cond (uy E.P T) ((opd st.aS x).bind λv=>D9 st.heap v λb=>(st.take o.dst {v:=.b (cond b e (!e))}).bind K) none
 |none=>pA E st.aS st.heap st.nid o.op λc=>(st.take o.dst c).bind K
def BH (ops:List Oper) (j:Nat):Option Tmp:=(ops[j]?).bind (·.dst)
def qN (o:Oper) (st:St) (K:St->Option ρ):Option ρ:=
 (CX st.aS st.n o.dst (.tup [])).bind λs=>K {st with aS:=s}
noncomputable def pB (E:Env) (all:List Oper):List Oper->St->(St->Option ρ)->Option ρ
  |[],st,K=>K st
  | o :: rest, st, K =>
    match o.guard with
    |none=>CH E o st λst=>pB E all rest st K
    | some (j, want) => (BH all j).bind λ t => (look st.aS t).bind λ v => match v with
      |.tup []=>qN o st λst=>pB E all rest st K
      | v => v.asB.bind λ b =>
        cond b
          (cond want (CH E o {st with aS:=put st.aS t (.b true)} λst=>pB E all rest st K)
            (qN o {st with aS:=put st.aS t (.b true)} λst=>pB E all rest st K))
          (cond want (qN o {st with aS:=put st.aS t (.b false)} λst=>pB E all rest st K)
            (CH E o {st with aS:=put st.aS t (.b false)} λst=>pB E all rest st K))
def after (H:az) (nid:Nat) (c:CR):Option az:=
 (ec c.kil (jR c.upd H)).bind λh=>some (h++aF nid c.news)
structure DR where
 dst:Option Tmp
 n0:Nat
 c:CR
 see:List Nat
 z8:List SV:=[]
 len:Bool:=false
abbrev SH:=List (Nat× SV)× az
def uC (s:List (Nat× SV)) (dst:Option Tmp) (v:SV):List (Nat× SV):=
 match dst with
 |some t=>put s t v
 |none=>s
def vF:az->Nat->Blk->az
 |[],_,_=>[]
 |(k,u)::l,n,b=>cond (Nat.beq k n) ((k,b)::l) ((k,u)::vF l n b)
def eD:az->az->az
 |[],h=>h
 |(k,b)::l,h=>eD l (vF h k b)
def DR.app (r:DR) (x:SH):Option SH:=
 (ec r.c.kil (eD r.c.upd x.2)).bind λh=>some (uC (gW r.c.kil x.1) r.dst r.c.v,h++aF r.n0 r.c.news)
def replay (p:Nat->Bool):Nat->List DR->SH->Option SH
 |_,[],x=>some x
 |j,r::l,x=>cond (p j) ((r.app x).bind λx=>replay p (j+1) l x) (replay p (j+1) l x)
def lu (n:Nat):List Edge->Bool
 |[]=>true
 |e::l=>cond (Region.binds .any e) (cond (Nat.ble (e.on+1) n) (lu n l) false) (lu n l)
def qO (ax:List Nat):List Edge->Nat
 |[]=>0
 |e::l=>cond (Region.binds .any e) ((ax.getD e.on 0||| 2^e.on)||| qO ax l) (qO ax l)
def mM:List Nat->List Oper->Option (List Nat)
 |acc,[]=>some acc
 |acc,o::l=>cond (lu acc.length o.after.toList) (mM (acc++[qO acc o.after.toList]) l) none
def eB:List Oper->List Nat
 |[]=>[]
 |o::l=>match o.dst with
  |some t=>t::eB l
  |none=>eB l
def z9 (ax:List Nat) (i:Nat):Nat->List Oper->List Nat
 |_,[]=>[]
 |j,o::l=>cond ((ax.getD j 0).testBit i) (z9 ax i (j+1) l) (match o.dst with
  |some t=>t::z9 ax i (j+1) l
  |none=>z9 ax i (j+1) l)
def vG (n:Nat):List Nat->Bool
 |[]=>true
 |i::l=>cond (Nat.ble (i+1) n) (vG n l) false
def cN:List Operand->List Nat
 |[]=>[]
 |.tmp t::l=>t::cN l
 |_::l=>cN l
def gC (T:List Nat) (s:List (Nat× SV)):List Nat->List (Nat× SV)
 |[]=>[]
 |t::l=>cond (mem t T) (gC T s l) (match look s t with
  |some v=>(t,v)::gC T s l
  |none=>gC T s l)
def fS (E:Env):Op->Bool
 |.store _ _ _=>true
 |.load _ _=>E.tak
 |.call {callee:=.builtin .len,.. }|.call {callee:=.builtin .cap,.. }|.call {callee:=.builtin .min,.. }|.call {callee:=.builtin .max,.. }=>false
 |.call {callee:=.builtin _,.. }=>true
 |.call {callee:=.value (.func g),.. }=>E.wr g
 |.call {callee:=.value _,.. }=>E.wt
 |.call _=>false
 |_=>false
def C5 (ax:List Nat) (i j:Nat):Bool:=Nat.beq i j||((ax.getD i 0).testBit j||(ax.getD j 0).testBit i)
def l9 (E:Env) (ax:List Nat) (i:Nat):Nat->List Oper->Bool
 |_,[]=>false
 |j,o::l=>cond (fS E o.op) (cond (C5 ax i j) (l9 E ax i (j+1) l) true) (l9 E ax i (j+1) l)
def pC (s:List (Nat× SV)):List Nat->List SV
 |[]=>[]
 |t::l=>match look s t with
  |some v=>v::pC s l
  |none=>pC s l
def ma (h:az):List Nat->az
 |[]=>[]
 |i::l=>match look h i with
  |some b=>(i,b)::ma h l
  |none=>ma h l
def BI:Op->Bool
 |.move _=>true
 |.assign _=>true
 |.extract _ _=>true
 |.nilCheck _=>true
 |.fieldAddr _ _ _=>true
 |_=>false
def C6:Op->Bool
 |.load _ _=>true
 |_=>false
def Ea (E:Env) (ax:List Nat) (i:Nat) (ops:List Oper) (x:SH) (o:Oper):List Nat:=
 cond (l9 E ax i 0 ops&&!BI o.op) (reach x.2 (cond (C6 o.op) 0 3) (iQ [] (wP (pC x.1 (cN o.op.operands.toList))))) []
def vH (E:Env) (ax:List Nat) (i:Nat) (ops:List Oper) (x:SH) (o:Oper):az:=
 cond (l9 E ax i 0 ops) (ma x.2 (Ea E ax i ops x o)) x.2
def Aa (L:List Nat):az->Bool
 |[]=>false
 |(k,_)::l=>cond (mem k L) true (Aa L l)
def okW (E:Env) (op:Op) (c:CR):Bool:=cond (fS E op) true (isNil c.kil.2&&isNil c.upd)
mutual
def SV.wR (T:Kil):SV->Bool
 |.r d _=>!hit T.2 d
 |.own i=>!mem i T.1
 |.sub i _ _=>!mem i T.1
 |.bsl i _=>!mem i T.1
 |.ptr i _ _=>!mem i T.1
 |.inn i _ _=>!(mem i T.1||mem i T.2)
 |.fb d _=>!hit T.2 d
 |.agg cs=>mN T cs
 |.tup cs=>mN T cs
 |.fn _ a b=>mN T a&&mN T b
 |.cU=>true
 |.iP=>true
 |.undef=>true
def mN (T:Kil):List SV->Bool
 |[]=>true
 |v::l=>v.wR T&&mN T l
end
def Blk.wR (T:Kil):Blk->Bool
 |.box cs=>mN T cs
 |.arr (some d) _ _=>!hit T.2 d
 |.arr none _ _=>true
def xh (k:Nat) (B:Blk):List DR->Bool
 |[]=>true
 |r::l=>cond ((look r.c.upd k).isNone&&(!mem k r.c.kil.1&&B.wR r.c.kil)) (xh k B l) false
def DT (h:az) (rs:List DR):List Nat->Bool
 |[]=>true
 |k::l=>match look h k with
  |some B=>cond (xh k B rs) (DT h rs l) false
  |none=>false
def dm (cm:DR->Bool) (r:DR):Bool:=isNil r.c.kil.2&&(isNil r.c.upd&&(isNil r.c.news&&cm r))
def vI (b a:DR):Bool:=a.c.v.wR b.c.kil&&mN b.c.kil a.z8
def C7 (b:DR):az->Bool
 |[]=>true
 |(k,_)::l=>cond (Nat.ble (k+1) b.n0||Nat.ble (b.n0+b.c.news.length) k) (C7 b l) false
def sT (a b:DR):Bool:=(isNil a.c.kil.2&&isNil b.c.kil.2)&&((isNil b.c.upd&&C7 b a.c.upd)||(isNil a.c.upd&&C7 a b.c.upd))&&(!(Aa b.see a.c.upd)&&!(Aa a.see b.c.upd))
def jN (cm:DR->Bool) (a b:DR):Bool:=sT a b||((vI b a&&dm cm a)||(vI a b&&dm cm b))
def mO (cm:DR->Bool) (ax:List Nat) (i:Nat) (r:DR):Nat->List DR->Bool
 |_,[]=>true
 |j,b::l=>cond ((ax.getD j 0).testBit i) (mO cm ax i r (j+1) l) (cond (jN cm r b) (mO cm ax i r (j+1) l) false)
def oq (cm:DR->Bool) (ax:List Nat):Nat->List DR->Bool
 |_,[]=>true
 |i,r::l=>cond (mO cm ax i r (i+1) l) (oq cm ax (i+1) l) false
def BJ:List DR->Nat->SV->List DR
 |[],_,_=>[]
 |r::l,0,v=>{r with c:={r.c with v:=v}}::l
 |r::l,n+1,v=>r::BJ l n v
def C8:Op->Bool
 |.indexAddr _ _ _=>true
 |_=>false
def C9 (h:az):List Nat->Bool
 |[]=>true
 |i::l=>cond (look h i).isSome (C9 h l) false
def qP (x:SH) (o:Oper):List Nat:=iQ [] (wP (pC x.1 (cN o.op.operands.toList)))
def xi (E:Env) (h0:az) (x:SH) (o:Oper):Bool:=E.swp&&(C8 o.op&&C9 h0 (qP x o))
def xj (E:Env) (ax:List Nat) (i:Nat) (ops:List Oper) (h0:az) (x:SH) (o:Oper):az:=cond (xi E h0 x o) (ma h0 (qP x o)) (vH E ax i ops x o)
def DU (E:Env) (ax:List Nat) (i:Nat) (ops:List Oper) (h0:az) (x:SH) (o:Oper):List Nat:=cond (xi E h0 x o) (qP x o) (Ea E ax i ops x o)
def BK (E:Env) (ax:List Nat) (i:Nat) (ops:List Oper) (h0:az) (x:SH) (o:Oper) (nid:Nat) (c:CR):DR:=⟨o.dst,nid,c,DU E ax i ops h0 x o,pC x.1 (cN o.op.operands.toList),xi E h0 x o⟩
def iK (E:Env) (ops:List Oper) (ax dsts:List Nat) (s0:List (Nat× SV)) (h0:az):Nat->List Oper->Nat->List DR->(List DR->Nat->Option ρ)->Option ρ
  |_,[],nid,rs,K=>K rs nid
  | i, o :: rest, nid, rs, K =>
    (replay (Nat.testBit (ax.getD i 0)) 0 rs (gC (z9 ax i 0 ops) s0 (cN o.op.operands.toList),h0)).bind λx=>
    match o.guard with
    |none=>pA E (gC [] x.1 (cN o.op.operands.toList)) (xj E ax i ops h0 x o) nid o.op λc=>cond (okW E o.op c) (iK E ops ax dsts s0 h0 (i+1) rest (nid+c.news.length) (rs++[BK E ax i ops h0 x o nid c]) K) none
    | some (g, want) => cond (Nat.testBit (ax.getD i 0) g) ((rs[g]?).bind λ r => r.dst.bind λ _ => match r.c.v with
      |.tup []=>iK E ops ax dsts s0 h0 (i+1) rest nid (rs++[⟨o.dst,nid,{v:=.tup []},[],[],false⟩]) K
      | .r [] (.bool b) => cond b
        (cond want
          (pA E (gC [] x.1 (cN o.op.operands.toList)) (xj E ax i ops h0 x o) nid o.op λc=>cond (okW E o.op c) (iK E ops ax dsts s0 h0 (i+1) rest (nid+c.news.length) (BJ rs g (.b true)++[BK E ax i ops h0 x o nid c]) K) none)
          (iK E ops ax dsts s0 h0 (i+1) rest nid (BJ rs g (.b true)++[⟨o.dst,nid,{v:=.tup []},[],[],false⟩]) K))
        (cond want
          (iK E ops ax dsts s0 h0 (i+1) rest nid (BJ rs g (.b false)++[⟨o.dst,nid,{v:=.tup []},[],[],false⟩]) K)
          (pA E (gC [] x.1 (cN o.op.operands.toList)) (xj E ax i ops h0 x o) nid o.op λc=>cond (okW E o.op c) (iK E ops ax dsts s0 h0 (i+1) rest (nid+c.news.length) (BJ rs g (.b false)++[BK E ax i ops h0 x o nid c]) K) none))
      |_=>none) none
def mP:List Nat->List Nat->Bool
 |[],_=>true
 |i::l,T=>cond (mem i T) false (mP l T)
def pD (L:List Nat):List DR->Bool
 |[]=>true
 |r::l=>cond (mP L r.c.kil.1) (pD L l) false
def nN (h:az) (rs:List DR) (r:DR):Bool:=cond r.len (pD r.see rs) (DT h rs r.see)
def ot (cm:DR->Bool):List DR->Bool
 |[]=>true
 |r::l=>cond (!r.len||dm cm r) (ot cm l) false
def sX (E:Env) (ops:List Oper) (st:St) (K:St->Option ρ):Option ρ:=
  cond (E.P.follows .mixedOrders) ((mM [] ops).bind λax=>
    cond (iH (eB ops)) (cond (vG st.n (eB ops))
      (iK E ops ax (eB ops) st.aS st.heap 0 ops st.nid [] λrs nid=>cond (oq (nN st.heap rs) ax 0 rs&&ot (nN st.heap rs) rs)
        ((replay (λ_=>true) 0 rs (st.aS,st.heap)).bind λx=>K {st with aS:=x.1,heap:=x.2,nid:=nid}) none) none) none) none
inductive Ex where
 |normal
 |exit (id:Nat)
 |ret
def refine(c:Operand) (b:Bool) (st:St):St:=
 match c with
 |.tmp t=>{st with aS:=put st.aS t (.b b)}
 |_=>st
abbrev Ev (ρ:Type):=St->(Ex->St->Option ρ)->Option ρ
def inBlock (id:Nat) (K:Ex->St->Option ρ):Ex->St->Option ρ
 |.exit j,st=>cond (Nat.beq j id) (K .normal st) (K (.exit j) st)
 |e,st=>K e st
def zP (i:Nat):List Nat->List Nat
 |[]=>[]
 |k::l=>cond (Nat.beq k i) (zP i l) (k::zP i l)
def uD (i:Nat) (t:Ty) (h:az) (v:SV):SV:=
 match v.list h t with
 |some p=>.r (zP i p.1) (.sl t p.2)
 |none=>.undef
mutual
def SV.frz (i:Nat) (t:Ty) (h:az):SV->SV
 |.r d x=>.r (zP i d) x
 |.own j=>cond (Nat.beq j i) (uD i t h (.own j)) (.own j)
 |.sub j o n=>cond (Nat.beq j i) (uD i t h (.sub j o n)) (.sub j o n)
 |.bsl j n=>cond (Nat.beq j i) .undef (.bsl j n)
 |.ptr j x o=>cond (Nat.beq j i) .undef (.ptr j x o)
 |.inn j x c=>cond (Nat.beq j i) .undef (.inn j x c)
 |.fb d cs=>.fb (zP i d) cs
 |.agg cs=>.agg (qB i t h cs)
 |.tup cs=>.tup (qB i t h cs)
 |.fn f a b=>.fn f (qB i t h a) (qB i t h b)
 |.cU=>.cU
 |.iP=>.iP
 |.undef=>.undef
def qB (i:Nat) (t:Ty) (h:az):List SV->List SV
 |[]=>[]
 |v::l=>v.frz i t h::qB i t h l
end
def Blk.frz (i:Nat) (t:Ty) (h:az):Blk->Blk
 |.box cs=>.box (qB i t h cs)
 |.arr none t' xs=>.arr none t' xs
 |.arr (some d) t' xs=>.arr (some (zP i d)) t' xs
def sY (i:Nat) (t:Ty) (h:az):az->az
 |[]=>[]
 |(k,b)::l=>cond (Nat.beq k i) (sY i t h l) ((k,b.frz i t h)::sY i t h l)
def vJ (i:Nat) (t:Ty) (h:az):List (Nat× SV)->List (Nat× SV)
 |[]=>[]
 |(k,v)::l=>(k,v.frz i t h)::vJ i t h l
def Eb (i:Nat) (st:St):St:=
 match look st.heap i with
 |some (.arr _ t _)=>{st with aS:=vJ i t st.heap st.aS,heap:=sY i t st.heap st.heap}
 |_=>st
def Da (h:az):SV->List Nat->Option Nat
 |.own i,[]=>some i
 |.sub i _ _,[]=>some i
 |.agg cs,j::p=>match cs[j]? with
  |some v=>Da h v p
  |none=>none
 |.tup cs,j::p=>match cs[j]? with
  |some v=>Da h v p
  |none=>none
 |.ptr i 0 o,j::p=>match look h i with
  |some (.box cs)=>match cs[o+j]? with
   |some v=>Da h v p
   |none=>none
  |_=>none
 |.bsl i _,j::p=>match look h i with
  |some (.box cs)=>match cs[j]? with
   |some v=>Da h v p
   |none=>none
  |_=>none
 |_,_=>none
termination_by structural _ p=>p
def Ec (i:Nat) (st:St):St:=
 match look st.heap i with
 |some (.arr none t xs)=>{st with heap:=put st.heap i (.arr (some []) t xs)}
 |_=>st
def Be (st:St) (x:Bool× Nat× List Nat):St:=
 match look st.aS x.2.1 with
 |some v=>match Da st.heap v x.2.2 with
  |some i=>cond x.1 (Ec i st) (Eb i st)
  |none=>st
 |none=>st
def uE:List (Bool× Nat× List Nat)->St->St
 |[],st=>st
 |x::l,st=>uE l (Be st x)
def Blk.xk (b:Blk) (K:Blk->Option ρ):Option ρ:=
 match b with
 |.arr none (.ho s) zs=>(iJ zs).bind λxs=>K (.arr none (.st s) xs)
 |.arr none (.hl t) zs=>(iJ zs).bind λxs=>K (.arr none (.sl t) xs)
 |b=>K b
def xl:az->(az->Option ρ)->Option ρ
 |[],K=>K []
 |(k,b)::l,K=>b.xk λb=>xl l λl=>K ((k,b)::l)
def uF (E:Env) (K:St->Option ρ) (st:St):Option ρ:=cond E.tak (xl st.heap λh=>K {st with heap:=h}) (K st)
noncomputable def ev (E:Env) (LP:Nat->Ev ρ->Ev ρ) (cb:Nat):Code->Ev ρ
 |.skip,st,K=>K .normal st
 |.label _,st,K=>K .normal st
 |.region id ops false,st,K=>pB E ops.toList ops.toList (xg (E.wk id) (uE (E.fz id) st)) (uF E (K .normal))
 |.region id ops true,st,K=>sX E ops.toList (xg (E.wk id) (uE (E.fz id) st)) (uF E (K .normal))
 |.seq a b,st,K=>ev E LP cb a st λe st=>match e with
  |.normal=>ev E LP cb b st K
  |e=>K e st
 |.cond c t f,st,K=>(opd st.aS c).bind λv=>v.asB.bind λb=>cond b (ev E LP cb t (refine c true st) K) (ev E LP cb f (refine c false st) K)
 |.block id c,st,K=>ev E LP id c st (inBlock id K)
 |.loop c,st,K=>LP cb (λst K=>ev E LP cb c st K) st K
 |.exit id,st,K=>K (.exit id) st
 |.scope c,st,K=>ev E LP cb c st K
 |.ret,st,K=>K .ret st
 |_,_,_=>none
end
section
def Ext {α:Type} (s s':List (Nat× α)):Prop:=∀t v,look s t=some v->look s' t=some v
theorem Ext.rfl' {α:Type} {s:List (Nat× α)}:Ext s s:=λ_ _ h=>h
def Le {α:Type} (x y:Option α):Prop:=∀a,x=some a->y=some a
theorem Le.refl {α:Type} (x:Option α):Le x x:=λ_ h=>h
theorem Le.bind {α β:Type} {x y:Option α} {f g:α->Option β} (h:Le x y) (hf:∀a,Le (f a) (g a)):Le (x.bind f) (y.bind g):=by
 intro b hb;rw[An]at hb⊢;obtain⟨a,h1,h2⟩:=hb;exact⟨a,h a h1,hf a b h2⟩
theorem Le.cond {α:Type} {b:Bool} {x y x' y':Option α} (h:Le x x') (h':Le y y'):Le (cond b x y) (cond b x' y'):=by cases b<;>assumption
theorem Le.none {α:Type} {y:Option α}:Le Option.none y:=λ_ h=>nomatch h
section
variable {s s':List (Nat× SV)} {h h':az} {P:Program}
theorem BL (hh:Ext h h') (i:Nat):Le (look h i) (look h' i):=λ_=>hh i _
theorem bK (hs:Ext s s') (x:Operand):Le (opd s x) (opd s' x):=by
 cases x with
 |tmp t=>exactλv hv=>hs t v hv
 |_=>exact Le.refl _
theorem eE (hs:Ext s s'):(l:List Operand)->Le (jZ s l) (jZ s' l)
 |[]=>Le.refl _
 |x::l=>(bK hs x).bind λ_=>(eE hs l).bind λ_=>Le.refl _
theorem sZ (hs:Ext s s') (x:Option Operand):Le (zO s x) (zO s' x):=by
 cases x with
 |none=>exact Le.refl _
 |some x=>exact(bK hs x).bind λ_=>Le.refl _
theorem gD (hs:Ext s s'):(l:List (Nat× Operand))->Le (iR s l) (iR s' l)
 |[]=>Le.refl _
 |(_,x)::l=>(bK hs x).bind λ_=>(gD hs l).bind λ_=>Le.refl _
theorem vK (hh:Ext h h') (v:SV):Le (fE h v) (fE h' v):=by
 cases v<;>try exact Le.refl _
 rename_i i x o;intro cs hcs;simp only[fE]at hcs⊢
 cases hl:look h i with
 |none=>rw[hl]at hcs;exact nomatch hcs
 |some B=>rw[hl]at hcs;rw[hh i B hl];exact hcs
theorem Ab (hh:Ext h h') (v:SV):Le (lenOf h v) (lenOf h' v):=by
 intro n hn
 cases v with
 |own i=>
  simp only[lenOf]at hn⊢
  cases hl:look h i with
  |none=>rw[hl]at hn;exact nomatch hn
  |some B=>rw[hl]at hn;rw[hh i B hl];exact hn
 |r d x=>cases x<;>exact hn
 |_=>exact hn
theorem vL (hh:Ext h h') (T:TypeId) (v:SV) (lo hi:Option SV):Le (eC P T h v lo hi) (eC P T h' v lo hi):=by
 intro cs hcs
 cases v with
 |own i=>
  simp only[eC]at hcs⊢
  cases hl:look h i with
  |none=>rw[hl]at hcs;exact nomatch hcs
  |some B=>rw[hl]at hcs;rw[hh i B hl];exact hcs
 |sub i o n=>
  simp only[eC]at hcs⊢
  cases hl:look h i with
  |none=>rw[hl]at hcs;exact nomatch hcs
  |some B=>rw[hl]at hcs;rw[hh i B hl];exact hcs
 |r d x=>cases x<;>exact hcs
 |_=>exact hcs
theorem nQ (hh:Ext h h') (T:TypeId) (v:SV) (k:Int):Le (bj P T h v k) (bj P T h' v k):=by
 intro cs hcs
 cases v with
 |own i=>
  simp only[bj]at hcs⊢
  cases hl:look h i with
  |none=>rw[hl]at hcs;exact nomatch hcs
  |some B=>rw[hl]at hcs;rw[hh i B hl];exact hcs
 |sub i o n=>
  simp only[bj]at hcs⊢
  cases hl:look h i with
  |none=>rw[hl]at hcs;exact nomatch hcs
  |some B=>rw[hl]at hcs;rw[hh i B hl];exact hcs
 |r d x=>cases x<;>exact hcs
 |_=>exact hcs
theorem s6 (hh:Ext h h') (t:Ty) (v:SV):Le (v.list h t) (v.list h' t):=by
 intro p hp
 cases v<;>try exact hp
 all_goals
  simp only[SV.list]at hp⊢;split at hp
  ·rename_i hl;rw[hh _ _ hl];exact hp
  ·exact nomatch hp
theorem Db (hh:Ext h h') (T:TypeId) (x:SV):Le (slN P T h x) (slN P T h' x):=by
 intro n hn
 cases x with
 |own i=>
  simp only[slN]at hn⊢
  cases hl:look h i with
  |none=>rw[hl]at hn;exact nomatch hn
  |some B=>rw[hl]at hn;rw[hh i B hl];exact hn
 |r d x=>cases x<;>exact hn
 |_=>exact hn
theorem lx (hs:Ext s s') (hh:Ext h h') (op:Op):Le (dH P s h op) (dH P s' h' op):=by
 intro v hv;unfold dH at hv;split at hv<;>simp only[dH]
 ·exact bK hs _ v hv
 ·exact bK hs _ v hv
 ·revert hv;exact((bK hs _).bind λc=>(Le.refl _).bind λb=>Le.cond (bK hs _) (bK hs _)) v
 ·revert hv
  split
  ·exact((Le.refl _).bind λ_=>(Le.refl _).bind λ_=>(gD hs _).bind λ_=>Le.refl _) v
  ·exactλh=>nomatch h
 ·exact((bK hs _).bind λa=>(vK hh a).bind λ_=>Le.refl _) v hv
 ·exact((bK hs _).bind λa=>Le.refl _) v hv
 ·exact((bK hs _).bind λa=>(bK hs _).bind λ_=>Le.refl _) v hv
 ·exact((bK hs _).bind λa=>Le.refl _) v hv
 ·exact((bK hs _).bind λa=>Le.cond ((s6 hh _ _).bind λ_=>Le.refl _) (Le.refl _)) v hv
 ·exact((eE hs _).bind λa=>(eE hs _).bind λ_=>Le.refl _) v hv
 ·exact((bK hs _).bind λa=>(sZ hs _).bind λ_=>(sZ hs _).bind λ_=>vL hh _ _ _ _) v hv
 ·exact((bK hs _).bind λa=>(sZ hs _).bind λ_=>(bK hs _).bind λ_=>(bK hs _).bind λ_=>(Db hh _ _).bind λ_=>Le.refl _) v hv
 ·exact((bK hs _).bind λa=>Le.refl _) v hv
 ·exact((bK hs _).bind λa=>Le.refl _) v hv
 ·exact((bK hs _).bind λa=>(bK hs _).bind λ_=>(Le.refl _).bind λ_=>nQ hh _ _ _) v hv
 ·exact((bK hs _).bind λa=>(bK hs _).bind λ_=>Le.refl _) v hv
 ·exact((bK hs _).bind λa=>Le.refl _) v hv
 ·refine((eE hs _).bind λvs=>?_) v hv;split
  ·exact Le.cond ((Ab hh _).bind λ_=>Le.refl _) (Le.refl _)
  ·exact Le.refl _
 ·exact((eE hs _).bind λa=>Le.refl _) v hv
 ·exact((eE hs _).bind λa=>Le.refl _) v hv
 ·exact((eE hs _).bind λa=>Le.refl _) v hv
 ·exact nomatch hv
theorem qQ (hh:Ext h h') (t:Ty) (v:SV):Le (v.asR h t) (v.asR h' t):=by
 cases t with
 |sl t=>exact(s6 hh t v).bind λ_=>Le.refl _
 |_=>exact Le.refl _
theorem s7 (hh:Ext h h'):(ts:List Ty)->(vs:List SV)->Le (wO h ts vs) (wO h' ts vs)
 |[],[]=>Le.refl _
 |t::ts,v::vs=>(qQ hh t v).bind λ_=>(s7 hh ts vs).bind λ_=>Le.refl _
 |[],_::_=>Le.refl _
 |_::_,[]=>Le.refl _
theorem BM (hh:Ext h h') (t:Ty) (vs:List SV):Le (DQ h t vs) (DQ h' t vs):=(s7 hh _ _).bind λ_=>Le.refl _
theorem uG (hh:Ext h h') (t:Ty):(n:Nat)->(c:List SV)->Le (vE h t n c) (vE h' t n c)
 |0,_=>Le.refl _
 |n+1,_=>(BM hh t _).bind λ_=>(uG hh t n _).bind λ_=>Le.refl _
theorem pE (hh:Ext h h') (t:Ty) (v:SV):Le (v.wQ h t) (v.wQ h' t):=by
 intro p hp
 cases t with
 |sl t=>
  cases v with
  |own i=>
   simp only[SV.wQ]at hp⊢
   cases hl:look h i with
   |none=>rw[hl]at hp;exact nomatch hp
   |some B=>rw[hl]at hp;rw[hh i B hl];exact hp
  |_=>exact hp
 |_=>exact hp
theorem uH (hh:Ext h h'):(ts:List Ty)->(vs:List SV)->Le (sP h ts vs) (sP h' ts vs)
 |[],[]=>Le.refl _
 |t::ts,v::vs=>(pE hh t v).bind λ_=>(uH hh ts vs).bind λ_=>Le.refl _
 |[],_::_=>Le.refl _
 |_::_,[]=>Le.refl _
theorem eQ (hh:Ext h h') (t:Ty):(n:Nat)->(c:List SV)->Le (ek h t n c) (ek h' t n c)
 |0,_=>Le.refl _
 |n+1,_=>(uH hh _ _).bind λ_=>(Le.refl _).bind λ_=>(eQ hh t n _).bind λ_=>Le.refl _
theorem qR (hh:Ext h h'):(c:List SV)->Le (qM h c) (qM h' c)
 |[]=>Le.refl _
 |v::l=>by
  have ih:=qR hh l
  cases v with
  |own i=>
   refine(BL hh i).bind λb=>?_
   cases b with
   |box _=>exact Le.refl _
   |arr sh _ _=>cases sh with
    |none=>exact ih
    |some _=>exact Le.refl _
  |r d x=>cases x with
   |sl _ _=>exact Le.refl _
   |_=>exact ih
  |sub _ _ _=>exact Le.refl _
  |bsl _ _=>exact Le.refl _
  |_=>exact ih
theorem xm (hh:Ext h h') (t:Ty) (n:Nat) (c:List SV):Le (uz h t n c) (uz h' t n c):=
 (qR hh c).bind λb=>Le.cond ((eQ hh t n c).bind λ_=>Le.refl _) ((uG hh t n c).bind λ_=>Le.refl _)
theorem ou (hh:Ext h h') (t:Ty) (v:SV):Le (j1 h t v) (j1 h' t v):=by
 have ind:∀(v:SV) (p:List Nat× List t.El),v.list h t=some p->iI h' v p.1=iI h v p.1:=λv p hp=>by
  cases v with
  |own i=>
   simp only[SV.list]at hp
   cases hl:look h i with
   |none=>rw[hl]at hp;exact nomatch hp
   |some B=>simp only[iI,hl,hh i B hl]
  |_=>rfl
 have lst:∀v:SV,Le ((v.list h t).bind λp=>cond (iT t) (some (none,[],p.2)) (some (some (iI h v p.1),[],p.2)):Option (Option (List Nat)× List Nat× List t.El)) ((v.list h' t).bind λp=>cond (iT t) (some (none,[],p.2)) (some (some (iI h' v p.1),[],p.2))):=λv q hq=>by
  rw[An]at hq⊢;obtain⟨p,hp,hq⟩:=hq;exact⟨p,s6 hh t v p hp,by rw[ind v p hp];exact hq⟩
 cases v with
 |bsl i n=>
  intro p hp;simp only[j1]at hp⊢
  cases hl:look h i with
  |none=>rw[hl]at hp;exact nomatch hp
  |some B=>
   rw[hl]at hp;rw[hh i B hl]
   cases B with
   |box cs=>exact((xm hh t n cs).bind λ_=>Le.refl _) p hp
   |arr _ _ _=>exact nomatch hp
 |r d x=>exact lst (.r d x)
 |cU=>exact lst .cU
 |iP=>exact lst .iP
 |own i=>exact lst (.own i)
 |sub i o n=>exact lst (.sub i o n)
 |ptr i x o=>exact lst (.ptr i x o)
 |inn i x o=>exact lst (.inn i x o)
 |fb d x=>exact lst (.fb d x)
 |agg x=>exact lst (.agg x)
 |tup x=>exact lst (.tup x)
 |fn f a b=>exact lst (.fn f a b)
 |undef=>exact lst .undef
end
end
section
abbrev Cell:=Nat× Nat
def _root_.Go.World.at? (w:World) (p:Cell):Option Value:=w.cell? ⟨p.1,p.2,none⟩
def _root_.Go.World.cC (w:World) (p:Cell):Nat× Nat× Nat:=
 match w.heap[p.1]? with
 |some (.cells c _ fr)=>(fr.1,fr.2,c.size)
 |_=>(0,0,0)
def calm (r:Nat× Nat× Nat):Bool:=decide (r.1=r.2.1\/r.2.2<=r.1)
def whole (r:Nat× Nat× Nat) (o n:Nat):Bool:=calm r&&decide (o=0/\r.2.2=n)
theorem jy {r:Nat× Nat× Nat} {o n:Nat} (h:whole r o n=true):calm r=true:=by
 unfold whole at h;rw[Fy]at h;exact h.1
theorem uI {n:Nat}:whole (0,0,n) 0 n=true:=by simp[whole,calm]
theorem fG {w:World} {b o:Nat} {u:Value} (h:w.at? (b,o)=some u) (hc:calm (w.cC (b,o))=true):w.frozen? ⟨b,o,none⟩=false:=by
 unfold World.at? World.cell? at h;unfold calm World.cC at hc;unfold World.frozen?
 cases hb:w.heap[b]? with
 |none=>rfl
 |some ob=>
  cases ob with
  |cells c t fr=>
   simp only[hb,G8,Gv,if_false]at h;simp only[hb,decide_eq_true_eq]at hc;have:=(FJ.1 h).1;obtain⟨lo,hi⟩:=fr;simp only at hc⊢;rw[Bool.and_eq_false_iff,decide_eq_false_iff_not,decide_eq_false_iff_not]
   omega
  |_=>rfl
theorem qS (w:World) (a:Addr) (v:Value) (p:Cell):(w.setCell a v).cC p=w.cC p:=by
 unfold World.cC World.setCell;simp only[Array.getElem?_modify];by_cases e:a.block=p.1
 ·rw[if_pos e]
  cases hb:w.heap[p.1]? with
  |none=>rfl
  |some ob=>
   cases ob with
   |cells c t fr=>simp only[GO];split<;>simp
   |_=>rfl
 ·rw[if_neg e]
theorem dx (b:Nat):∀(vs:List Value) (o:Nat) (w:World) (p:Cell),(w.setCells b o vs).cC p=w.cC p
 |[],_,_,_=>rfl
 |v::vs,o,w,p=>(dx b vs (o+1) (w.setCell ⟨b,o,none⟩ v) p).trans (qS w _ v p)
def one:Value->Bool
 |.agg _|.tuple _=>false
 |_=>true
class Tok where
 env:Nat->Value
 xn:∀n,one (env n)=true
 xo:env 0=.slice none 0 0
variable [Tok]
def reg (b o n:Nat) (p:Cell):Prop:=p.1=b/\o<=p.2/\p.2<o+n
def au (t:Ty) (xs:List t.El) (i j:Nat) (r:R):Prop:=∃x,xs[i]? =some x/\(t.cells x)[j]? =some r
theorem aG {t:Ty} {xs:List t.El} {i j:Nat} {r:R} (h:au t xs i j r):i<xs.length/\j<t.sz:=by
 obtain⟨x,hx,hr⟩:=h;refine⟨(Fv.1 hx).1,?_⟩;have:=(Fv.1 hr).1;rwa [Ty.bF]at this
theorem cE {t:Ty} {xs:List t.El} {i j:Nat} (hi:i<xs.length) (hj:j<t.sz):∃r,au t xs i j r:=by
 refine⟨(t.cells xs[i])[j]'(by rw[Ty.bF];exact hj),xs[i],?_,?_⟩<;>simp
theorem iX {i j n s c:Nat} (hi:i<n) (hj:j<s) (h:n<=c):i*s+j<c*s:=by
 have h1:(i+1)*s<=c*s:=F6 s (by omega);have:(i+1)*s=i*s+s:=GD i s;omega
inductive RepR (w:World) (ok:Cell->Prop):R->Value->Prop
 |int (k:IntKind) (n:Int):RepR w ok (.int k n) (.int k n)
 |bool (b:Bool):RepR w ok (.bool b) (.bool b)
 |str (l:List UInt8):RepR w ok (.str l) (.string ⟨l.toArray⟩)
 |sl (t:Ty) (xs:List t.El) (a:Option Addr) (cap b o:Nat) (vs:Nat->Nat->Value)
   (hcap:xs.length<=cap) (ha:xs=[]\/a=some ⟨b,o,none⟩)
   (hc:∀i j r,au t xs i j r->ok (b,o+(i*t.sz+j))/\w.at? (b,o+(i*t.sz+j))=some (vs i j))
   (hr:∀i j r,au t xs i j r->RepR w ok r (vs i j)):RepR w ok (.sl t xs) (.slice a xs.length cap)
 |tok (n:Nat):RepR w ok (.tok n) (Tok.env n)
 |gV (v:Value) (h:one v=true):RepR w ok .gV v
theorem RepR.frame {w w':World} {ok ok':Cell->Prop} {r:R} {v:Value} (h:RepR w ok r v)
  (hf:∀p u,ok p->w.at? p=some u->ok' p/\w'.at? p=some u):RepR w' ok' r v:=by
 induction h with
 |int=>exact .int _ _
 |bool=>exact .bool _
 |str=>exact .str _
 |tok=>exact .tok _
 |gV v h=>exact .gV v h
 |sl t xs a cap b o vs hcap ha hc _ ih=>
  exact .sl t xs a cap b o vs hcap ha (λi j r hr=>hf _ _ (hc i j r hr).1 (hc i j r hr).2) ih
structure Row (w:World) (inner:R->Value->(Cell->Prop)->Prop) (t:Ty) (xs:List t.El) (hdr:Value) (fp:Cell->Prop) where
 a:Option Addr
 cap:Nat
 b:Nat
 o:Nat
 vs:Nat->Nat->Value
 fs:Nat->Nat->Cell->Prop
 qT:hdr=.slice a xs.length cap
 hcap:xs.length<=cap
 ha:cap=0\/a=some ⟨b,o,none⟩
 fT:∀j,j<cap*t.sz->(∃v,w.at? (b,o+j)=some v)/\whole (w.cC (b,o+j)) o (cap*t.sz)=true
 hc:∀i j r,au t xs i j r->w.at? (b,o+(i*t.sz+j))=some (vs i j)
 hr:∀i j r,au t xs i j r->inner r (vs i j) (fs i j)
 hd1:∀i j r p,au t xs i j r->fs i j p->¬reg b o (cap*t.sz) p
 hd2:∀i j r i' j' r' p,au t xs i j r->au t xs i' j' r'->fs i j p->fs i' j' p->i=i'/\j=j'
 hfp:∀p,fp p↔reg b o (cap*t.sz) p\/∃i j r,au t xs i j r/\fs i j p
inductive di (w:World):R->Value->(Cell->Prop)->Prop
 |int (k:IntKind) (n:Int):di w (.int k n) (.int k n) (λ_=>False)
 |bool (b:Bool):di w (.bool b) (.bool b) (λ_=>False)
 |str (l:List UInt8):di w (.str l) (.string ⟨l.toArray⟩) (λ_=>False)
 |sl (t:Ty) (xs:List t.El) (a:Option Addr) (cap b o:Nat) (vs:Nat->Nat->Value) (fs:Nat->Nat->Cell->Prop) (fp:Cell->Prop)
   (hcap:xs.length<=cap) (ha:cap=0\/a=some ⟨b,o,none⟩)
   (fT:∀j,j<cap*t.sz->(∃v,w.at? (b,o+j)=some v)/\whole (w.cC (b,o+j)) o (cap*t.sz)=true)
   (hc:∀i j r,au t xs i j r->w.at? (b,o+(i*t.sz+j))=some (vs i j))
   (hr:∀i j r,au t xs i j r->di w r (vs i j) (fs i j))
   (hd1:∀i j r p,au t xs i j r->fs i j p->¬reg b o (cap*t.sz) p)
   (hd2:∀i j r i' j' r' p,au t xs i j r->au t xs i' j' r'->fs i j p->fs i' j' p->i=i'/\j=j')
   (hfp:∀p,fp p↔reg b o (cap*t.sz) p\/∃i j r,au t xs i j r/\fs i j p):di w (.sl t xs) (.slice a xs.length cap) fp
 |tok (n:Nat):di w (.tok n) (Tok.env n) (λ_=>False)
 |gV (v:Value) (h:one v=true):di w .gV v (λ_=>False)
theorem di.row {w:World} {t:Ty} {xs:List t.El} {v:Value} {fp:Cell->Prop} (h:di w (.sl t xs) v fp):Nonempty (Row w (di w) t xs v fp):=by
 cases h with
 |sl t xs a cap b o vs fs fp hcap ha fT hc hr hd1 hd2 hfp=>exact⟨⟨a,cap,b,o,vs,fs,rfl,hcap,ha,fT,hc,hr,hd1,hd2,hfp⟩⟩
theorem Row.DV {w:World} {t:Ty} {xs:List t.El} {v:Value} {fp:Cell->Prop} (h:Row w (di w) t xs v fp):di w (.sl t xs) v fp:=by
 obtain⟨a,cap,b,o,vs,fs,rfl,hcap,ha,fT,hc,hr,hd1,hd2,hfp⟩:=h;exact .sl t xs a cap b o vs fs fp hcap ha fT hc hr hd1 hd2 hfp
theorem di.frame {w w':World} {r:R} {v:Value} {fp:Cell->Prop} (h:di w r v fp)
  (hf:∀p u,fp p->w.at? p=some u->w'.at? p=some u/\w'.cC p=w.cC p):di w' r v fp:=by
 induction h with
 |int=>exact .int _ _
 |bool=>exact .bool _
 |str=>exact .str _
 |tok=>exact .tok _
 |gV v h=>exact .gV v h
 |sl t xs a cap b o vs fs fp hcap ha fT hc _ hd1 hd2 hfp ih=>
  have hin:∀i j r,au t xs i j r->fp (b,o+(i*t.sz+j)):=λi j r hr=>(hfp _).2 (.inl ⟨rfl,by simp,by
   have:=iX (aG hr).1 (aG hr).2 hcap;simp;omega⟩)
  refine .sl t xs a cap b o vs fs fp hcap ha (λj hj=>?_) (λi j r hr=>(hf _ _ (hin i j r hr) (hc i j r hr)).1)
   (λi j r hr=>ih i j r hr λp u hp=>hf p u ((hfp p).2 (.inr ⟨i,j,r,hr,hp⟩))) hd1 hd2 hfp
  obtain⟨⟨v,hv⟩,hi⟩:=fT j hj;have:=hf (b,o+j) v ((hfp _).2 (.inl ⟨rfl,by simp,by simp;omega⟩)) hv;exact⟨⟨v,this.1⟩,by rw[this.2];exact hi⟩
theorem di.xp {w:World} {r:R} {v:Value} {fp:Cell->Prop} {ok:Cell->Prop} (h:di w r v fp) (hok:∀p,fp p->ok p):RepR w ok r v:=by
 induction h with
 |int=>exact .int _ _
 |bool=>exact .bool _
 |str=>exact .str _
 |tok=>exact .tok _
 |gV v h=>exact .gV v h
 |sl t xs a cap b o vs fs fp hcap ha fT hc _ hd1 hd2 hfp ih=>
  refine .sl t xs a cap b o vs hcap ?_ (λi j r hr=>⟨hok _ ((hfp _).2 (.inl ⟨rfl,by simp,by
   have:=iX (aG hr).1 (aG hr).2 hcap;simp;omega⟩)),hc i j r hr⟩)
   (λi j r hr=>ih i j r hr λp hp=>hok p ((hfp p).2 (.inr ⟨i,j,r,hr,hp⟩)))
  rcases ha with rfl|h
  ·exact .inl (FK.1 (by omega))
  ·exact .inr h
theorem di.there {w:World} {r:R} {v:Value} {fp:Cell->Prop} (h:di w r v fp):∀p,fp p->∃u,w.at? p=some u:=by
 induction h with
 |int=>exactλ_ h=>h.elim
 |bool=>exactλ_ h=>h.elim
 |str=>exactλ_ h=>h.elim
 |tok=>exactλ_ h=>h.elim
 |gV=>exactλ_ h=>h.elim
 |sl t xs a cap b o vs fs fp hcap ha fT hc _ hd1 hd2 hfp ih=>
  intro p hp
  rcases(hfp p).1 hp with⟨h1,h2,h3⟩|⟨i,j,r,hr,hp⟩
  ·obtain⟨p1,p2⟩:=p;have h1:p1=b:=h1;simp only at h1 h2 h3;subst h1;have:=(fT (p2-o) (by omega)).1;rwa [show o+(p2-o)=p2 from by omega]at this
  ·exact ih i j r hr p hp
structure Pl where
 hdr:Nat->Value
 fp:Nat->Cell->Prop
 base:Cell->Prop
def Blk.fH:Blk->Bool
 |.box _=>true
 |.arr _ _ _=>false
def okd (H:az) (pl:Pl) (d:List Nat) (p:Cell):Prop:=pl.base p/\∀i B,look H i=some B->(mem i d=true->B.fH=true)->¬pl.fp i p
inductive ab (w:World) (H:az) (pl:Pl):SV->Value->Prop
 |r (d:List Nat) (x:R) (v:Value) (h:RepR w (okd H pl d) x v):ab w H pl (.r d x) v
 |cU:ab w H pl .cU (.slice none 0 0)
 |iP:ab w H pl .iP (.pointer none)
 |own (i:Nat) (sh:Option (List Nat)) (t:Ty) (xs:List t.El) (h:look H i=some (.arr sh t xs)):ab w H pl (.own i) (pl.hdr i)
 |sub (i o n:Nat) (sh:Option (List Nat)) (t:Ty) (xs:List t.El) (a a':Option Addr) (cap en:Nat) (h:look H i=some (.arr sh t xs))
   (hh:pl.hdr i=.slice a xs.length cap) (hn:o+n<=xs.length) (hc:n<=en) (hc':o+en=cap) (ha:en=0\/a'=a.map (·.add (o*t.sz))):
   ab w H pl (.sub i o n) (.slice a' n en)
 |bsl (i n:Nat) (cs:List SV) (a:Addr) (h:look H i=some (.box cs)) (hh:pl.hdr i=.pointer (some a)):ab w H pl (.bsl i n) (.slice (some a) n n)
 |ly (i o:Nat) (cs:List SV) (b k:Nat) (h:look H i=some (.box cs)) (hh:pl.hdr i=.pointer (some ⟨b,k,none⟩)):ab w H pl (.ptr i 0 o) (.pointer (some ⟨b,k+o,none⟩))
 |kr (i x o:Nat) (sh:Option (List Nat)) (t:Ty) (xs:List t.El) (b k n cap:Nat) (h:look H i=some (.arr sh t xs)) (hx:x<xs.length)
   (hh:pl.hdr i=.slice (some ⟨b,k,none⟩) n cap):ab w H pl (.ptr i x o) (.pointer (some ⟨b,k+(x*t.sz+o),none⟩))
 |inn (i x c:Nat) (sh:Option (List Nat)) (t:Ty) (xs:List t.El) (b k n cap:Nat) (v:Value) (h:look H i=some (.arr sh t xs)) (hx:x<xs.length) (hc:c<t.sz)
   (hh:pl.hdr i=.slice (some ⟨b,k,none⟩) n cap) (hok:okd H pl [i] (b,k+(x*t.sz+c))) (hv:w.at? (b,k+(x*t.sz+c))=some v) (h1:one v=true):ab w H pl (.inn i x c) v
 |fb (d:List Nat) (cs:List R) (b o:Nat) (vs:Nat->Value) (hc:∀j r,cs[j]? =some r->okd H pl d (b,o+j)/\w.at? (b,o+j)=some (vs j))
   (hr:∀j r,cs[j]? =some r->RepR w (okd H pl d) r (vs j)):ab w H pl (.fb d cs) (.pointer (some ⟨b,o,none⟩))
 |agg (cs:List SV) (vs:Array Value) (hl:cs.length=vs.size) (h1:∀(j:Nat) (v:Value),vs[j]? =some v->one v=true) (h:∀(j:Nat) (x:SV) (v:Value),cs[j]? =some x->vs[j]? =some v->ab w H pl x v):ab w H pl (.agg cs) (.agg vs)
 |tup (cs:List SV) (vs:Array Value) (hl:cs.length=vs.size) (h:∀(j:Nat) (x:SV) (v:Value),cs[j]? =some x->vs[j]? =some v->ab w H pl x v):ab w H pl (.tup cs) (.tuple vs)
 |fn (f:Fn) (as bs:List SV) (us vs:Array Value) (hl:as.length=us.size) (h:∀(j:Nat) (x:SV) (v:Value),as[j]? =some x->us[j]? =some v->ab w H pl x v)
   (hl':bs.length=vs.size) (h':∀(j:Nat) (x:SV) (v:Value),bs[j]? =some x->vs[j]? =some v->ab w H pl x v):ab w H pl (.fn f as bs) (.func f us vs)
 |undef (v:Value):ab w H pl .undef v
def cL (w:World) (H:az) (pl:Pl) (i:Nat):Blk->Prop
 |.box cs=>∃b o,pl.hdr i=.pointer (some ⟨b,o,none⟩)/\(∀p,pl.fp i p↔reg b o cs.length p)/\
   ∀j v,cs[j]? =some v->∃u,w.at? (b,o+j)=some u/\calm (w.cC (b,o+j))=true/\one u=true/\ab w H pl v u
 |.arr none t xs=>Nonempty (Row w (di w) t xs (pl.hdr i) (pl.fp i))
 |.arr (some d) t xs=>Nonempty (Row w (λr v f=>RepR w (okd H pl d) r v/\∀p,¬f p) t xs (pl.hdr i) (pl.fp i))
structure bJ (H:az) (pl:Pl) (w:World):Prop where
 blk:∀i B,look H i=some B->cL w H pl i B
 dis:∀i j B B' p,look H i=some B->look H j=some B'->pl.fp i p->pl.fp j p->i=j
 ob:∀i B p,look H i=some B->pl.fp i p->pl.base p
 nb:∀p,w.at? p=none->pl.base p
end
section
variable [Tok]
section lists
variable {α:Type}
theorem aj (k:Nat) (v:α) (l:List (Nat× α)) (n:Nat):look ((k,v)::l) n=if k=n then some v else look l n:=by
 simp only[look];cases h:Nat.beq k n
 ·have:¬k=n:=λe=>by subst e;simp at h
  simp[this]
 ·have:k=n:=Fx h;simp[this]
theorem cM (l:List (Nat× α)) (n m:Nat) (v:α):look (put l n v) m=if n=m then some v else look l m:=by
 induction l with
 |nil=>rw[put,aj]
 |cons x l ih=>
  obtain⟨k,u⟩:=x;simp only[put];cases hk:Nat.beq k n
  ·simp only[cond_false,look,ih];cases hm:Nat.beq k m
   ·simp
   ·have h1:k=m:=Fx hm;subst h1
    have:¬n=k:=λe=>by subst e;simp at hk
    simp[this]
  ·have h1:k=n:=Fx hk;subst h1;simp only[cond_true,look];cases hm:Nat.beq k m
   ·have:¬k=m:=λe=>by subst e;simp at hm
    simp[this]
   ·have:k=m:=Fx hm;simp[this]
theorem av (l l':List (Nat× α)) (n:Nat):look (l++l') n=(look l n).or (look l' n):=by
 induction l with
 |nil=>simp[look]
 |cons x l ih=>
  obtain⟨k,u⟩:=x;simp only[GA,look];cases Nat.beq k n<;>simp[ih]
theorem mem_iff (i:Nat) (l:List Nat):mem i l=true↔i∈l:=by
 induction l with
 |nil=>simp[mem]
 |cons k l ih=>
  simp only[mem];cases h:Nat.beq k i
  ·have:¬i=k:=λe=>by subst e;simp at h
   simp[ih,this]
  ·have:k=i:=Fx h;simp[this]
theorem cY (T d:List Nat) (h:hit T d=false):∀i,mem i d=true->mem i T=false:=by
 induction d with
 |nil=>intro i hi;simp[mem]at hi
 |cons k l ih=>
  simp only[hit]at h;cases hk:mem k T
  ·rw[hk]at h;intro i hi;rw[mem_iff]at hi
   rcases FM.1 hi with rfl|hi
   ·exact hk
   ·exact ih h i ((mem_iff i l).2 hi)
  ·rw[hk]at h;simp at h
theorem aT (n:Nat) (l:List Blk) (i:Nat):look (aF n l) i=if n<=i then l[i-n]? else none:=by
 induction l generalizing n with
 |nil=>simp[aF,look]
 |cons b l ih=>
  rw[aF,aj,ih];by_cases h:n=i
  ·subst h;simp
  ·by_cases h2:n<=i
   ·rw[if_neg h,if_pos (by omega),if_pos h2];rw[show i-n=(i-(n+1))+1 from by omega];rfl
   ·rw[if_neg h,if_neg (by omega),if_neg h2]
theorem qU (u h:az) (i:Nat):look (jR u h) i=match look u.reverse i with|some b=>some b|none=>look h i:=by
 induction u generalizing h with
 |nil=>simp[jR,look]
 |cons x l ih=>
  obtain⟨k,b⟩:=x;rw[jR,ih,List.reverse_cons,av,cM,aj]
  cases look l.reverse i with
  |some c=>simp
  |none=>by_cases hk:k=i<;>simp[hk,look]
theorem s8 (T:Kil) (s:List (Nat× SV)) (t:Nat):look (uv T s) t=(look s t).map (SV.aA T):=by
 induction s with
 |nil=>rfl
 |cons x l ih=>
  obtain⟨k,v⟩:=x;rw[uv,aj,aj,ih];by_cases h:k=t<;>simp[h]
theorem mQ (T:Kil) (h h':az) (e:mK T h=some h') (i:Nat):
  look h' i=cond (mem i T.1) none ((look h i).bind (Blk.aA T))/\(∀b,look h i=some b->mem i T.1=false->∃b',b.aA T=some b'):=by
 induction h generalizing h' with
 |nil=>simp only[mK,Fu]at e;subst e;simp[look]
 |cons x l ih=>
  obtain⟨k,b⟩:=x;simp only[mK]at e;cases hk:mem k T.1
  ·simp only[hk,cond_false,An,Fu]at e;obtain⟨b',hb,l',hl,rfl⟩:=e;rw[aj,aj];by_cases hi:k=i
   ·subst hi;simp[hk,hb]
   ·simpa[hi]using ih l' hl
  ·simp only[hk,cond_true]at e;have:=ih h' e;rw[aj];by_cases hi:k=i
   ·subst hi;simp[hk]at this⊢;exact this
   ·simpa[hi]using this
theorem cF {α:Type} {l:List α} (h:isNil l=true):l=[]:=by cases l with|nil=>rfl|cons _ _=>exact nomatch h
theorem s9 {T:Kil} (h:T.2=[]) (h1:∀i,mem i T.1=true->mem i T.2=true):T=([],[]):=by
 obtain⟨a,b⟩:=T;simp only at h h1;subst h
 cases a with
 |nil=>rfl
 |cons x l=>have:=h1 x (by simp[mem]);exact nomatch this
theorem mR (i:Nat) (a b:List Nat):mem i (a++b)=(mem i a||mem i b):=by
 induction a with
 |nil=>simp[mem]
 |cons x l ih=>simp only[GA,mem,ih];cases Nat.beq x i<;>simp
theorem CR.dn (c:CR):∀i,mem i c.kil.1=true->mem i c.kil.2=true:=λi h=>by
 show mem i (c.gone++c.fF)=true;rw[mR,show mem i c.gone=true from h];rfl
theorem gE (T:Kil) (l:List SV) (j:Nat):(dW T l)[j]? =(l[j]?).map (SV.aA T):=by
 induction l generalizing j with
 |nil=>rfl
 |cons v l ih=>cases j with
  |zero=>rfl
  |succ j=>simpa[dW]using ih j
theorem dy (T:Kil) (l:List SV):(dW T l).length=l.length:=by
 induction l with
 |nil=>rfl
 |cons v l ih=>simp[dW,ih]
end lists
def Blk.fQ:Blk->Blk->Prop
 |.box a,.box b=>a.length=b.length
 |.arr _ t xs,.arr _ t' ys=>t.sz=t'.sz/\xs.length=ys.length
 |_,_=>False
theorem Blk.bW (b:Blk):b.fQ b:=by cases b<;>simp[Blk.fQ]
structure ff (T:Kil) (w:World) (H:az) (pl:Pl) (w':World) (H':az) (pl':Pl):Prop where
 k1:∀i B,look H i=some B->mem i T.1=false->∃B',look H' i=some B'/\B.fQ B'/\pl'.hdr i=pl.hdr i
 k2:∀d p u,(∀i,mem i d=true->mem i T.2=false)->okd H pl d p->w.at? p=some u->okd H' pl' d p/\w'.at? p=some u
theorem ab.bp {T:Kil} {w w':World} {H H':az} {pl pl':Pl} (hk:ff T w H pl w' H' pl') {v:SV} {u:Value} (h:ab w H pl v u):
  ab w' H' pl' (v.aA T) u:=by
 induction h with
 |r d x v h=>
  simp only[SV.aA];cases hd:hit T.2 d
  ·exact .r d x v (h.frame λp u hp hu=>hk.k2 d p u (cY T.2 d hd) hp hu)
  ·exact .undef _
 |cU=>exact .cU
 |iP=>exact .iP
 |own i sh t xs h=>
  simp only[SV.aA];cases hi:mem i T.1
  ·obtain⟨B',h1,h2,h3⟩:=hk.k1 i _ h hi
   cases B' with
   |box cs=>exact h2.elim
   |arr sh' t' ys=>rw[<-h3];exact .own i sh' t' ys h1
  ·exact .undef _
 |sub i o n sh t xs a a' cap en h hh hn hc hc' ha=>
  simp only[SV.aA];cases hi:mem i T.1
  ·obtain⟨B',h1,h2,h3⟩:=hk.k1 i _ h hi
   cases B' with
   |box cs=>exact h2.elim
   |arr sh' t' ys=>
    obtain⟨hz,hl⟩:=h2;exact .sub i o n sh' t' ys a a' cap en h1 (by rw[h3,hh,hl]) (hl▸hn) hc hc' (by rw[<-hz];exact ha)
  ·exact .undef _
 |bsl i n cs a h hh=>
  simp only[SV.aA];cases hi:mem i T.1
  ·obtain⟨B',h1,h2,h3⟩:=hk.k1 i _ h hi
   cases B' with
   |arr _ _ _=>exact h2.elim
   |box ds=>
    exact .bsl i n ds a h1 (h3.trans hh)
  ·exact .undef _
 |ly i o cs b k h hh=>
  simp only[SV.aA];cases hi:mem i T.1
  ·obtain⟨B',h1,h2,h3⟩:=hk.k1 i _ h hi
   cases B' with
   |arr _ _ _=>exact h2.elim
   |box ds=>exact .ly i o ds b k h1 (h3.trans hh)
  ·exact .undef _
 |kr i x o sh t xs b k n cap h hx hh=>
  simp only[SV.aA];cases hi:mem i T.1
  ·obtain⟨B',h1,h2,h3⟩:=hk.k1 i _ h hi
   cases B' with
   |box cs=>exact h2.elim
   |arr sh' t' ys=>
    obtain⟨hz,hl⟩:=h2;rw[hz];exact .kr i x o sh' t' ys b k n cap h1 (hl▸hx) (h3.trans hh)
  ·exact .undef _
 |inn i x c sh t xs b k n cap v h hx hc hh hok hv h1=>
  simp only[SV.aA];cases hi:(mem i T.1||mem i T.2)
  ·rw[Bool.or_eq_false_iff]at hi;obtain⟨B',g1,g2,g3⟩:=hk.k1 i _ h hi.1
   have g4:=hk.k2 [i] _ v (λj hj=>by
    simp only[mem]at hj;cases hb:Nat.beq i j<;>simp only[hb,cond_true,cond_false]at hj
    ·exact nomatch hj
    ·rw[<-Fx hb];exact hi.2) hok hv
   cases B' with
   |box cs=>exact g2.elim
   |arr sh' t' ys=>
    obtain⟨hz,hl⟩:=g2;rw[hz]at g4 hc;exact .inn i x c sh' t' ys b k n cap v g1 (hl▸hx) hc (g3.trans hh) g4.1 g4.2 h1
  ·exact .undef _
 |fb d cs b o vs hc hr=>
  simp only[SV.aA];cases hd:hit T.2 d
  ·exact .fb d cs b o vs (λj r hj=>hk.k2 d _ _ (cY T.2 d hd) (hc j r hj).1 (hc j r hj).2)
    λj r hj=>(hr j r hj).frame λp u hp hu=>hk.k2 d p u (cY T.2 d hd) hp hu
  ·exact .undef _
 |agg cs vs hl h1 h ih=>
  refine .agg _ vs (by rw[dy,hl]) h1 λj x v hx hv=>?_;rw[gE]at hx;obtain⟨y,hy,rfl⟩:=FA.1 hx
  exact ih j y v hy hv
 |tup cs vs hl h ih=>
  refine .tup _ vs (by rw[dy,hl]) λj x v hx hv=>?_;rw[gE]at hx;obtain⟨y,hy,rfl⟩:=FA.1 hx
  exact ih j y v hy hv
 |fn f as bs us vs hl h hl' h' ih ih'=>
  refine .fn f _ _ us vs (by rw[dy,hl]) (λj x v hx hv=>?_) (by rw[dy,hl']) λj x v hx hv=>?_
  ·rw[gE]at hx;obtain⟨y,hy,rfl⟩:=FA.1 hx;exact ih j y v hy hv
  ·rw[gE]at hx;obtain⟨y,hy,rfl⟩:=FA.1 hx
   exact ih' j y v hy hv
 |undef v=>exact .undef _
theorem pF (d:List Nat):hit [] d=false:=by
 induction d with
 |nil=>rfl
 |cons k l ih=>simpa[hit,mem]using ih
mutual
theorem bX:(v:SV)->v.aA ([],[])=v
 |.r d x=>by simp[SV.aA,pF]
 |.own j=>by simp[SV.aA,mem]
 |.sub j o n=>by simp[SV.aA,mem]
 |.bsl j n=>by simp[SV.aA,mem]
 |.ptr j x o=>by simp[SV.aA,mem]
 |.inn j x c=>by simp[SV.aA,mem]
 |.fb d cs=>by simp[SV.aA,pF]
 |.agg cs=>by simp[SV.aA,eF cs]
 |.tup cs=>by simp[SV.aA,eF cs]
 |.fn f a b=>by simp[SV.aA,eF a,eF b]
 |.cU=>by simp[SV.aA]
 |.iP=>by simp[SV.aA]
 |.undef=>by simp[SV.aA]
theorem eF:(l:List SV)->dW ([],[]) l=l
 |[]=>rfl
 |v::l=>by simp[dW,bX v,eF l]
end
theorem ab.mo {w w':World} {H H':az} {pl pl':Pl} (hk:ff ([],[]) w H pl w' H' pl') {v:SV} {u:Value} (h:ab w H pl v u):
  ab w' H' pl' v u:=by have:=h.bp hk;rwa [bX]at this
end
section
variable [Tok]
section
variable {w:World} {H:az} {pl:Pl}
theorem RepR.scalar {ok:Cell->Prop} {x:R} {v:Value} (h:RepR w ok x v) (ok':Cell->Prop) (hs:∀t xs,x≠.sl t xs):RepR w ok' x v:=by
 cases h with
 |int=>exact .int _ _
 |bool=>exact .bool _
 |str=>exact .str _
 |tok=>exact .tok _
 |gV v h=>exact .gV v h
 |sl t xs=>exact(hs t xs rfl).elim
theorem mS {d:List Nat} {x:R} {v:Value} (h:RepR w (okd H pl d) x v):ab w H pl (mkR d x) v:=by
 cases x with
 |sl t xs=>exact .r _ _ _ h
 |_=>exact .r _ _ _ (h.scalar _ (λ_ _ e=>nomatch e))
theorem RepR.j3 {ok:Cell->Prop} {x:R} {v:Value} (h:RepR w ok x v):one v=true:=by cases h<;>first|rfl|exact Tok.xn _|assumption
def dz (w:World) (H:az) (pl:Pl) (s:List (Nat× SV)) (a:Act):Prop:=∀t v,look s t=some v->ab w H pl v (a.tmps.getD t undef)
theorem mT {v:Value} {x:SV} (h:ln v=some x):ab w H pl x v:=by
 unfold ln at h
 split at h<;>first|(cases h)|skip
 ·exact .r _ _ _ (.bool _)
 ·exact .r _ _ _ (.int _ _)
 ·exact .r _ _ _ (.str _)
 ·exact .cU
 ·exact .iP
theorem ov:∀{vs:List Value} {l:List SV},oo vs=some l->l.length=vs.length/\∀(j:Nat) (x:SV) (v:Value),l[j]? =some x->vs[j]? =some v->ab w H pl x v
 |[],l,h=>by cases h;exact⟨rfl,λj x v hx _=>by simp at hx⟩
 |v::vs,l,h=>by
  simp only[oo,An,Fu]at h;obtain⟨x,hx,xs,hxs,rfl⟩:=h;obtain⟨h1,h2⟩:=ov hxs;refine⟨by simp[h1],λj y u hy hu=>?_⟩
  cases j with
  |zero=>simp at hy hu;subst hy hu;exact mT hx
  |succ j=>exact h2 j y u (by simpa using hy) (by simpa using hu)
theorem ta {v:Value} {x:SV} (h:ln v=some x):one v=true:=by
 unfold ln at h
 split at h<;>first|rfl|(cases h)
theorem ow:∀{vs:List Value} {l:List SV},oo vs=some l->∀(j:Nat) (v:Value),vs[j]? =some v->one v=true
 |[],l,_,j,v,hv=>by simp at hv
 |u::vs,l,h,j,v,hv=>by
  simp only[oo,An,Fu]at h;obtain⟨x,hx,xs,hxs,rfl⟩:=h
  cases j with
  |zero=>simp at hv;subst hv;exact ta hx
  |succ j=>exact ow hxs j v (by simpa using hv)
theorem lz {v:Value} {x:SV} (h:uw v=some x):ab w H pl x v:=by
 unfold uw at h;split at h
 ·simp only[An,Fu]at h;obtain⟨l,hl,rfl⟩:=h;obtain⟨h1,h2⟩:=ov (w:=w) (H:=H) (pl:=pl) hl;refine .agg _ _ (by simpa using h1) (λj v hv=>?_) λj x v hx hv=>h2 j x v hx (by simpa using hv);exact ow hl j v (by simpa using hv)
 ·exact mT h
theorem aH {s:List (Nat× SV)} {a:Act} (hs:dz w H pl s a) {o:Operand} {x:SV} (h:opd s o=some x):ab w H pl x (a.eval o):=by
 cases o with
 |tmp t=>exact hs t x h
 |const v=>exact lz h
 |func f=>
  simp only[opd,Fu]at h;subst h
  exact .fn _ _ _ _ _ rfl (λj x v hx _=>by simp at hx) rfl (λj x v hx _=>by simp at hx)
 |global g=>exact nomatch h
theorem ct {P:Program} {T:TypeId} {i:TypeInfo} (h:P.info? T=some i) (w:World):(sizeOf T).run P w=.ok i.size w:=by
 simp[sizeOf,typeInfo,h]
theorem bE {P:Program} {T:TypeId} {d:TypeDesc} (h:P.underlying T=some d) (w:World):(underlying T).run P w=.ok d w:=by
 simp[underlying,h]
theorem fq {P:Program} {T:TypeId} {d:TypeDesc} (h:P.underlying T=some d) (w:World):(isAgg T).run P w=.ok (mL P T) w:=by
 simp only[isAgg,Sem.run_bind,bE h,Result.andThen_ok,mL,h];cases d<;>rfl
theorem mU (hr:bJ H pl w) {p:SV} {u:Value} (hp:ab w H pl p u) {cs:List SV} (h:fE H p=some cs):
  ∃b o,u=.pointer (some ⟨b,o,none⟩)/\∀(j:Nat) (x:SV),cs[j]? =some x->∃y,w.at? (b,o+j)=some y/\one y=true/\ab w H pl x y:=by
 cases hp with
 |fb d cs' b o vs hc hr'=>
  simp only[fE,Fu]at h;subst h;refine⟨b,o,rfl,λj x hx=>?_⟩;rw[F3]at hx;obtain⟨r,hj,rfl⟩:=FA.1 hx
  exact⟨vs j,(hc j r hj).2,(hr' j r hj).j3,mS (hr' j r hj)⟩
 |ly i o cs' b k hl hh=>
  simp only[fE,hl,Fu]at h;subst h;obtain⟨b',o',e,_,hc⟩:=hr.blk i _ hl;rw[hh]at e;cases e;refine⟨b,k+o,rfl,λj x hx=>?_⟩;rw[FO]at hx;obtain⟨y,h1,_,h3,h4⟩:=hc _ _ hx
  exact⟨y,by rw[Gm];exact h1,h3,h4⟩
 |kr i x o sh t xs b k n cap hl hx hh=>
  simp only[fE,hl,An,Fu]at h;obtain⟨e,he,rfl⟩:=h;have hb:=hr.blk i _ hl;refine⟨b,k+(x*t.sz+o),rfl,λj y hy=>?_⟩;rw[FO,F3]at hy;obtain⟨r,hj,rfl⟩:=FA.1 hy;have hcell:au t xs x (o+j) r:=⟨e,he,hj⟩
  cases sh with
  |none=>
   obtain⟨R⟩:=hb;obtain⟨a',en,b',o',vs,fs,h1,h2,h3,h4,h5,h6,h7,h8,h9⟩:=R;rw[hh]at h1;cases h1
   have hne:cap≠0:=by omega
   have h3:=h3.resolve_left hne;cases h3;refine⟨vs x (o+j),by rw[show k+(x*t.sz+o)+j=k+(x*t.sz+(o+j))from by omega];exact h5 _ _ _ hcell,?_,?_⟩
   ·exact((h6 _ _ _ hcell).xp (ok:=λ_=>True) (λ_ _=>trivial)).j3
   ·refine mS ((h6 _ _ _ hcell).xp λp hp=>⟨hr.ob i _ p hl ((h9 p).2 (.inr ⟨_,_,_,hcell,hp⟩)),λi' B hB hm hf=>?_⟩);have hp':pl.fp i p:=(h9 p).2 (.inr ⟨_,_,_,hcell,hp⟩);have:=hr.dis i' i _ _ p hB hl hf hp';subst this;have hbx:=hm (by simp[xa,mem]);rw[hl]at hB;cases hB
    simp[Blk.fH]at hbx
  |some d=>
   obtain⟨R⟩:=hb;obtain⟨a',en,b',o',vs,fs,h1,h2,h3,h4,h5,h6,h7,h8,h9⟩:=R;rw[hh]at h1;cases h1
   have hne:cap≠0:=by omega
   have h3:=h3.resolve_left hne;cases h3
   exact⟨vs x (o+j),by rw[show k+(x*t.sz+o)+j=k+(x*t.sz+(o+j))from by omega];exact h5 _ _ _ hcell,(h6 _ _ _ hcell).1.j3,mS (h6 _ _ _ hcell).1⟩
 |_=>exact nomatch h
theorem oz {α:Type} {n:Nat} {l m:List α} (h:takeN n l=some m):m.length=n/\∀j,j<n->m[j]? =l[j]? :=by
 unfold takeN at h;cases hn:Nat.ble n l.length
 ·simp[hn]at h
 ·simp only[hn,cond_true,Fu]at h;subst h;have:=FH hn;exact⟨by simp[this],λj hj=>by simp[hj]⟩
theorem pG {P:Program} {T:TypeId} {cs:List SV} {v:SV} (h:eg P T cs=some v) (b o:Nat)
  (hc:∀(j:Nat) (x:SV),cs[j]? =some x->∃y,w.at? (b,o+j)=some y/\one y=true/\ab w H pl x y):
  ∃u,(loadVar T ⟨b,o,none⟩).run P w=.ok u w/\ab w H pl v u:=by
 simp only[eg,An]at h;obtain⟨d,hd,i,hi,l,hl,h⟩:=h;obtain⟨h1,h2⟩:=oz hl
 have hy:∀j,j<i.size->∃y x,l[j]? =some x/\w.at? (b,o+j)=some y/\ab w H pl x y:=λj hj=>by
  have hx:l[j]? =some (l[j]'(by omega)):=Fw (by omega);obtain⟨y,h3,_,h5⟩:=hc j _ ((h2 j hj)▸hx);exact⟨y,_,hx,h3,h5⟩
 cases ha:mL P T
 ·simp only[ha,cond_false]at h
  match l,h1,hl,h,hy,h2 with
  |[x],h1,hl,h,hy,h2=>
   simp only[Fu]at h;subst h;have h1:i.size=1:=h1.symm;obtain⟨y,x',h3,h4,h5⟩:=hy 0 (by omega);simp at h3;subst h3;refine⟨y,?_,h5⟩;have h4:w.cell? ⟨b,o,none⟩=some y:=h4;simp[loadVar,fq hd,ha,h4]
 ·simp only[ha,cond_true,Fu]at h;subst h
  let f:Nat->Value:=λj=>(w.at? (b,o+j)).getD undef
  have hf:∀j,j<i.size->w.cell? (Addr.add ⟨b,o,none⟩ j)=some (f j):=λj hj=>by
   obtain⟨y,x,_,h4,_⟩:=hy j hj
   have e:Addr.add ⟨b,o,none⟩ j=⟨b,o+j,none⟩:=by
    unfold Addr.add;split
    ·rename_i h0;subst h0;rfl
    ·rfl
   rw[e];show w.at? (b,o+j)=some (f j);simp only[f,h4];rfl
  have oA:∀j,j<i.size->one (f j)=true:=λj hj=>by
   have hx:l[j]? =some (l[j]'(by omega)):=Fw (by omega);obtain⟨y,h3,h4,_⟩:=hc j _ ((h2 j hj)▸hx);simp only[f,h3];exact h4
  refine⟨.agg ((List.range i.size).map f).toArray,?_,?_⟩
  ·simp[loadVar,fq hd,ha,ct hi,run_loadCells (P:=P) w ⟨b,o,none⟩ i.size f hf]
  ·refine .agg _ _ (by simp[h1]) (λj v hv=>by
    by_cases hj:j<i.size
    ·have:v=f j:=by simp[hj]at hv;exact hv.symm
     rw[this];exact oA j hj
    ·simp[hj]at hv) λj x v hx hv=>?_
   have hj:j<i.size:=by have:=(Fv.1 hx).1;omega
   obtain⟨y,x',h3,h4,h5⟩:=hy j hj;rw[h3]at hx;cases hx
   have:v=f j:=by simp[hj]at hv;exact hv.symm
   subst this;simp only[f,h4];exact h5
end
end
end Go.Proofs.Ev
