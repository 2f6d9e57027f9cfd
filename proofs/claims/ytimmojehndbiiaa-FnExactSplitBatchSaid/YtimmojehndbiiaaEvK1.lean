/- The evaluator over the model's code, and that it is sound: part 1. -/
import Derived.Calls
import Derived.Laws.IdiomCopy
import Derived.Laws.Cells
import Derived.Laws.Sem
set_option linter.unusedVariables false
set_option linter.unusedSimpArgs false
set_option linter.unusedSectionVars false
namespace Go.Proofs.Ev
theorem An:type_of% @Option.bind_eq_some_iff:=@Option.bind_eq_some_iff
theorem Da:type_of% @Option.some.injEq:=@Option.some.injEq
theorem Db:type_of% @List.getElem?_eq_some_iff:=@List.getElem?_eq_some_iff
theorem Dc:type_of% @Nat.eq_of_beq_eq_true:=@Nat.eq_of_beq_eq_true
theorem Dd:type_of% @List.getElem?_eq_getElem:=@List.getElem?_eq_getElem
theorem De:type_of% @Bool.and_eq_true:=@Bool.and_eq_true
theorem Df:type_of% @Option.map_eq_some_iff:=@Option.map_eq_some_iff
theorem Dg:type_of% @Array.getElem?_eq_getElem:=@Array.getElem?_eq_getElem
theorem Dh:type_of% @List.getElem?_append_right:=@List.getElem?_append_right
theorem Di:type_of% @Nat.zero_add:=@Nat.zero_add
theorem Dj:type_of% @Array.getD_eq_getD_getElem?:=@Array.getD_eq_getD_getElem?
theorem Dk:type_of% @Array.getElem?_eq_some_iff:=@Array.getElem?_eq_some_iff
theorem Dl:type_of% @Nat.le_of_ble_eq_true:=@Nat.le_of_ble_eq_true
theorem Dm:type_of% @List.getElem?_append_left:=@List.getElem?_append_left
theorem Dn:type_of% @Option.bind_some:=@Option.bind_some
theorem Dp:type_of% @List.mem_of_getElem?:=@List.mem_of_getElem?
theorem Dq:type_of% @Prod.mk.injEq:=@Prod.mk.injEq
theorem Dr:type_of% @List.getElem?_drop:=@List.getElem?_drop
theorem Ds:type_of% @List.append_assoc:=@List.append_assoc
theorem Dt:type_of% @List.mem_cons:=@List.mem_cons
theorem Du:type_of% @List.getElem?_take:=@List.getElem?_take
theorem Dv:type_of% @Nat.mul_le_mul_right:=@Nat.mul_le_mul_right
theorem Dw:type_of% @Nat.add_sub_cancel_left:=@Nat.add_sub_cancel_left
theorem Dx:type_of% @List.append_nil:=@List.append_nil
theorem Dy:type_of% @Option.bind_assoc:=@Option.bind_assoc
theorem Dz:type_of% @List.length_take:=@List.length_take
theorem DA:type_of% @Nat.le_refl:=@Nat.le_refl
theorem DB:type_of% @Nat.add_zero:=@Nat.add_zero
theorem DC:type_of% @Nat.zero_le:=@Nat.zero_le
theorem DD:type_of% @Nat.sub_zero:=@Nat.sub_zero
theorem DE:type_of% @List.getElem?_map:=@List.getElem?_map
theorem DF:type_of% @List.mem_cons_self:=@List.mem_cons_self
theorem DG:type_of% @Nat.mul_comm:=@Nat.mul_comm
theorem DH:type_of% @Nat.add_mul:=@Nat.add_mul
theorem DI:type_of% @List.getElem?_of_mem:=@List.getElem?_of_mem
theorem DJ:type_of% @List.mem_cons_of_mem:=@List.mem_cons_of_mem
theorem DK:type_of% @Array.getElem?_toList:=@Array.getElem?_toList
theorem DL:type_of% @List.length_eq_zero_iff:=@List.length_eq_zero_iff
theorem DM:type_of% @Option.or_none:=@Option.or_none
theorem DN:type_of% @Option.bind_none:=@Option.bind_none
theorem DP:type_of% @List.length_cons:=@List.length_cons
theorem DQ:type_of% @List.map_cons:=@List.map_cons
theorem DS:type_of% @List.getElem?_eq_none:=@List.getElem?_eq_none
theorem DT:type_of% @Nat.ble_eq_true_of_le:=@Nat.ble_eq_true_of_le
theorem DU:type_of% @Nat.succ_mul:=@Nat.succ_mul
theorem DV:type_of% @Array.getElem?_setIfInBounds_self_of_lt:=@Array.getElem?_setIfInBounds_self_of_lt
theorem DW:type_of% @Array.getElem?_append_left:=@Array.getElem?_append_left
theorem DX:type_of% @Nat.add_assoc:=@Nat.add_assoc
theorem DY:type_of% @List.cons.injEq:=@List.cons.injEq
theorem DZ:type_of% @List.take_append_drop:=@List.take_append_drop
theorem D0:type_of% @List.cons_append:=@List.cons_append
theorem D1:type_of% @Nat.mod_eq_of_lt:=@Nat.mod_eq_of_lt
theorem D2:type_of% @Option.some.inj:=@Option.some.inj
theorem D3:type_of% @Nat.mul_add_mod:=@Nat.mul_add_mod
theorem D4:type_of% @Array.getElem?_setIfInBounds_ne:=@Array.getElem?_setIfInBounds_ne
theorem D5:type_of% @Bool.false_eq_true:=@Bool.false_eq_true
theorem D6:type_of% @List.length_drop:=@List.length_drop
theorem D7:type_of% @List.map_nil:=@List.map_nil
theorem D8:type_of% @Int.toNat_natCast:=@Int.toNat_natCast
theorem D9:type_of% @Array.ext':=@Array.ext'
theorem Ea:type_of% @List.nodup_cons:=@List.nodup_cons
theorem Eb:type_of% @List.length_set:=@List.length_set
theorem Ec:type_of% @Bool.or_true:=@Bool.or_true
theorem Ed:type_of% @Option.getD_some:=@Option.getD_some
theorem Ee:type_of% @List.getD_eq_getElem?_getD:=@List.getD_eq_getElem?_getD
theorem Ef:type_of% @List.length_replicate:=@List.length_replicate
theorem Eg:type_of% @Option.map_some:=@Option.map_some
theorem Eh:type_of% @Bool.true_and:=@Bool.true_and
theorem Ei:type_of% @Nat.div_eq_of_lt:=@Nat.div_eq_of_lt
theorem Ej:type_of% @List.length_append:=@List.length_append
theorem Ek:type_of% @List.getElem?_set_self:=@List.getElem?_set_self
theorem Em:type_of% @Nat.mul_add_div:=@Nat.mul_add_div
theorem En:type_of% @Bool.or_eq_true:=@Bool.or_eq_true
theorem Eo:type_of% @Nat.div_lt_iff_lt_mul:=@Nat.div_lt_iff_lt_mul
theorem Ep:type_of% @List.size_toArray:=@List.size_toArray
theorem Er:type_of% @Bool.and_eq_true_iff:=@Bool.and_eq_true_iff
theorem Es:type_of% @Nat.le_trans:=@Nat.le_trans
theorem Et:type_of% @List.drop_length:=@List.drop_length
theorem Eu:type_of% @List.all_eq_true:=@List.all_eq_true
theorem Ez:type_of% @Option.isSome_none:=@Option.isSome_none
theorem EF:type_of% @Iff.rfl:=@Iff.rfl
theorem EU:type_of% @Nat.mod_lt:=@Nat.mod_lt
section
structure Shape where
 h:Int
 w:Int
 c:Int
 deriving DecidableEq
structure aa where
 sh:Shape
 data:List Int
 deriving DecidableEq
structure dx where
 kind:Int
 out:Int
 size:Int
 step:Int
 mult:Int
 shift:Int
 zero:Int
 weights:List Int
 Ai:List Int
 deriving DecidableEq
structure Model where
 inp:Shape
 fx:List dx
 deriving DecidableEq
structure Job where
 model:Model
 at_:Int
 act:aa
 uD:Int
 deriving DecidableEq
structure Task where
 id:Int
 gV:List Int
 at_:Int
 due:Int
 born:Int
 deriving DecidableEq
structure qd where
 now:Int
 wZ:Int
 age:Int
 tasks:List Task
 run:Int
 left:Int
 turns:Int
 next:Int
 deriving DecidableEq
structure Request where
 id:Int
 model:Int
 job:Job
 due:Int
 deriving DecidableEq
structure Runtime where
 sched:qd
 oA:List Model
 rN:List Bool
 iv:List Request
 deriving DecidableEq
structure Step where
 kind:Int
 a:Int
 b:Int
 data:List Int
 input:aa
 deriving DecidableEq
structure Event where
 kind:Int
 a:Int
 b:Int
 out:aa
 deriving DecidableEq
structure Entry where
 id:Int
 model:Model
 input:aa
 at_:Int
 due:Int
 end_:Int
 done:Bool
 deriving DecidableEq
structure zg where
 id:Int
 model:Int
 due:Int
 deriving DecidableEq
structure uE where
 id:Int
 gV:Nat
 at_:Int
 due:Int
 born:Int
 deriving DecidableEq
structure iw where
 id:Int
 model:Int
 mh:Int
 mw:Int
 mc:Int
 fx:Nat
 jat:Int
 ah:Int
 aw:Int
 ac:Int
 data:Nat
 uD:Int
 due:Int
 deriving DecidableEq
inductive S where
 |shape|ax|fH|model|task|request|step|event|entry|rO|kz|cg
 deriving DecidableEq
inductive Ty where
 |int (k:IntKind)|bool|str|sl (t:Ty)|st (s:S)|tok
 |ho (s:S)|hl (t:Ty)
 deriving DecidableEq
def S.E:S->Type
 |.shape=>Shape|.ax=>aa|.fH=>dx|.model=>Model|.task=>Task|.request=>Request
 |.step=>Step|.event=>Event|.entry=>Entry|.rO=>zg|.kz=>uE|.cg=>iw
def Ty.El:Ty->Type
 |.int _=>Int
 |.bool=>Bool
 |.str=>List UInt8
 |.sl t=>List t.El
 |.st s=>s.E
 |.tok=>Nat
 |.ho s=>Option s.E
 |.hl t=>Option (List t.El)
inductive R where
 |int (k:IntKind) (n:Int)
 |bool (b:Bool)
 |str (l:List UInt8)
 |sl (t:Ty) (xs:List t.El)
 |tok (n:Nat)
 |eT
abbrev R.i (n:Int):R:=.int .i64 n
abbrev R.ints (xs:List Int):R:=.sl (.int .i64) xs
abbrev R.bytes (xs:List Int):R:=.sl (.int .u8) xs
def uF (x:Shape):List R:=[.i x.h,.i x.w,.i x.c]
def m7 (x:aa):List R:=[.i x.sh.h,.i x.sh.w,.i x.sh.c,.ints x.data]
def yH (x:dx):List R:=[.i x.kind,.i x.out,.i x.size,.i x.step,.i x.mult,.i x.shift,.i x.zero,.ints x.weights,.ints x.Ai]
def yI (x:Model):List R:=[.i x.inp.h,.i x.inp.w,.i x.inp.c,.sl (.st .fH) x.fx]
def As (x:Task):List R:=[.i x.id,.ints x.gV,.i x.at_,.i x.due,.i x.born]
def rP (x:Request):List R:=[.i x.id,.i x.model,.i x.job.model.inp.h,.i x.job.model.inp.w,.i x.job.model.inp.c,.sl (.st .fH) x.job.model.fx,.i x.job.at_,.i x.job.act.sh.h,.i x.job.act.sh.w,.i x.job.act.sh.c,.ints x.job.act.data,.i x.job.uD,.i x.due]
def Au (x:Step):List R:=[.i x.kind,.i x.a,.i x.b,.bytes x.data,.i x.input.sh.h,.i x.input.sh.w,.i x.input.sh.c,.ints x.input.data]
def yJ (x:Event):List R:=[.i x.kind,.i x.a,.i x.b,.i x.out.sh.h,.i x.out.sh.w,.i x.out.sh.c,.ints x.out.data]
def yK (x:Entry):List R:=[.i x.id,.i x.model.inp.h,.i x.model.inp.w,.i x.model.inp.c,.sl (.st .fH) x.model.fx,.i x.input.sh.h,.i x.input.sh.w,.i x.input.sh.c,.ints x.input.data,.i x.at_,.i x.due,.i x.end_,.bool x.done]
def zh (x:zg):List R:=[.i x.id,.i x.model,.i x.due]
def uG (x:uE):List R:=[.i x.id,.tok x.gV,.i x.at_,.i x.due,.i x.born]
def kA (x:iw):List R:=[.i x.id,.i x.model,.i x.mh,.i x.mw,.i x.mc,.tok x.fx,.i x.jat,.i x.ah,.i x.aw,.i x.ac,.tok x.data,.i x.uD,.i x.due]
def S.sz:S->Nat
 |.shape=>3|.ax=>4|.fH=>9|.model=>4|.task=>5|.request=>13|.step=>8|.event=>7|.entry=>13|.rO=>3|.kz=>5|.cg=>13
def S.cells:(s:S)->s.E->List R
 |.shape=>uF|.ax=>m7|.fH=>yH|.model=>yI|.task=>As|.request=>rP
 |.step=>Au|.event=>yJ|.entry=>yK|.rO=>zh|.kz=>uG|.cg=>kA
def Ty.sz:Ty->Nat
 |.st s=>s.sz
 |.ho s=>s.sz
 |_=>1
def Ty.cells:(t:Ty)->t.El->List R
 |.int k,n=>[.int k n]
 |.bool,b=>[.bool b]
 |.str,l=>[.str l]
 |.sl t,xs=>[.sl t xs]
 |.st s,x=>s.cells x
 |.tok,n=>[.tok n]
 |.ho s,x=>match x with
  |some x=>s.cells x
  |none=>List.replicate s.sz .eT
 |.hl t,x=>match x with
  |some xs=>[.sl t xs]
  |none=>[.eT]
theorem S.aH (s:S) (x:s.E):(s.cells x).length=s.sz:=by cases s<;>rfl
theorem Ty.aH (t:Ty) (x:t.El):(t.cells x).length=t.sz:=by
 cases t with
 |st s=>exact s.aH x
 |ho s=>cases x with
  |none=>simp[Ty.cells,Ty.sz]
  |some x=>exact s.aH x
 |hl t=>cases x<;>rfl
 |_=>rfl
theorem Ty.cj (t:Ty):0<t.sz:=by
 cases t with
 |st s=>cases s<;>simp[Ty.sz,S.sz]
 |ho s=>cases s<;>simp[Ty.sz,S.sz]
 |_=>simp[Ty.sz]
def R.asI:R->Option Int
 |.int .i64 n=>some n
 |_=>none
def R.asB:R->Option Bool
 |.bool b=>some b
 |_=>none
def R.asL (t:Ty):R->Option (List t.El)
 |.sl t' xs=>if h:t'=t then some (h▸xs)else none
 |_=>none
def R.asT:R->Option Nat
 |.tok n=>some n
 |_=>none
theorem R.m8 {r:R} {n:Nat} (h:r.asT=some n):r=.tok n:=by
 unfold R.asT at h;split at h
 ·cases h;rfl
 ·cases h
theorem R.ab {r:R} {n:Int} (h:r.asI=some n):r=.int .i64 n:=by
 unfold R.asI at h;split at h
 ·cases h;rfl
 ·cases h
theorem R.w5 {r:R} {n:Bool} (h:r.asB=some n):r=.bool n:=by
 unfold R.asB at h;split at h
 ·cases h;rfl
 ·cases h
theorem R.bB {t:Ty} {r:R} {n:List t.El} (h:r.asL t=some n):r=.sl t n:=by
 unfold R.asL at h;split at h
 ·split at h
  ·rename_i e;subst e;cases h;rfl
  ·cases h
 ·cases h
def oB:List R->Option Shape
 |[a',b',c']=>(a'.asI).bind λa=>(b'.asI).bind λb=>(c'.asI).bind λc=>some ⟨a,b,c⟩
 |_=>none
theorem qe (cs:List R) (x:Shape) (h:oB cs=some x):uF x=cs:=by
 unfold oB at h;split at h
 ·simp only[An]at h;obtain⟨a,ha,b,hb,c,hc,h⟩:=h;cases h;rw[R.ab ha,R.ab hb,R.ab hc];rfl
 ·cases h
def kB:List R->Option aa
 |[a',b',c',d']=>(a'.asI).bind λa=>(b'.asI).bind λb=>(c'.asI).bind λc=>(d'.asL (.int .i64)).bind λd=>some ⟨⟨a,b,c⟩,d⟩
 |_=>none
theorem oC (cs:List R) (x:aa) (h:kB cs=some x):m7 x=cs:=by
 unfold kB at h;split at h
 ·simp only[An]at h;obtain⟨a,ha,b,hb,c,hc,d,hd,h⟩:=h;cases h;rw[R.ab ha,R.ab hb,R.ab hc,R.bB hd];rfl
 ·cases h
def oD:List R->Option dx
 |[a',b',c',d',e',f',g',h',i']=>(a'.asI).bind λa=>(b'.asI).bind λb=>(c'.asI).bind λc=>(d'.asI).bind λd=>(e'.asI).bind λe=>(f'.asI).bind λf=>(g'.asI).bind λg=>(h'.asL (.int .i64)).bind λh=>(i'.asL (.int .i64)).bind λi=>some ⟨a,b,c,d,e,f,g,h,i⟩
 |_=>none
theorem qf (cs:List R) (x:dx) (h:oD cs=some x):yH x=cs:=by
 unfold oD at h;split at h
 ·simp only[An]at h;obtain⟨a,ha,b,hb,c,hc,d,hd,e,he,f,hf,g,hg,h,hh,i,hi,h⟩:=h;cases h;rw[R.ab ha,R.ab hb,R.ab hc,R.ab hd,R.ab he,R.ab hf,R.ab hg,R.bB hh,R.bB hi];rfl
 ·cases h
def oE:List R->Option Model
 |[a',b',c',d']=>(a'.asI).bind λa=>(b'.asI).bind λb=>(c'.asI).bind λc=>(d'.asL (.st .fH)).bind λd=>some ⟨⟨a,b,c⟩,d⟩
 |_=>none
theorem qg (cs:List R) (x:Model) (h:oE cs=some x):yI x=cs:=by
 unfold oE at h;split at h
 ·simp only[An]at h;obtain⟨a,ha,b,hb,c,hc,d,hd,h⟩:=h;cases h;rw[R.ab ha,R.ab hb,R.ab hc,R.bB hd];rfl
 ·cases h
def uH:List R->Option Task
 |[a',b',c',d',e']=>(a'.asI).bind λa=>(b'.asL (.int .i64)).bind λb=>(c'.asI).bind λc=>(d'.asI).bind λd=>(e'.asI).bind λe=>some ⟨a,b,c,d,e⟩
 |_=>none
theorem tb (cs:List R) (x:Task) (h:uH cs=some x):As x=cs:=by
 unfold uH at h;split at h
 ·simp only[An]at h;obtain⟨a,ha,b,hb,c,hc,d,hd,e,he,h⟩:=h;cases h;rw[R.ab ha,R.bB hb,R.ab hc,R.ab hd,R.ab he];rfl
 ·cases h
def ix:List R->Option Request
 |[a',b',c',d',e',f',g',h',i',j',k',l',m']=>(a'.asI).bind λa=>(b'.asI).bind λb=>(c'.asI).bind λc=>(d'.asI).bind λd=>(e'.asI).bind λe=>(f'.asL (.st .fH)).bind λf=>(g'.asI).bind λg=>(h'.asI).bind λh=>(i'.asI).bind λi=>(j'.asI).bind λj=>(k'.asL (.int .i64)).bind λk=>(l'.asI).bind λl=>(m'.asI).bind λm=>some ⟨a,b,⟨⟨⟨c,d,e⟩,f⟩,g,⟨⟨h,i,j⟩,k⟩,l⟩,m⟩
 |_=>none
theorem m9 (cs:List R) (x:Request) (h:ix cs=some x):rP x=cs:=by
 unfold ix at h;split at h
 ·simp only[An]at h;obtain⟨a,ha,b,hb,c,hc,d,hd,e,he,f,hf,g,hg,h,hh,i,hi,j,hj,k,hk,l,hl,m,hm,h⟩:=h;cases h;rw[R.ab ha,R.ab hb,R.ab hc,R.ab hd,R.ab he,R.bB hf,R.ab hg,R.ab hh,R.ab hi,R.ab hj,R.bB hk,R.ab hl,R.ab hm];rfl
 ·cases h
def uI:List R->Option Step
 |[a',b',c',d',e',f',g',h']=>(a'.asI).bind λa=>(b'.asI).bind λb=>(c'.asI).bind λc=>(d'.asL (.int .u8)).bind λd=>(e'.asI).bind λe=>(f'.asI).bind λf=>(g'.asI).bind λg=>(h'.asL (.int .i64)).bind λh=>some ⟨a,b,c,d,⟨⟨e,f,g⟩,h⟩⟩
 |_=>none
theorem tc (cs:List R) (x:Step) (h:uI cs=some x):Au x=cs:=by
 unfold uI at h;split at h
 ·simp only[An]at h;obtain⟨a,ha,b,hb,c,hc,d,hd,e,he,f,hf,g,hg,h,hh,h⟩:=h;cases h;rw[R.ab ha,R.ab hb,R.ab hc,R.bB hd,R.ab he,R.ab hf,R.ab hg,R.bB hh];rfl
 ·cases h
def oF:List R->Option Event
 |[a',b',c',d',e',f',g']=>(a'.asI).bind λa=>(b'.asI).bind λb=>(c'.asI).bind λc=>(d'.asI).bind λd=>(e'.asI).bind λe=>(f'.asI).bind λf=>(g'.asL (.int .i64)).bind λg=>some ⟨a,b,c,⟨⟨d,e,f⟩,g⟩⟩
 |_=>none
theorem qh (cs:List R) (x:Event) (h:oF cs=some x):yJ x=cs:=by
 unfold oF at h;split at h
 ·simp only[An]at h;obtain⟨a,ha,b,hb,c,hc,d,hd,e,he,f,hf,g,hg,h⟩:=h;cases h;rw[R.ab ha,R.ab hb,R.ab hc,R.ab hd,R.ab he,R.ab hf,R.bB hg];rfl
 ·cases h
def oG:List R->Option Entry
 |[a',b',c',d',e',f',g',h',i',j',k',l',m']=>(a'.asI).bind λa=>(b'.asI).bind λb=>(c'.asI).bind λc=>(d'.asI).bind λd=>(e'.asL (.st .fH)).bind λe=>(f'.asI).bind λf=>(g'.asI).bind λg=>(h'.asI).bind λh=>(i'.asL (.int .i64)).bind λi=>(j'.asI).bind λj=>(k'.asI).bind λk=>(l'.asI).bind λl=>(m'.asB).bind λm=>some ⟨a,⟨⟨b,c,d⟩,e⟩,⟨⟨f,g,h⟩,i⟩,j,k,l,m⟩
 |_=>none
theorem qi (cs:List R) (x:Entry) (h:oG cs=some x):yK x=cs:=by
 unfold oG at h;split at h
 ·simp only[An]at h;obtain⟨a,ha,b,hb,c,hc,d,hd,e,he,f,hf,g,hg,h,hh,i,hi,j,hj,k,hk,l,hl,m,hm,h⟩:=h;cases h;rw[R.ab ha,R.ab hb,R.ab hc,R.ab hd,R.bB he,R.ab hf,R.ab hg,R.ab hh,R.bB hi,R.ab hj,R.ab hk,R.ab hl,R.w5 hm];rfl
 ·cases h
def uJ:List R->Option zg
 |[a',b',c']=>(a'.asI).bind λa=>(b'.asI).bind λb=>(c'.asI).bind λc=>some ⟨a,b,c⟩
 |_=>none
theorem td (cs:List R) (x:zg) (h:uJ cs=some x):zh x=cs:=by
 unfold uJ at h;split at h
 ·simp only[An]at h;obtain⟨a,ha,b,hb,c,hc,h⟩:=h;cases h;rw[R.ab ha,R.ab hb,R.ab hc];rfl
 ·cases h
def rQ:List R->Option uE
 |[a',b',c',d',e']=>(a'.asI).bind λa=>(b'.asT).bind λb=>(c'.asI).bind λc=>(d'.asI).bind λd=>(e'.asI).bind λe=>some ⟨a,b,c,d,e⟩
 |_=>none
theorem qj (cs:List R) (x:uE) (hq:rQ cs=some x):uG x=cs:=by
 unfold rQ at hq;split at hq
 ·simp only[An]at hq;obtain⟨a,ha,b,hb,c,hc,d,hd,e,he,hq⟩:=hq;cases hq;rw[R.ab ha,R.m8 hb,R.ab hc,R.ab hd,R.ab he];rfl
 ·cases hq
def iy:List R->Option iw
 |[a',b',c',d',e',f',g',h',i',j',k',l',m']=>(a'.asI).bind λa=>(b'.asI).bind λb=>(c'.asI).bind λc=>(d'.asI).bind λd=>(e'.asI).bind λe=>(f'.asT).bind λf=>(g'.asI).bind λg=>(h'.asI).bind λh=>(i'.asI).bind λi=>(j'.asI).bind λj=>(k'.asT).bind λk=>(l'.asI).bind λl=>(m'.asI).bind λm=>some ⟨a,b,c,d,e,f,g,h,i,j,k,l,m⟩
 |_=>none
theorem lP (cs:List R) (x:iw) (hq:iy cs=some x):kA x=cs:=by
 unfold iy at hq;split at hq
 ·simp only[An]at hq;obtain⟨a,ha,b,hb,c,hc,d,hd,e,he,f,hf,g,hg,h0,hh,i,hi,j,hj,k,hk,l,hl,m,hm,hq⟩:=hq;cases hq;rw[R.ab ha,R.ab hb,R.ab hc,R.ab hd,R.ab he,R.m8 hf,R.ab hg,R.ab hh,R.ab hi,R.ab hj,R.m8 hk,R.ab hl,R.ab hm];rfl
 ·cases hq
def S.bF:(s:S)->List R->Option s.E
 |.shape=>oB
 |.ax=>kB
 |.fH=>oD
 |.model=>oE
 |.task=>uH
 |.request=>ix
 |.step=>uI
 |.event=>oF
 |.entry=>oG
 |.rO=>uJ
 |.kz=>rQ
 |.cg=>iy
def Ty.jV:(t:Ty)->R->Option t.El
 |.int k,.int k' n=>if k'=k then some n else none
 |.bool,.bool b=>some b
 |.str,.str l=>some l
 |.sl t,.sl t' xs=>if h:t'=t then some (h▸xs)else none
 |.tok,.tok n=>some n
 |.hl t,.sl t' xs=>if h:t'=t then some (some (h▸xs))else none
 |_,_=>none
def Ty.bF:(t:Ty)->List R->Option t.El
 |.st s,cs=>s.bF cs
 |.ho s,cs=>(s.bF cs).bind λx=>some (some x)
 |t,[r]=>t.jV r
 |_,_=>none
theorem Ty.qk (t:Ty) (r:R) (x:t.El) (h:t.jV r=some x):t.cells x=[r]:=by
 cases t with
 |st s=>cases r<;>exact nomatch h
 |int k=>
  cases r with
  |int k' n=>
   replace h:(if k'=k then some n else none)=some x:=h
   split at h
   ·rename_i e;subst e;cases h;rfl
   ·cases h
  |_=>exact nomatch h
 |bool=>
  cases r with
  |bool b=>cases h;rfl
  |_=>exact nomatch h
 |str=>
  cases r with
  |str b=>cases h;rfl
  |_=>exact nomatch h
 |sl t=>
  cases r with
  |sl t' xs=>
   replace h:(if h:t'=t then some (h▸xs)else none)=some x:=h
   split at h
   ·rename_i e;subst e;cases h;rfl
   ·cases h
  |_=>exact nomatch h
 |tok=>
  cases r with
  |tok n=>cases h;rfl
  |_=>exact nomatch h
 |ho s=>cases r<;>exact nomatch h
 |hl t=>
  cases r with
  |sl t' xs=>
   replace h:(if h:t'=t then some (some (h▸xs))else none)=some x:=h
   split at h
   ·rename_i e;subst e;cases h;rfl
   ·cases h
  |_=>exact nomatch h
theorem S.aI (s:S) (cs:List R) (x:s.E) (h:s.bF cs=some x):s.cells x=cs:=by
 cases s
 ·exact qe cs x h
 ·exact oC cs x h
 ·exact qf cs x h
 ·exact qg cs x h
 ·exact tb cs x h
 ·exact m9 cs x h
 ·exact tc cs x h
 ·exact qh cs x h
 ·exact qi cs x h
 ·exact td cs x h
 ·exact qj cs x h
 ·exact lP cs x h
theorem Ty.aI (t:Ty) (cs:List R) (x:t.El) (h:t.bF cs=some x):t.cells x=cs:=by
 cases t with
 |st s=>exact S.aI s cs x h
 |ho s=>
  replace h:(s.bF cs).bind (λx=>some (some x))=some x:=h
  obtain⟨y,hy,e⟩:=An.1 h;cases e
  exact S.aI s cs y hy
 |_=>
  match cs,h with
  |[r],h=>exact Ty.qk _ r x h
end
section
inductive SV where
 |r (d:List Nat) (x:R)
 |bq
 |fI
 |own (i:Nat)
 |sub (i off len:Nat)
 |bsl (i n:Nat)
 |ptr (i idx off:Nat)
 |inn (i x c:Nat)
 |dc (d:List Nat) (cs:List R)
 |agg (cs:List SV)
 |tup (vs:List SV)
 |fn (f:Fn) (first cap:List SV)
 |undef
abbrev SV.i (n:Int):SV:=.r [] (.int .i64 n)
abbrev SV.b (b:Bool):SV:=.r [] (.bool b)
inductive Blk where
 |box (cs:List SV)
 |arr (sh:Option (List Nat)) (t:Ty) (xs:List t.El)
abbrev Heap:=List (Nat× Blk)
structure St where
 aB:List (Nat× SV)
 heap:Heap
 nid:Nat
 n:Nat
 gh:List (Option Nat):=[]
def look {α:Type}:List (Nat× α)->Nat->Option α
 |[],_=>none
 |(k,v)::l,n=>cond (Nat.beq k n) (some v) (look l n)
def put {α:Type}:List (Nat× α)->Nat->α->List (Nat× α)
 |[],n,v=>[(n,v)]
 |(k,u)::l,n,v=>cond (Nat.beq k n) ((k,v)::l) ((k,u)::put l n v)
def idx {α:Type} (xs:List α) (i:Int):Option α:=cond (decide (0<=i)) xs[i.toNat]? none
def mem (i:Nat):List Nat->Bool
 |[]=>false
 |k::l=>cond (Nat.beq k i) true (mem i l)
def hit (T:List Nat):List Nat->Bool
 |[]=>false
 |k::l=>cond (mem k T) true (hit T l)
abbrev Kil:=List Nat× List Nat
mutual
def SV.ai (T:Kil):SV->SV
 |.r d x=>cond (hit T.2 d) .undef (.r d x)
 |.own j=>cond (mem j T.1) .undef (.own j)
 |.sub j o n=>cond (mem j T.1) .undef (.sub j o n)
 |.bsl j n=>cond (mem j T.1) .undef (.bsl j n)
 |.ptr j x o=>cond (mem j T.1) .undef (.ptr j x o)
 |.inn j x c=>cond (mem j T.1||mem j T.2) .undef (.inn j x c)
 |.dc d cs=>cond (hit T.2 d) .undef (.dc d cs)
 |.agg cs=>.agg (ca T cs)
 |.tup cs=>.tup (ca T cs)
 |.fn f a b=>.fn f (ca T a) (ca T b)
 |.bq=>.bq
 |.fI=>.fI
 |.undef=>.undef
def ca (T:Kil):List SV->List SV
 |[]=>[]
 |v::l=>v.ai T::ca T l
end
def Blk.ai (T:Kil):Blk->Option Blk
 |.box cs=>some (.box (ca T cs))
 |.arr none t xs=>some (.arr none t xs)
 |.arr (some d) t xs=>cond (hit T.2 d) none (some (.arr (some d) t xs))
def kC (T:Kil):Heap->Option Heap
 |[]=>some []
 |(k,b)::l=>cond (mem k T.1) (kC T l) ((b.ai T).bind λb=>(kC T l).bind λl=>some ((k,b)::l))
def rR (T:Kil):List (Nat× SV)->List (Nat× SV)
 |[]=>[]
 |(k,v)::l=>(k,v.ai T)::rR T l
def cl (T:Kil) (h:Heap):Option Heap:=
 match T.2 with
 |[]=>some h
 |_=>kC T h
def eV (T:Kil) (s:List (Nat× SV)):List (Nat× SV):=
 match T.2 with
 |[]=>s
 |_=>rR T s
def SV.list (h:Heap) (t:Ty):SV->Option (List Nat× List t.El)
 |.r d x=>(x.asL t).bind λxs=>some (d,xs)
 |.bq=>some ([],[])
 |.own i=>match look h i with
  |some (.arr sh t' xs)=>if e:t'=t then some (i::sh.getD [],e▸xs)else none
  |_=>none
 |.sub i o n=>match look h i with
  |some (.arr sh t' xs)=>if e:t'=t then some (i::sh.getD [],((e▸xs).drop o).take n)else none
  |_=>none
 |_=>none
def SV.asInt (k:IntKind):SV->Option Int
 |.r _ (.int k' n)=>cond (decide (k'=k)) (some n) none
 |_=>none
def SV.asI:SV->Option Int
 |.r _ (.int _ n)=>some n
 |_=>none
def SV.asB:SV->Option Bool
 |.r _ (.bool b)=>some b
 |_=>none
def SV.asR (h:Heap) (t:Ty) (v:SV):Option (List Nat× R):=
 match t with
 |.sl t'=>(v.list h t').bind λp=>some (p.1,.sl t' p.2)
 |.st _=>none
 |.tok=>match v with
  |.r d (.tok n)=>some (d,.tok n)
  |.bq=>some ([],.tok 0)
  |_=>none
 |_=>match v with
  |.r d x=>some (d,x)
  |_=>none
def S.tys:S->List Ty
 |.shape=>[.int .i64,.int .i64,.int .i64]
 |.ax=>[.int .i64,.int .i64,.int .i64,.sl (.int .i64)]
 |.fH=>[.int .i64,.int .i64,.int .i64,.int .i64,.int .i64,.int .i64,.int .i64,.sl (.int .i64),.sl (.int .i64)]
 |.model=>[.int .i64,.int .i64,.int .i64,.sl (.st .fH)]
 |.task=>[.int .i64,.sl (.int .i64),.int .i64,.int .i64,.int .i64]
 |.request=>[.int .i64,.int .i64,.int .i64,.int .i64,.int .i64,.sl (.st .fH),.int .i64,.int .i64,.int .i64,.int .i64,.sl (.int .i64),.int .i64,.int .i64]
 |.step=>[.int .i64,.int .i64,.int .i64,.sl (.int .u8),.int .i64,.int .i64,.int .i64,.sl (.int .i64)]
 |.event=>[.int .i64,.int .i64,.int .i64,.int .i64,.int .i64,.int .i64,.sl (.int .i64)]
 |.entry=>[.int .i64,.int .i64,.int .i64,.int .i64,.sl (.st .fH),.int .i64,.int .i64,.int .i64,.sl (.int .i64),.int .i64,.int .i64,.int .i64,.bool]
 |.rO=>[.int .i64,.int .i64,.int .i64]
 |.kz=>[.int .i64,.tok,.int .i64,.int .i64,.int .i64]
 |.cg=>[.int .i64,.int .i64,.int .i64,.int .i64,.int .i64,.tok,.int .i64,.int .i64,.int .i64,.int .i64,.tok,.int .i64,.int .i64]
def Ty.tys:Ty->List Ty
 |.st s=>s.tys
 |.ho s=>s.tys
 |.hl t=>[.sl t]
 |t=>[t]
def uw (h:Heap):List Ty->List SV->Option (List Nat× List R)
 |[],[]=>some ([],[])
 |t::ts,v::vs=>(v.asR h t).bind λp=>(uw h ts vs).bind λq=>some (p.1++q.1,p.2::q.2)
 |_,_=>none
def Bq (h:Heap) (t:Ty) (vs:List SV):Option (List Nat× t.El):=
 (uw h t.tys vs).bind λp=>(t.bF p.2).bind λx=>some (p.1,x)
def SV.cells:SV->Option (List SV)
 |.agg cs=>some cs
 |.tup _=>none
 |.undef=>none
 |v=>some [v]
mutual
def SV.ids:SV->List Nat
 |.own i=>[i]
 |.sub i _ _=>[i]
 |.bsl i _=>[i]
 |.ptr i _ _=>[i]
 |.agg cs=>uy cs
 |.tup cs=>uy cs
 |.fn _ a b=>uy a++uy b
 |_=>[]
def uy:List SV->List Nat
 |[]=>[]
 |v::l=>v.ids++uy l
end
def fJ:List Nat->List Nat->List Nat
 |acc,[]=>acc
 |acc,i::l=>cond (mem i acc) (fJ acc l) (fJ (acc++[i]) l)
def yL (h:Heap):List Nat->List Nat
 |[]=>[]
 |i::l=>(match look h i with
  |some (.box cs)=>uy cs
  |_=>[])++yL h l
def reach (h:Heap):Nat->List Nat->List Nat
 |0,L=>L
 |n+1,L=>reach h n (fJ L (yL h L))
def jh:Value->Option SV
 |.bool b=>some (.b b)
 |.int k n=>some (.r [] (.int k n))
 |.string s=>some (.r [] (.str s.data.toList))
 |.slice none 0 0=>some .bq
 |.pointer none=>some .fI
 |_=>none
def l8:List Value->Option (List SV)
 |[]=>some []
 |v::l=>(jh v).bind λx=>(l8 l).bind λxs=>some (x::xs)
def rS:Value->Option SV
 |.agg cs=>(l8 cs.toList).bind λl=>some (.agg l)
 |v=>jh v
def opd (aB:List (Nat× SV)):Operand->Option SV
 |.tmp t=>look aB t
 |.const v=>rS v
 |.func f=>some (.fn (.func f) [] [])
 |.global _=>none
def gW (aB:List (Nat× SV)):List Operand->Option (List SV)
 |[]=>some []
 |x::l=>(opd aB x).bind λv=>(gW aB l).bind λvs=>some (v::vs)
end
section
abbrev TT:=TypeId->Option Ty
def dK:Nat:=2^38
def kD (P:Program) (T:TypeId):Bool:=
 match P.underlying T with
 |some (.struct _)=>true
 |some (.array _ _)=>true
 |_=>false
def dy (P:Program) (T:TypeId):Option TypeId:=
 match P.underlying T with
 |some (.slice e)=>some e
 |_=>none
def ji (P:Program) (T:TypeId) (f:Nat):Option Field:=
 match P.underlying T with
 |some (.struct fs)=>(fs[f]?).bind λf=>(P.info? f.type).bind λi=>cond (Nat.beq i.size 0) none (some f)
 |_=>none
def cn (P:Program) (T:TypeId):Option Nat:=(P.info? T).bind λi=>some i.size
def iz (P:Program):List Field->Option (List (Nat× Nat))
 |[]=>some []
 |f::fs=>(cn P f.type).bind λs=>(iz P fs).bind λl=>some ((f.offset,s)::l)
def takeN {α:Type} (n:Nat) (l:List α):Option (List α):=cond (Nat.ble n l.length) (some (l.take n)) none
def cp (P:Program) (T:TypeId) (cs:List SV):Option SV:=
  (P.underlying T).bind λ_=>(P.info? T).bind λi=>(takeN i.size cs).bind λl=>
    cond (kD P T) (some (.agg l)) (match l with|[v]=>some v|_=>none)
def mkR (d:List Nat):R->SV
 |.sl t xs=>.r d (.sl t xs)
 |x=>.r [] x
def uK (i:Nat):Option (List Nat)->List Nat
 |none=>[i]
 |some d=>d
def dz (h:Heap):SV->Option (List SV)
 |.dc d cs=>some (cs.map (mkR d))
 |.ptr i x o=>match look h i with
  |some (.box cs)=>some (cs.drop o)
  |some (.arr sh t xs)=>(xs[x]?).bind λe=>some (((t.cells e).map (mkR (uK i sh))).drop o)
  |_=>none
 |_=>none
def bG (P:Program) (T:TypeId):Option (List SV):=
 (P.info? T).bind λi=>i.zero.bind λz=>(rS z).bind λv=>v.cells
def fy (place:Nat->Option (Nat× Nat)):List SV->List (Nat× SV)->Option (List SV)
 |cs,[]=>some cs
 |cs,(k,v)::l=>(place k).bind λp=>v.cells.bind λvs=>
   cond (Nat.beq vs.length p.2) (cond (Nat.ble (p.1+vs.length) cs.length) (fy place (cs.take p.1++vs++cs.drop (p.1+vs.length)) l) none) none
def Aj (op:BinOp) (k:IntKind) (a b:Int):Option R:=
 match op with
 |.add=>some (.int k (k.wrap (a+b)))
 |.sub=>some (.int k (k.wrap (a-b)))
 |.mul=>some (.int k (k.wrap (a*b)))
 |.quo=>cond (decide (b=0)) none (some (.int k (k.wrap (a.tdiv b))))
 |.rem=>cond (decide (b=0)) none (some (.int k (a.tmod b)))
 |.and=>some (.int k (k.wrap (BitVec.ofInt k.bits a&&& BitVec.ofInt k.bits b).toNat))
 |.or=>some (.int k (k.wrap (BitVec.ofInt k.bits a||| BitVec.ofInt k.bits b).toNat))
 |.xor=>some (.int k (k.wrap (BitVec.ofInt k.bits a^^^ BitVec.ofInt k.bits b).toNat))
 |.eql=>some (.bool (a==b))
 |.neq=>some (.bool (a !=b))
 |.lss=>some (.bool (decide (a<b)))
 |.leq=>some (.bool (decide (a<=b)))
 |.gtr=>some (.bool (decide (a>b)))
 |.geq=>some (.bool (decide (a>=b)))
 |_=>none
def oH (op:BinOp) (k:IntKind) (a b:Int):Option R:=
  cond (decide (b<0)) none
    (match op with
     |.shl=>some (.int k (k.wrap (a*2^(min b.toNat k.bits))))
     |.shr=>some (.int k (a.fdiv (2^(min b.toNat k.bits))))
     |_=>none)
def Av (op:BinOp) (a b:List UInt8):Option R:=
 match op with
 |.add=>cond (decide (a.length+b.length<=dK)) (some (.str (a++b))) none
 |.eql=>some (.bool (a==b))
 |.neq=>some (.bool (!(a==b)))
 |.lss=>some (.bool (Op.bytesLess a b))
 |.leq=>some (.bool (Op.bytesLess a b||a==b))
 |.gtr=>some (.bool (!(Op.bytesLess a b||a==b)))
 |.geq=>some (.bool (!(Op.bytesLess a b)))
 |_=>none
def w6 (P:Program) (xs ys:List SV):List Field->Option Bool
 |[]=>some true
 |f::fs=>cond (decide (f.name= "_")) none (match P.underlying f.type,xs[f.offset]?,ys[f.offset]? with
  |some (.int _),some (.r _ (.int k a)),some (.r _ (.int l b))=>cond (decide (k=l)) ((w6 P xs ys fs).bind λt=>some (cond (a==b) t false)) none
  |_,_,_=>none)
def Aw (P:Program) (T:TypeId) (xs ys:List SV):Option Bool:=
 cond (P.stoodInHeld T) none (cond (P.eqGuardType P.depth T) none (match P.underlying T with
  |some (.struct fs)=>w6 P xs ys fs.toList
  |_=>none))
def uL:BinOp->Bool
 |.shl|.shr=>true
 |_=>false
def isEq:BinOp->Option Bool
 |.eql=>some true
 |.neq=>some false
 |_=>none
def bin (P:Program) (T:TypeId) (op:BinOp) (x y:SV):Option SV:=
 match x,y with
 |.r _ (.int k a),.r _ (.int l b)=>cond (uL op) ((oH op k a b).bind λr=>some (.r [] r)) (cond (decide (k=l)) ((Aj op k a b).bind λr=>some (.r [] r)) none)
 |.r _ (.str a),.r _ (.str b)=>(Av op a b).bind λr=>some (.r [] r)
 |.r _ (.bool a),.r _ (.bool b)=>match P.underlying T with
  |some .bool=>(isEq op).bind λe=>some (.b (cond e (a==b) (!(a==b))))
  |_=>none
 |.agg a,.agg b=>(isEq op).bind λe=>(Aw P T a b).bind λt=>some (.b (cond e t (!t)))
 |_,_=>none
def un (op:UnOp) (x:SV):Option SV:=
 match op,x with
 |.neg,.r _ (.int k n)=>some (.r [] (.int k (k.wrap (0-n))))
 |.not,.r _ (.bool b)=>some (.b (!b))
 |_,_=>none
def lenOf (h:Heap):SV->Option Nat
 |.r _ (.str l)=>some l.length
 |.r _ (.sl _ xs)=>some xs.length
 |.bq=>some 0
 |.own i=>match look h i with
  |some (.arr _ _ xs)=>some xs.length
  |_=>none
 |.sub _ _ n=>some n
 |.bsl _ n=>some n
 |_=>none
def Br (P:Program) (T:TypeId):SV->Bool
 |.r _ (.str _)=>match P.underlying T with
  |some .string=>true
  |_=>false
 |_=>match P.underlying T with
  |some (.slice _)=>true
  |_=>false
def bounds (n:Nat) (lo hi:Option SV):Option (Nat× Nat):=
  (match hi with
   |none=>some n
   |some v=>v.asI.bind λx=>cond (decide (0<=x/\x<=(n:Int))) (some x.toNat) none).bind λh=>
  (match lo with
   |none=>some 0
   |some v=>v.asI.bind λx=>cond (decide (0<=x/\x<=(h:Int))) (some x.toNat) none).bind λl=>some (l,h)
def slT (P:Program) (T:TypeId) (t:Ty):Bool:=
 match P.underlying T with
 |some (.slice e)=>match cn P e with
  |some n=>Nat.beq n t.sz
  |none=>false
 |_=>false
def rT (P:Program) (T:TypeId):Bool:=
 match P.underlying T with
 |some (.slice e)=>(cn P e).isSome
 |_=>false
def isStr (P:Program) (T:TypeId):Bool:=
 match P.underlying T with
 |some .string=>true
 |_=>false
def BH (n m:Nat):Option SV->Nat
 |none=>n
 |some _=>m
def cH (P:Program) (T:TypeId) (h:Heap) (x:SV) (lo hi:Option SV):Option SV:=
 match x with
 |.r d (.str l)=>cond (isStr P T) ((bounds l.length lo hi).bind λb=>some (.r d (.str ((l.take b.2).drop b.1)))) none
 |.r d (.sl t xs)=>cond (slT P T t) ((bounds xs.length lo hi).bind λb=>some (.r d (.sl t ((xs.take b.2).drop b.1)))) none
 |.bq=>cond (rT P T) ((bounds 0 lo hi).bind λ_=>some .bq) none
 |.own i=>match look h i with
  |some (.arr _ t xs)=>cond (slT P T t) ((bounds xs.length lo hi).bind λb=>some (.sub i b.1 (b.2-b.1))) none
  |_=>none
 |.sub i o n=>match look h i with
  |some (.arr _ t xs)=>cond (slT P T t) ((bounds (BH n (xs.length-o) hi) lo hi).bind λb=>some (.sub i (o+b.1) (b.2-b.1))) none
  |_=>none
 |_=>none
def slN (P:Program) (T:TypeId) (h:Heap) (x:SV):Option Nat:=
 match x with
 |.r _ (.sl t xs)=>cond (slT P T t) (some xs.length) none
 |.own i=>match look h i with
  |some (.arr _ t xs)=>cond (slT P T t) (some xs.length) none
  |_=>none
 |_=>none
def kf (P:Program) (T:TypeId) (h:Heap) (x:SV) (lo:Option SV) (hi m:SV):Option SV:=
 (slN P T h x).bind λn=>m.asI.bind λz=>cond (decide (0<=z/\z<=(n:Int))) ((bounds z.toNat lo (some hi)).bind λ_=>some .undef) none
def au (P:Program) (T:TypeId) (h:Heap) (x:SV) (k:Int):Option SV:=
 match x with
 |.r d (.sl t xs)=>cond (slT P T t) ((idx xs k).bind λe=>some (.dc d (t.cells e))) none
 |.own i=>match look h i with
  |some (.arr _ t xs)=>cond (slT P T t) (cond (decide (0<=k/\k<(xs.length:Int))) (some (.ptr i k.toNat 0)) none) none
  |_=>none
 |.sub i o n=>match look h i with
  |some (.arr _ t _)=>cond (slT P T t) (cond (decide (0<=k/\k<(n:Int))) (some (.ptr i (o+k.toNat) 0)) none) none
  |_=>none
 |.bsl i n=>(dy P T).bind λe=>(cn P e).bind λsz=>cond (decide (0<=k/\k<(n:Int))) (some (.ptr i 0 (k.toNat*sz))) none
 |_=>none
def uM (P:Program) (src dst:TypeId) (x:SV):Option SV:=
 match P.underlying src,P.underlying dst,x with
 |some (.int _),some (.int k),.r _ (.int _ n)=>some (.r [] (.int k (k.wrap n)))
 |some .string,some .string,.r _ (.str l)=>some (.r [] (.str l))
 |_,_,_=>none
def jW (P:Program) (T:TypeId):Bool:=
 match dy P T with
 |some e=>match P.underlying e with
  |some (.int .u8)=>true
  |_=>false
 |none=>false
def bytesOf (l:List Int):List UInt8:=l.map λn=>UInt8.ofNat n.toNat
def wT (aB:List (Nat× SV)):Option Operand->Option (Option SV)
 |none=>some none
 |some x=>(opd aB x).bind λv=>some (some v)
def fK (aB:List (Nat× SV)):List (Nat× Operand)->Option (List (Nat× SV))
 |[]=>some []
 |(k,x)::l=>(opd aB x).bind λv=>(fK aB l).bind λvs=>some ((k,v)::vs)
def bX (P:Program) (s:List (Nat× SV)) (h:Heap) (op:Op):Option SV:=
 match op with
 |.move x|.assign x=>opd s x
 |.pick c a b=>(opd s c).bind λc=>c.asB.bind λc=>cond c (opd s a) (opd s b)
 |.build T parts=>
  match P.underlying T with
  |some (.struct fs)=>(iz P fs.toList).bind λpl=>(bG P T).bind λz=>(fK s parts.toList).bind λps=>
   (fy (λk=>pl[k]?) z ps).bind λcs=>some (.agg cs)
  |_=>none
 |.load T a=>(opd s a).bind λa=>(dz h a).bind λcs=>cp P T cs
 |.nilCheck x=>(opd s x).bind λv=>match v with
  |.ptr i x o=>some (.ptr i x o)
  |.dc d cs=>some (.dc d cs)
  |_=>none
 |.binOp op T x y _=>(opd s x).bind λx=>(opd s y).bind λy=>bin P T op x y
 |.unOp op _ x=>(opd s x).bind λx=>un op x
 |.convert src dst x=>(opd s x).bind λx=>cond (jW P src&&isStr P dst) ((x.list h (.int .u8)).bind λp=>some (.r [] (.str (bytesOf p.2)))) (uM P src dst x)
 |.makeFunc fn first cap=>(gW s first.toList).bind λa=>(gW s cap.toList).bind λb=>some (.fn fn a b)
 |.slice T x lo hi none=>(opd s x).bind λx=>(wT s lo).bind λlo=>(wT s hi).bind λhi=>cH P T h x lo hi
 |.slice T x lo (some hi) (some m)=>(opd s x).bind λx=>(wT s lo).bind λlo=>(opd s hi).bind λhi=>(opd s m).bind λm=>kf P T h x lo hi m
 |.fieldAddr T x f=>(opd s x).bind λx=>(ji P T f).bind λf=>match x with
  |.dc d cs=>some (.dc d (cs.drop f.offset))
  |.ptr i k o=>some (.ptr i k (o+f.offset))
  |_=>none
 |.field T x f=>(opd s x).bind λx=>(ji P T f).bind λf=>match x with
  |.agg cs=>cp P f.type (cs.drop f.offset)
  |_=>none
 |.indexAddr T x k=>(opd s x).bind λx=>(opd s k).bind λk=>k.asI.bind λk=>au P T h x k
 |.index T x k=>(opd s x).bind λx=>(opd s k).bind λk=>k.asI.bind λk=>match x with
  |.r _ (.str l)=>cond (isStr P T) ((idx l k).bind λc=>some (.r [] (.int .u8 c.toNat))) none
  |_=>none
 |.extract x k=>(opd s x).bind λx=>match x with
  |.tup vs=>vs[k]?
  |_=>none
 |.call {callee:=.builtin .len,args,argTypes}=>(gW s args.toList).bind λvs=>match vs,argTypes.toList with
  |[v],T::_=>cond (Br P T v) ((lenOf h v).bind λn=>some (.i n)) none
  |_,_=>none
 |.call {callee:=.builtin .cap,args,argTypes}=>(gW s args.toList).bind λvs=>match vs,argTypes.toList with
  |[.bq],T::_=>cond (rT P T) (some (.i 0)) none
  |_,_=>none
 |.call {callee:=.builtin .min,args,.. }=>(gW s args.toList).bind λvs=>match vs with
  |[.r _ (.int k a),.r _ (.int _ b)]=>some (.r [] (.int k (if b<a then b else a)))
  |[.r _ (.int k a),.r _ (.int _ b),.r _ (.int _ c)]=>some (.r [] (.int k (if c<(if b<a then b else a)then c else(if b<a then b else a))))
  |_=>none
 |.call {callee:=.builtin .max,args,.. }=>(gW s args.toList).bind λvs=>match vs with
  |[.r _ (.int k a),.r _ (.int _ b)]=>some (.r [] (.int k (if b>a then b else a)))
  |_=>none
 |_=>none
def na {α:Type} (h:Heap) (v:SV) (K:List SV->Option α):Option α:=
 match v with
 |.dc d cs=>K (cs.map (mkR d))
 |.ptr i x o=>match look h i with
  |some (.box cs)=>K (cs.drop o)
  |some (.arr sh t xs)=>(xs[x]?).bind λe=>K (((t.cells e).map (mkR (uK i sh))).drop o)
  |_=>none
 |_=>none
def zi {α:Type} (op:BinOp) (k:IntKind) (a b:Int) (K:R->Option α):Option α:=
 match op with
 |.quo=>cond (decide (b=0)) none (K (.int k (k.wrap (a.tdiv b))))
 |.rem=>cond (decide (b=0)) none (K (.int k (a.tmod b)))
 |op=>(Aj op k a b).bind K
def ql {α:Type} (op:BinOp) (k:IntKind) (a b:Int) (K:R->Option α):Option α:=
  cond (decide (b<0)) none
    (match op with
     |.shl=>K (.int k (k.wrap (a*2^(min b.toNat k.bits))))
     |.shr=>K (.int k (a.fdiv (2^(min b.toNat k.bits))))
     |_=>none)
def zj {α:Type} (op:BinOp) (a b:List UInt8) (K:R->Option α):Option α:=
 match op with
 |.add=>cond (decide (a.length+b.length<=dK)) (K (.str (a++b))) none
 |op=>(Av op a b).bind K
def BI {α:Type} (P:Program) (T:TypeId) (op:BinOp) (x y:SV) (K:SV->Option α):Option α:=
 match x,y with
 |.r _ (.int k a),.r _ (.int l b)=>cond (uL op) (ql op k a b λr=>K (.r [] r)) (cond (decide (k=l)) (zi op k a b λr=>K (.r [] r)) none)
 |.r _ (.str a),.r _ (.str b)=>zj op a b λr=>K (.r [] r)
 |x,y=>(bin P T op x y).bind K
def fL {α:Type} (n:Nat) (lo hi:Option SV) (K:Nat->Nat->Option α):Option α:=
 let lower (h:Nat):Option α:=match lo with
  |none=>K 0 h
  |some v=>v.asI.bind λx=>cond (decide (0<=x/\x<=(h:Int))) (K x.toNat h) none
 match hi with
 |none=>lower n
 |some v=>v.asI.bind λx=>cond (decide (0<=x/\x<=(n:Int))) (lower x.toNat) none
def uN {α:Type} (P:Program) (T:TypeId) (h:Heap) (x:SV) (lo hi:Option SV) (K:SV->Option α):Option α:=
 match x with
 |.r d (.str l)=>cond (isStr P T) (fL l.length lo hi λa b=>K (.r d (.str ((l.take b).drop a)))) none
 |.r d (.sl t xs)=>cond (slT P T t) (fL xs.length lo hi λa b=>K (.r d (.sl t ((xs.take b).drop a)))) none
 |.bq=>cond (rT P T) (fL 0 lo hi λ_ _=>K .bq) none
 |.own i=>match look h i with
  |some (.arr _ t xs)=>cond (slT P T t) (fL xs.length lo hi λa b=>K (.sub i a (b-a))) none
  |_=>none
 |.sub i o n=>match look h i with
  |some (.arr _ t xs)=>cond (slT P T t) (fL (BH n (xs.length-o) hi) lo hi λa b=>K (.sub i (o+a) (b-a))) none
  |_=>none
 |_=>none
def jj {α:Type} (P:Program) (T:TypeId) (h:Heap) (x:SV) (k:Int) (K:SV->Option α):Option α:=
 match x with
 |.r d (.sl t xs)=>cond (slT P T t) ((idx xs k).bind λe=>K (.dc d (t.cells e))) none
 |.own i=>match look h i with
  |some (.arr _ t xs)=>cond (slT P T t) (cond (decide (0<=k/\k<(xs.length:Int))) (K (.ptr i k.toNat 0)) none) none
  |_=>none
 |.sub i o n=>match look h i with
  |some (.arr _ t _)=>cond (slT P T t) (cond (decide (0<=k/\k<(n:Int))) (K (.ptr i (o+k.toNat) 0)) none) none
  |_=>none
 |x=>(au P T h x k).bind K
def oI {α:Type} (P:Program) (T:TypeId) (h:Heap) (x:SV) (lo:Option SV) (hi m:SV) (K:SV->Option α):Option α:=
 (slN P T h x).bind λn=>m.asI.bind λz=>cond (decide (0<=z/\z<=(n:Int))) (fL z.toNat lo (some hi) λ_ _=>K .undef) none
def eW {α:Type} (P:Program) (s:List (Nat× SV)) (h:Heap) (op:Op) (K:SV->Option α):Option α:=
 match op with
 |.load T a=>(opd s a).bind λa=>na h a λcs=>(cp P T cs).bind K
 |.binOp op T x y _=>(opd s x).bind λx=>(opd s y).bind λy=>BI P T op x y K
 |.slice T x lo hi none=>(opd s x).bind λx=>(wT s lo).bind λlo=>(wT s hi).bind λhi=>uN P T h x lo hi K
 |.slice T x lo (some hi) (some m)=>(opd s x).bind λx=>(wT s lo).bind λlo=>(opd s hi).bind λhi=>(opd s m).bind λm=>oI P T h x lo hi m K
 |.indexAddr T x k=>(opd s x).bind λx=>(opd s k).bind λk=>k.asI.bind λk=>jj P T h x k K
 |.index T x k=>(opd s x).bind λx=>(opd s k).bind λk=>k.asI.bind λk=>match x with
  |.r _ (.str l)=>cond (isStr P T) ((idx l k).bind λc=>K (.r [] (.int .u8 c.toNat))) none
  |_=>none
 |op=>(bX P s h op).bind K
theorem bu {α β:Type} (b:Bool) (x y:Option α) (K:α->Option β):(cond b x y).bind K=cond b (x.bind K) (y.bind K):=by cases b<;>rfl
theorem qm {α:Type} (h:Heap) (v:SV) (K:List SV->Option α):na h v K=(dz h v).bind K:=by
 unfold na dz;grind
theorem w7 {α:Type} (op:BinOp) (k:IntKind) (a b:Int) (K:R->Option α):zi op k a b K=(Aj op k a b).bind K:=by
 unfold zi;split
 ·show _=(cond _ none (some _)).bind K;rw[bu];rfl
 ·show _=(cond _ none (some _)).bind K;rw[bu];rfl
 ·rfl
theorem tf {α:Type} (op:BinOp) (k:IntKind) (a b:Int) (K:R->Option α):ql op k a b K=(oH op k a b).bind K:=by
 unfold ql oH;grind
theorem w9 {α:Type} (op:BinOp) (a b:List UInt8) (K:R->Option α):zj op a b K=(Av op a b).bind K:=by
 unfold zj;split
 ·show _=(cond _ (some _) none).bind K;rw[bu];rfl
 ·rfl
theorem zk {α:Type} (P:Program) (T:TypeId) (op:BinOp) (x y:SV) (K:SV->Option α):BI P T op x y K=(bin P T op x y).bind K:=by
 unfold BI;split
 ·simp only[bin,bu,tf,w7,Dy,Dn,DN]
 ·simp only[bin,w9,Dy,Dn]
 ·rfl
theorem dq {α:Type} (n:Nat) (lo hi:Option SV) (K:Nat->Nat->Option α):fL n lo hi K=(bounds n lo hi).bind λb=>K b.1 b.2:=by
 unfold fL bounds;cases hi<;>cases lo<;>simp only[Dy,Dn,bu,DN]
theorem uO {α:Type} (P:Program) (T:TypeId) (h:Heap) (x:SV) (lo hi:Option SV) (K:SV->Option α):uN P T h x lo hi K=(cH P T h x lo hi).bind K:=by
 unfold uN cH;split
 ·simp only[bu,dq,Dy,Dn,DN]
 ·simp only[bu,dq,Dy,Dn,DN]
 ·simp only[bu,dq,Dy,Dn,DN]
 ·split
  ·simp only[bu,dq,Dy,Dn,DN]
  ·rfl
 ·split
  ·simp only[bu,dq,Dy,Dn,DN]
  ·rfl
 ·rfl
theorem nc {α:Type} (P:Program) (T:TypeId) (h:Heap) (x:SV) (k:Int) (K:SV->Option α):jj P T h x k K=(au P T h x k).bind K:=by
 unfold jj;split
 ·simp only[au,bu,Dy,Dn,DN]
 ·simp only[au];grind
 ·simp only[au];grind
 ·rfl
theorem eX {α:Type} (P:Program) (s:List (Nat× SV)) (h:Heap) (op:Op) (K:SV->Option α):eW P s h op K=(bX P s h op).bind K:=by
 unfold eW;split
 ·simp only[bX,qm,Dy]
 ·simp only[bX,zk,Dy]
 ·simp only[bX,uO,Dy]
 ·simp only[bX,oI,kf,dq,Dy,bu,Dn,DN]
 ·simp only[bX,nc,Dy]
 ·simp only[bX,Dy];grind
 ·rfl
structure CR where
 v:SV
 news:List Blk:=[]
 upd:Heap:=[]
 gone:List Nat:=[]
 dA:List Nat:=[]
def CR.kil (c:CR):Kil:=(c.gone,c.gone++c.dA)
abbrev Out:=SV× List Blk
abbrev Orc:=(ρ:Type)->Nat->List SV->Heap->(CR->Option ρ)->Option ρ
def Ax:Orc:=λ_ _ _ _ _=>none
def newsH:Nat->List Blk->Heap
 |_,[]=>[]
 |n,b::l=>(n,b)::newsH (n+1) l
inductive Co where
 |uP (sh:Bool) (t:Ty)
 |ro (t:Ty)
 |drop
 |dep (j:Nat)
 |zl (t j:Nat)
inductive b6 where
 |slot (t:Nat)
 |cell (t j:Nat)
 |box (i j:Nat)
 |Cj (t j:Nat)
 |gh (k:Nat)
def coV (n:Nat) (h:Heap):Co->SV->SV× List Blk
 |.uP sh t,.bq=>(.own n,[.arr (cond sh (some []) none) t []])
 |.ro t,v=>match v.list h t with
  |some p=>(.r p.1 (.sl t p.2),[])
  |none=>(v,[])
 |.drop,_=>(.undef,[])
 |.dep j,.r d x=>(.r (cond (mem j d) d (d++[j])) x,[])
 |_,v=>(v,[])
def xa (st:St) (i j:Nat) (c:Co):St:=
 match look st.heap i with
 |some (.box cs)=>match cs[j]? with
  |some v=>{st with heap:=put (st.heap++newsH st.nid (coV st.nid st.heap c v).2) i (.box (cs.set j (coV st.nid st.heap c v).1)),nid:=st.nid+(coV st.nid st.heap c v).2.length}
  |none=>st
 |_=>st
def oJ (st:St):b6× Co->St
  | (.slot t, c) => match look st.aB t with
    |some v=>{st with aB:=put st.aB t (coV st.nid st.heap c v).1,heap:=st.heap++newsH st.nid (coV st.nid st.heap c v).2,nid:=st.nid+(coV st.nid st.heap c v).2.length}
    |none=>st
  | (.cell t j, c) => match look st.aB t with
    | some (.agg cs) => match cs[j]? with
      |some v=>{st with aB:=put st.aB t (.agg (cs.set j (coV st.nid st.heap c v).1)),heap:=st.heap++newsH st.nid (coV st.nid st.heap c v).2,nid:=st.nid+(coV st.nid st.heap c v).2.length}
      |none=>st
    |_=>st
  |(.box i j,c)=>xa st i j c
  | (.Cj t j, c) => match look st.aB t with
    |some (.ptr i _ _)=>xa st i j c
    |_=>st
  |(.gh k,_)=>{st with gh:=st.gh.set k none}
def BJ (st:St):Co->Co
 |.zl t j=>match look st.aB t with
  |some (.ptr i _ _)=>match look st.heap i with
   |some (.box cs)=>match cs[j]? with
    |some (.own k)=>.dep k
    |_=>.dep 0
   |_=>.dep 0
  |_=>.dep 0
 |c=>c
def Ay (st:St) (x:b6× Co):St:=oJ st (x.1,BJ st x.2)
def uQ:List (b6× Co)->St->St
 |[],st=>st
 |x::l,st=>uQ l (Ay st x)
structure Env where
 P:Program
 tt:TT
 orc:FuncId->Orc
 wr:FuncId->Bool:=λ_=>false
 wt:Bool:=false
 inn:Bool:=false
 fz:Nat->List (Bool× Nat× List Nat):=λ_=>[]
 wk:Nat->List (b6× Co):=λ_=>[]
 lit:Bool:=false
 tak:Bool:=false
 tkt:List Nat:=[]
 swp:Bool:=false
def upds:Heap->Heap->Heap
 |[],h=>h
 |(k,b)::l,h=>upds l (put h k b)
def Az (s:List (Nat× SV)) (n:Nat) (dst:Option Tmp) (v:SV):Option (List (Nat× SV)):=
 match dst with
 |some t=>cond (Nat.ble (t+1) n) (some (put s t v)) none
 |none=>some s
def St.take (st:St) (dst:Option Tmp) (c:CR):Option St:=
  (cl c.kil (upds c.upd st.heap)).bind λh=>(Az (eV c.kil st.aB) st.n dst c.v).bind λs=>
    some {st with aB:=s,heap:=h++newsH st.nid c.news,nid:=st.nid+c.news.length}
def setCells (cs:List SV) (o:Nat) (vs:List SV):Option (List SV):=
 cond (Nat.ble (o+vs.length) cs.length) (some (cs.take o++vs++cs.drop (o+vs.length))) none
def fM:Ty->Bool
 |.sl _=>false
 |.ho _|.hl _=>false
 |.st .shape|.st .rO|.st .kz|.st .cg=>true
 |.st _=>false
 |_=>true
def isNil {α:Type}:List α->Bool
 |[]=>true
 |_=>false
def tj (h:Heap) (t:Ty):Nat->List SV->Option (List Nat× List t.El)
 |0,_=>some ([],[])
 |n+1,cs=>(Bq h t (cs.take t.sz)).bind λp=>(tj h t n (cs.drop t.sz)).bind λq=>some (p.1++q.1,p.2::q.2)
def SV.uz (h:Heap) (t:Ty) (v:SV):Option (List Nat× R):=
 match t with
 |.sl t'=>match v with
  |.bq=>some ([],.sl t' [])
  |.own i=>match look h i with
   |some (.arr none t1 xs)=>if e:t1=t' then some ([i],.sl t' (e▸xs))else none
   |_=>none
  |_=>none
 |.st _=>none
 |.tok=>match v with
  |.r _ (.tok n)=>some ([],.tok n)
  |.bq=>some ([],.tok 0)
  |_=>none
 |_=>match v with
  |.r _ (.int k n)=>some ([],.int k n)
  |.r _ (.bool b)=>some ([],.bool b)
  |.r _ (.str l)=>some ([],.str l)
  |_=>none
def qn (h:Heap):List Ty->List SV->Option (List Nat× List R)
 |[],[]=>some ([],[])
 |t::ts,v::vs=>(v.uz h t).bind λp=>(qn h ts vs).bind λq=>some (p.1++q.1,p.2::q.2)
 |_,_=>none
def cq (h:Heap) (t:Ty):Nat->List SV->Option (List Nat× List t.El)
 |0,_=>some ([],[])
 |n+1,cs=>(qn h t.tys (cs.take t.sz)).bind λp=>(t.bF p.2).bind λx=>(cq h t n (cs.drop t.sz)).bind λq=>some (p.1++q.1,x::q.2)
def fA:List Nat->Bool
 |[]=>true
 |i::l=>cond (mem i l) false (fA l)
def oK (h:Heap):List SV->Option Bool
 |[]=>some true
 |.own i::l=>(look h i).bind λb=>match b with
  |.arr none _ _=>oK h l
  |.arr (some _) _ _=>some false
  |.box _=>none
 |.r _ (.sl _ _)::_=>some false
 |.sub _ _ _::_=>some false
 |.bsl _ _::_=>some false
 |_::l=>oK h l
def rU (h:Heap) (t:Ty) (n:Nat) (cs:List SV):Option (Option (List Nat)× List Nat× List t.El):=
 (oK h cs).bind λb=>cond b ((cq h t n cs).bind λq=>cond (fA q.1) (some (none,q.1,q.2)) none) ((tj h t n cs).bind λq=>some (some q.1,[],q.2))
def fB (h:Heap):SV->List Nat->List Nat
 |.own i,d=>match look h i with
  |some (.arr (some d') _ _)=>d'
  |_=>d
 |_,d=>d
def gX (h:Heap) (t:Ty) (v:SV):Option (Option (List Nat)× List Nat× List t.El):=
 match v with
 |.bsl i n=>match look h i with
  |some (.box cs)=>(rU h t n cs).bind λq=>some (q.1,i::q.2.1,q.2.2)
  |_=>none
 |_=>(v.list h t).bind λp=>cond (fM t) (some (none,[],p.2)) (some (some (fB h v p.1),[],p.2))
def rV (a b:Option (List Nat)):Option (Option (List Nat)):=
 match a,b with
 |none,none=>some none
 |some d,some d'=>some (some (d++d'))
 |some d,none=>some (some d)
 |none,some d=>some (some d)
def fN (P:Program) (T:TypeId):Bool:=
 match P.info? T with
 |some i=>Nat.ble i.bytes 512
 |none=>false
def AA (E:Env) (s:List (Nat× SV)) (h:Heap) (T:TypeId) (a:Operand):Option SV:=
 cond E.inn (cond (rT E.P T) (match opd s a with
  |some (.ptr i x o)=>match look h i with
   |some (.arr none t _)=>cond (Nat.ble (o+1) t.sz) (some (.inn i x o)) none
   |_=>none
  |_=>none) none) none
def AB {α:Type} (xs:List α) (x:Nat):List (Option α):=(xs.map some).set x none
def oL {α:Type}:List (Option α)->Option (List α)
 |[]=>some []
 |none::_=>none
 |some x::l=>(oL l).bind λl=>some (x::l)
def iA (n:Nat):List R->List SV
 |[]=>[]
 |.sl _ _::l=>.own n::iA (n+1) l
 |r::l=>.r [] r::iA n l
def dL:List R->List Blk
 |[]=>[]
 |.sl t ys::l=>.arr none t ys::dL l
 |_::l=>dL l
def AD (P:Program) (s:List (Nat× SV)) (h:Heap) (src dst:TypeId) (x:Operand):Option Nat:=
 cond (Nat.beq src dst&&jW P src) (match opd s x with
  |some (.own i)=>match look h i with
   |some (.arr _ _ (_::_))=>some i
   |_=>none
  |_=>none) none
def qo (h:Heap):SV->Option (Nat× Nat× Nat)
 |.sub i o n=>some (i,o,n)
 |.own i=>match look h i with
  |some (.arr _ _ xs)=>some (i,0,xs.length)
  |_=>none
 |_=>none
variable {ρ:Type}
def kg (P:Program) (T:TypeId) (h:Heap) (i:Nat) (sh:Option (List Nat)) (t:Ty) (ys:List t.El) (k o:Nat) (x:SV) (K:CR->Option ρ):Option ρ:=
 x.cells.bind λxs=>(cn P T).bind λsz=>cond (Nat.beq sz xs.length&&Nat.ble (o+sz) t.sz) (
  match sh with
  |none=>(qn h ((t.tys.drop o).take sz) xs).bind λp=>cond (fA (i::p.1)) (
    cond (Nat.beq sz t.sz)
     ((t.bF p.2).bind λy=>K {v:=.undef,upd:=[(i,.arr none t (ys.set k y))],gone:=p.1,dA:=[i]})
     ((ys[k]?).bind λe=>(t.bF ((t.cells e).take o++p.2++(t.cells e).drop (o+sz))).bind λy=>K {v:=.undef,upd:=[(i,.arr none t (ys.set k y))],gone:=p.1,dA:=[i]})) none
  |some d=>(uw h ((t.tys.drop o).take sz) xs).bind λp=>cond (mem i p.1) none (
    cond (Nat.beq sz t.sz)
     ((t.bF p.2).bind λy=>K {v:=.undef,upd:=[(i,.arr (some (d++p.1)) t (ys.set k y))],dA:=[i]})
     ((ys[k]?).bind λe=>(t.bF ((t.cells e).take o++p.2++(t.cells e).drop (o+sz))).bind λy=>K {v:=.undef,upd:=[(i,.arr (some (d++p.1)) t (ys.set k y))],dA:=[i]}))) none
def AE (P:Program) (T:TypeId):Bool:=
 match P.underlying T with
 |some (.int _)=>true
 |_=>false
def Ck (E:Env) (h:Heap) (nid n sz:Nat) (t:Ty) (cs:List SV) (K:CR->Option ρ):Option ρ:=
 cond (E.lit&&Nat.beq t.sz sz) (match cq h t n cs with
  |some ([],xs)=>K {v:=.own nid,news:=[.arr none t xs]}
  |_=>K {v:=.bsl nid n,news:=[.box cs]}) (K {v:=.bsl nid n,news:=[.box cs]})
def Cl (E:Env) (nid:Nat) (t:Ty) (xs:List t.El) (K:CR->Option ρ):Option ρ:=
 cond (!isNil E.tkt&&!isNil xs) (K {v:=.r [] (.sl t xs)}) (K {v:=.own nid,news:=[.arr none t xs]})
def qp (E:Env) (h:Heap) (nid:Nat) (e:TypeId) (sz:Nat) (t:Ty) (T':TypeId) (b x:SV) (K:CR->Option ρ):Option ρ:=
 match b with
 |.bq=>cond (AE E.P T'&&(fN E.P e&&Nat.beq t.sz sz)) (x.asI.bind λl=>(bG E.P e).bind λz=>(cq h t 1 z).bind λq=>cond (isNil q.1&&Nat.beq z.length sz) (match q.2 with
   |[y]=>cond (decide (1<=l/\l<=(dK:Int))) (K {v:=.own nid,news:=[.arr none t (List.replicate l.toNat y)]}) none
   |_=>none) none) none
 |_=>none
def qq (h:Heap) (t:Ty) (b x:SV) (K:CR->Option ρ):Option ρ:=
 match b,x with
 |.sub i 0 a,.sub i' o n=>cond (Nat.beq i i') (match look h i with
  |some (.arr (some d) t' xs)=>if he:t'=t then cond (mem i d) none (cond (Nat.ble (a+n) xs.length&&(Nat.ble (o+n) xs.length&&Nat.ble 1 xs.length))
    (K {v:=.sub i 0 (a+n),upd:=[(i,.arr (some d) t ((he▸xs).take a++((he▸xs).drop o).take n++(he▸xs).drop (a+n)))],dA:=[i]}) none)else none
  |_=>none) none
 |_,_=>none
def AF (E:Env) (s:List (Nat× SV)) (h:Heap) (nid:Nat) (T:TypeId) (a:Operand) (K:CR->Option ρ) (D:Option ρ):Option ρ:=
 cond E.tak (match opd s a with
  |some (.ptr i x 0)=>match look h i with
   |some (.arr none (.st st) xs)=>cond (fM (.st st)) D ((xs[x]?).bind λe=>(cp E.P T (iA nid (st.cells e))).bind λv=>
     K {v:=v,news:=dL (st.cells e),upd:=[(i,.arr none (.ho st) (AB xs x))],dA:=[i]})
   |_=>D
  |_=>D) D
def taken (E:Env):Operand->Bool
 |.tmp t=>mem t E.tkt
 |_=>false
def AG (E:Env) (s:List (Nat× SV)) (h:Heap) (nid:Nat) (T:TypeId) (a:Operand) (K:CR->Option ρ) (D:Option ρ):Option ρ:=
  cond (taken E a) (match opd s a with
    | some (.ptr i x 0) => match look h i with
      |some (.arr none (.sl t) xs)=>(xs[x]?).bind λe=>(cp E.P T (iA nid ((Ty.sl t).cells e))).bind λv=>
          K {v:=v,news:=dL ((Ty.sl t).cells e),upd:=[(i,.arr none (.hl t) (AB xs x))],dA:=[i]}
      |_=>none
    |_=>none) D
def nd (E:Env) (s:List (Nat× SV)) (h:Heap) (nid:Nat) (op:Op) (K:CR->Option ρ):Option ρ:=
  match op with
  |.alloc T=>(bG E.P T).bind λz=>K {v:=.ptr nid 0 0,news:=[.box z]}
  |.box _ x=>(opd s x).bind λv=>v.cells.bind λcs=>K {v:=.ptr nid 0 0,news:=[.box cs]}
  | .buildSlice T n parts =>
    (dy E.P T).bind λe=>(cn E.P e).bind λsz=>(fK s parts.toList).bind λps=>(bG E.P e).bind λz=>
      cond (Nat.ble (n*sz) 16777216&&Nat.beq z.length sz) ((fy (λi=>some (i*sz,sz)) (List.replicate (n*sz) .undef) ps).bind λcs=>
        match E.tt e with
        |none=>K {v:=.bsl nid n,news:=[.box cs]}
        |some t=>cond ((fM t||Nat.beq n 0)&&Nat.beq t.sz sz) ((cq h t n cs).bind λx=>cond (isNil x.1) (Cl E nid t x.2 K) none) (Ck E h nid n sz t cs K)) none
  | .makeSlice T l c =>
    (dy E.P T).bind λe=>(cn E.P e).bind λsz=>(E.tt e).bind λt=>(bG E.P e).bind λz=>(opd s l).bind λl=>(opd s c).bind λc=>l.asI.bind λl=>c.asI.bind λc=>
      cond (fN E.P e&&Nat.beq t.sz sz) ((cq h t 1 z).bind λx=>cond (isNil x.1&&Nat.beq z.length sz) (match x.2 with
        |[y]=>cond (decide (0<=l/\l<=c/\c<=(dK:Int))) (K {v:=.own nid,news:=[.arr none t (List.replicate l.toNat y)]}) none
        |_=>none) none) none
  | .call { callee := .builtin .append, args, argTypes } => (gW s args.toList).bind λ vs => match vs, argTypes.toList with
    | [b, x], [T, T'] => (dy E.P T).bind λ e => (cn E.P e).bind λ sz => (E.tt e).bind λ t => cond (fN E.P e && (Nat.beq t.sz sz && Nat.beq T T')) ((bG E.P e).bind λ z => cond (Nat.beq z.length sz)
      ((gX h t x).bind λy=>match b with
        |.bq=>cond (hit y.2.1 (y.1.getD [])) none (cond (Nat.ble y.2.2.length dK) (K {v:=.own nid,news:=[.arr y.1 t y.2.2],gone:=y.2.1}) none)
        | .own i => match look h i with
          | some (.arr sh t' xs) => if he : t' = t then
              (rV sh y.1).bind λsh'=>cond (mem i y.2.1) none (cond (hit (i::y.2.1) (sh'.getD [])) none (cond (Nat.ble (xs.length+y.2.2.length) dK) (K {v:=.own nid,news:=[.arr sh' t ((he▸xs)++y.2.2)],gone:=i::y.2.1}) none))
            else none
          |_=>none
        |b=>qq h t b x K) none) (qp E h nid e sz t T' b x K)
    |_,_=>none
  | .call { callee := .builtin .clear, args, argTypes } => (gW s args.toList).bind λ vs => match vs, argTypes.toList with
    | [v], [T] => (dy E.P T).bind λ e => (bG E.P e).bind λ z => (qo h v).bind λ p => match look h p.1 with
      | some (.arr sh t xs) => cond (Nat.beq z.length t.sz) ((cq h t 1 z).bind λ x => cond (isNil x.1) (match x.2 with
        |[y]=>K {v:=.undef,upd:=[(p.1,.arr sh t (xs.take p.2.1++List.replicate p.2.2 y++xs.drop (p.2.1+p.2.2)))],dA:=[p.1]}
        |_=>none) none) none
      |_=>none
    |_,_=>none
  | .store T a x => (opd s a).bind λ a => (opd s x).bind λ x => match a with
    | .ptr i k o => match look h i with
      |some (.box cs)=>cond (Nat.beq k 0) (x.cells.bind λxs=>(cn E.P T).bind λsz=>cond (Nat.beq sz xs.length) ((setCells cs o xs).bind λcs=>K {v:=.undef,upd:=[(i,.box cs)]}) none) none
      |some (.arr sh t ys)=>kg E.P T h i sh t ys k o x K
      |_=>none
    |_=>none
  | .call { callee := .value f, args, .. } => (opd s f).bind λ f => (gW s args.toList).bind λ vs => match f with
    |.fn (.func g) first cap=>E.orc g ρ nid (first++vs++cap) h K
    |_=>none
  | .load T a => AG E s h nid T a K (match AA E s h T a with
    |some v=>K {v:=v}
    |none=>AF E s h nid T a K (eW E.P s h (.load T a) λv=>K {v:=v}))
  | .convert src dst x => match AD E.P s h src dst x with
    |some i=>K {v:=.own i}
    |none=>eW E.P s h (.convert src dst x) λv=>K {v:=v}
  |op=>eW E.P s h op λv=>K {v:=v}
noncomputable def both (x y:Option ρ):Option ρ:=open Classical in if x=y then x else none
def rW:Op->Option (TypeId× Operand× Bool)
 |.binOp .eql T x (.const (.slice none 0 0)) _=>some (T,x,true)
 |.binOp .neq T x (.const (.slice none 0 0)) _=>some (T,x,false)
 |_=>none
noncomputable def BK (h:Heap) (v:SV) (K:Bool->Option ρ):Option ρ:=
 match v with
 |.bq=>K true
 |.r _ (.sl _ xs)=>cond (isNil xs) (both (K true) (K false)) (K false)
 |.own i=>match look h i with
  |some (.arr _ _ xs)=>cond (isNil xs) (both (K true) (K false)) (K false)
  |_=>none
 |_=>none
noncomputable def Ak (E:Env) (o:Oper) (st:St) (K:St->Option ρ):Option ρ:=
 match rW o.op with
 |some (T,x,e)=>cond (rT E.P T) ((opd st.aB x).bind λv=>BK st.heap v λb=>(st.take o.dst {v:=.b (cond b e (!e))}).bind K) none
 |none=>nd E st.aB st.heap st.nid o.op λc=>(st.take o.dst c).bind K
def zm (ops:List Oper) (j:Nat):Option Tmp:=(ops[j]?).bind (·.dst)
def oN (o:Oper) (st:St) (K:St->Option ρ):Option ρ:=
 (Az st.aB st.n o.dst (.tup [])).bind λs=>K {st with aB:=s}
noncomputable def ng (E:Env) (all:List Oper):List Oper->St->(St->Option ρ)->Option ρ
  |[],st,K=>K st
  | o :: rest, st, K =>
    match o.guard with
    |none=>Ak E o st λst=>ng E all rest st K
    | some (j, want) => (zm all j).bind λ t => (look st.aB t).bind λ v => match v with
      |.tup []=>oN o st λst=>ng E all rest st K
      | v => v.asB.bind λ b =>
        cond b
          (cond want (Ak E o {st with aB:=put st.aB t (.b true)} λst=>ng E all rest st K)
            (oN o {st with aB:=put st.aB t (.b true)} λst=>ng E all rest st K))
          (cond want (oN o {st with aB:=put st.aB t (.b false)} λst=>ng E all rest st K)
            (Ak E o {st with aB:=put st.aB t (.b false)} λst=>ng E all rest st K))
def after (H:Heap) (nid:Nat) (c:CR):Option Heap:=
 (cl c.kil (upds c.upd H)).bind λh=>some (h++newsH nid c.news)
structure DR where
 dst:Option Tmp
 n0:Nat
 c:CR
 see:List Nat
 xb:List SV:=[]
 len:Bool:=false
abbrev SH:=List (Nat× SV)× Heap
def rX (s:List (Nat× SV)) (dst:Option Tmp) (v:SV):List (Nat× SV):=
 match dst with
 |some t=>put s t v
 |none=>s
def tl:Heap->Nat->Blk->Heap
 |[],_,_=>[]
 |(k,u)::l,n,b=>cond (Nat.beq k n) ((k,b)::l) ((k,u)::tl l n b)
def cI:Heap->Heap->Heap
 |[],h=>h
 |(k,b)::l,h=>cI l (tl h k b)
def DR.app (r:DR) (x:SH):Option SH:=
 (cl r.c.kil (cI r.c.upd x.2)).bind λh=>some (rX (eV r.c.kil x.1) r.dst r.c.v,h++newsH r.n0 r.c.news)
def replay (p:Nat->Bool):Nat->List DR->SH->Option SH
 |_,[],x=>some x
 |j,r::l,x=>cond (p j) ((r.app x).bind λx=>replay p (j+1) l x) (replay p (j+1) l x)
def jk (n:Nat):List Edge->Bool
 |[]=>true
 |e::l=>cond (Region.binds .any e) (cond (Nat.ble (e.on+1) n) (jk n l) false) (jk n l)
def oO (ag:List Nat):List Edge->Nat
 |[]=>0
 |e::l=>cond (Region.binds .any e) ((ag.getD e.on 0||| 2^e.on)||| oO ag l) (oO ag l)
def kE:List Nat->List Oper->Option (List Nat)
 |acc,[]=>some acc
 |acc,o::l=>cond (jk acc.length o.after.toList) (kE (acc++[oO acc o.after.toList]) l) none
def cF:List Oper->List Nat
 |[]=>[]
 |o::l=>match o.dst with
  |some t=>t::cF l
  |none=>cF l
def xc (ag:List Nat) (i:Nat):Nat->List Oper->List Nat
 |_,[]=>[]
 |j,o::l=>cond ((ag.getD j 0).testBit i) (xc ag i (j+1) l) (match o.dst with
  |some t=>t::xc ag i (j+1) l
  |none=>xc ag i (j+1) l)
def tn (n:Nat):List Nat->Bool
 |[]=>true
 |i::l=>cond (Nat.ble (i+1) n) (tn n l) false
def bj:List Operand->List Nat
 |[]=>[]
 |.tmp t::l=>t::bj l
 |_::l=>bj l
def eA (T:List Nat) (s:List (Nat× SV)):List Nat->List (Nat× SV)
 |[]=>[]
 |t::l=>cond (mem t T) (eA T s l) (match look s t with
  |some v=>(t,v)::eA T s l
  |none=>eA T s l)
def dO (E:Env):Op->Bool
 |.store _ _ _=>true
 |.load _ _=>E.tak
 |.call {callee:=.builtin .len,.. }|.call {callee:=.builtin .cap,.. }|.call {callee:=.builtin .min,.. }|.call {callee:=.builtin .max,.. }=>false
 |.call {callee:=.builtin _,.. }=>true
 |.call {callee:=.value (.func g),.. }=>E.wr g
 |.call {callee:=.value _,.. }=>E.wt
 |.call _=>false
 |_=>false
def AH (ag:List Nat) (i j:Nat):Bool:=Nat.beq i j||((ag.getD i 0).testBit j||(ag.getD j 0).testBit i)
def jX (E:Env) (ag:List Nat) (i:Nat):Nat->List Oper->Bool
 |_,[]=>false
 |j,o::l=>cond (dO E o.op) (cond (AH ag i j) (jX E ag i (j+1) l) true) (jX E ag i (j+1) l)
def nh (s:List (Nat× SV)):List Nat->List SV
 |[]=>[]
 |t::l=>match look s t with
  |some v=>v::nh s l
  |none=>nh s l
def jY (h:Heap):List Nat->Heap
 |[]=>[]
 |i::l=>match look h i with
  |some b=>(i,b)::jY h l
  |none=>jY h l
def zn:Op->Bool
 |.move _=>true
 |.assign _=>true
 |.extract _ _=>true
 |.nilCheck _=>true
 |.fieldAddr _ _ _=>true
 |_=>false
def AJ:Op->Bool
 |.load _ _=>true
 |_=>false
def BL (E:Env) (ag:List Nat) (i:Nat) (ops:List Oper) (x:SH) (o:Oper):List Nat:=
 cond (jX E ag i 0 ops&&!zn o.op) (reach x.2 (cond (AJ o.op) 0 3) (fJ [] (uy (nh x.1 (bj o.op.operands.toList))))) []
def tp (E:Env) (ag:List Nat) (i:Nat) (ops:List Oper) (x:SH) (o:Oper):Heap:=
 cond (jX E ag i 0 ops) (jY x.2 (BL E ag i ops x o)) x.2
def xd (L:List Nat):Heap->Bool
 |[]=>false
 |(k,_)::l=>cond (mem k L) true (xd L l)
def okW (E:Env) (op:Op) (c:CR):Bool:=cond (dO E op) true (isNil c.kil.2&&isNil c.upd)
mutual
def SV.uA (T:Kil):SV->Bool
 |.r d _=>!hit T.2 d
 |.own i=>!mem i T.1
 |.sub i _ _=>!mem i T.1
 |.bsl i _=>!mem i T.1
 |.ptr i _ _=>!mem i T.1
 |.inn i _ _=>!(mem i T.1||mem i T.2)
 |.dc d _=>!hit T.2 d
 |.agg cs=>kF T cs
 |.tup cs=>kF T cs
 |.fn _ a b=>kF T a&&kF T b
 |.bq=>true
 |.fI=>true
 |.undef=>true
def kF (T:Kil):List SV->Bool
 |[]=>true
 |v::l=>v.uA T&&kF T l
end
def Blk.uA (T:Kil):Blk->Bool
 |.box cs=>kF T cs
 |.arr (some d) _ _=>!hit T.2 d
 |.arr none _ _=>true
def uR (k:Nat) (B:Blk):List DR->Bool
 |[]=>true
 |r::l=>cond ((look r.c.upd k).isNone&&(!mem k r.c.kil.1&&B.uA r.c.kil)) (uR k B l) false
def Bt (h:Heap) (rs:List DR):List Nat->Bool
 |[]=>true
 |k::l=>match look h k with
  |some B=>cond (uR k B rs) (Bt h rs l) false
  |none=>false
def bH (cm:DR->Bool) (r:DR):Bool:=isNil r.c.kil.2&&(isNil r.c.upd&&(isNil r.c.news&&cm r))
def tq (b a:DR):Bool:=a.c.v.uA b.c.kil&&kF b.c.kil a.xb
def AK (b:DR):Heap->Bool
 |[]=>true
 |(k,_)::l=>cond (Nat.ble (k+1) b.n0||Nat.ble (b.n0+b.c.news.length) k) (AK b l) false
def qt (a b:DR):Bool:=(isNil a.c.kil.2&&isNil b.c.kil.2)&&((isNil b.c.upd&&AK b a.c.upd)||(isNil a.c.upd&&AK a b.c.upd))&&(!(xd b.see a.c.upd)&&!(xd a.see b.c.upd))
def gL (cm:DR->Bool) (a b:DR):Bool:=qt a b||((tq b a&&bH cm a)||(tq a b&&bH cm b))
def kG (cm:DR->Bool) (ag:List Nat) (i:Nat) (r:DR):Nat->List DR->Bool
 |_,[]=>true
 |j,b::l=>cond ((ag.getD j 0).testBit i) (kG cm ag i r (j+1) l) (cond (gL cm r b) (kG cm ag i r (j+1) l) false)
def l9 (cm:DR->Bool) (ag:List Nat):Nat->List DR->Bool
 |_,[]=>true
 |i,r::l=>cond (kG cm ag i r (i+1) l) (l9 cm ag (i+1) l) false
def zo:List DR->Nat->SV->List DR
 |[],_,_=>[]
 |r::l,0,v=>{r with c:={r.c with v:=v}}::l
 |r::l,n+1,v=>r::zo l n v
def AL:Op->Bool
 |.indexAddr _ _ _=>true
 |_=>false
def AM (h:Heap):List Nat->Bool
 |[]=>true
 |i::l=>cond (look h i).isSome (AM h l) false
def oQ (x:SH) (o:Oper):List Nat:=fJ [] (uy (nh x.1 (bj o.op.operands.toList)))
def uS (E:Env) (h0:Heap) (x:SH) (o:Oper):Bool:=E.swp&&(AL o.op&&AM h0 (oQ x o))
def uT (E:Env) (ag:List Nat) (i:Nat) (ops:List Oper) (h0:Heap) (x:SH) (o:Oper):Heap:=cond (uS E h0 x o) (jY h0 (oQ x o)) (tp E ag i ops x o)
def Bu (E:Env) (ag:List Nat) (i:Nat) (ops:List Oper) (h0:Heap) (x:SH) (o:Oper):List Nat:=cond (uS E h0 x o) (oQ x o) (BL E ag i ops x o)
def zp (E:Env) (ag:List Nat) (i:Nat) (ops:List Oper) (h0:Heap) (x:SH) (o:Oper) (nid:Nat) (c:CR):DR:=⟨o.dst,nid,c,Bu E ag i ops h0 x o,nh x.1 (bj o.op.operands.toList),uS E h0 x o⟩
def fC (E:Env) (ops:List Oper) (ag dsts:List Nat) (s0:List (Nat× SV)) (h0:Heap):Nat->List Oper->Nat->List DR->(List DR->Nat->Option ρ)->Option ρ
  |_,[],nid,rs,K=>K rs nid
  | i, o :: rest, nid, rs, K =>
    (replay (Nat.testBit (ag.getD i 0)) 0 rs (eA (xc ag i 0 ops) s0 (bj o.op.operands.toList),h0)).bind λx=>
    match o.guard with
    |none=>nd E (eA [] x.1 (bj o.op.operands.toList)) (uT E ag i ops h0 x o) nid o.op λc=>cond (okW E o.op c) (fC E ops ag dsts s0 h0 (i+1) rest (nid+c.news.length) (rs++[zp E ag i ops h0 x o nid c]) K) none
    | some (g, want) => cond (Nat.testBit (ag.getD i 0) g) ((rs[g]?).bind λ r => r.dst.bind λ _ => match r.c.v with
      |.tup []=>fC E ops ag dsts s0 h0 (i+1) rest nid (rs++[⟨o.dst,nid,{v:=.tup []},[],[],false⟩]) K
      | .r [] (.bool b) => cond b
        (cond want
          (nd E (eA [] x.1 (bj o.op.operands.toList)) (uT E ag i ops h0 x o) nid o.op λc=>cond (okW E o.op c) (fC E ops ag dsts s0 h0 (i+1) rest (nid+c.news.length) (zo rs g (.b true)++[zp E ag i ops h0 x o nid c]) K) none)
          (fC E ops ag dsts s0 h0 (i+1) rest nid (zo rs g (.b true)++[⟨o.dst,nid,{v:=.tup []},[],[],false⟩]) K))
        (cond want
          (fC E ops ag dsts s0 h0 (i+1) rest nid (zo rs g (.b false)++[⟨o.dst,nid,{v:=.tup []},[],[],false⟩]) K)
          (nd E (eA [] x.1 (bj o.op.operands.toList)) (uT E ag i ops h0 x o) nid o.op λc=>cond (okW E o.op c) (fC E ops ag dsts s0 h0 (i+1) rest (nid+c.news.length) (zo rs g (.b false)++[zp E ag i ops h0 x o nid c]) K) none))
      |_=>none) none
def kH:List Nat->List Nat->Bool
 |[],_=>true
 |i::l,T=>cond (mem i T) false (kH l T)
def ni (L:List Nat):List DR->Bool
 |[]=>true
 |r::l=>cond (kH L r.c.kil.1) (ni L l) false
def lN (h:Heap) (rs:List DR) (r:DR):Bool:=cond r.len (ni r.see rs) (Bt h rs r.see)
def ma (cm:DR->Bool):List DR->Bool
 |[]=>true
 |r::l=>cond (!r.len||bH cm r) (ma cm l) false
def jl (E:Env) (ops:List Oper) (st:St) (K:St->Option ρ):Option ρ:=
  cond (E.P.follows .mixedOrders) ((kE [] ops).bind λag=>
    cond (fA (cF ops)) (cond (tn st.n (cF ops))
      (fC E ops ag (cF ops) st.aB st.heap 0 ops st.nid [] λrs nid=>cond (l9 (lN st.heap rs) ag 0 rs&&ma (lN st.heap rs) rs)
        ((replay (λ_=>true) 0 rs (st.aB,st.heap)).bind λx=>K {st with aB:=x.1,heap:=x.2,nid:=nid}) none) none) none) none
inductive Ex where
 |normal
 |exit (id:Nat)
 |ret
def refine(c:Operand) (b:Bool) (st:St):St:=
 match c with
 |.tmp t=>{st with aB:=put st.aB t (.b b)}
 |_=>st
abbrev Ev (ρ:Type):=St->(Ex->St->Option ρ)->Option ρ
def inBlock (id:Nat) (K:Ex->St->Option ρ):Ex->St->Option ρ
 |.exit j,st=>cond (Nat.beq j id) (K .normal st) (K (.exit j) st)
 |e,st=>K e st
def wU (i:Nat):List Nat->List Nat
 |[]=>[]
 |k::l=>cond (Nat.beq k i) (wU i l) (k::wU i l)
def rY (i:Nat) (t:Ty) (h:Heap) (v:SV):SV:=
 match v.list h t with
 |some p=>.r (wU i p.1) (.sl t p.2)
 |none=>.undef
mutual
def SV.frz (i:Nat) (t:Ty) (h:Heap):SV->SV
 |.r d x=>.r (wU i d) x
 |.own j=>cond (Nat.beq j i) (rY i t h (.own j)) (.own j)
 |.sub j o n=>cond (Nat.beq j i) (rY i t h (.sub j o n)) (.sub j o n)
 |.bsl j n=>cond (Nat.beq j i) .undef (.bsl j n)
 |.ptr j x o=>cond (Nat.beq j i) .undef (.ptr j x o)
 |.inn j x c=>cond (Nat.beq j i) .undef (.inn j x c)
 |.dc d cs=>.dc (wU i d) cs
 |.agg cs=>.agg (ou i t h cs)
 |.tup cs=>.tup (ou i t h cs)
 |.fn f a b=>.fn f (ou i t h a) (ou i t h b)
 |.bq=>.bq
 |.fI=>.fI
 |.undef=>.undef
def ou (i:Nat) (t:Ty) (h:Heap):List SV->List SV
 |[]=>[]
 |v::l=>v.frz i t h::ou i t h l
end
def Blk.frz (i:Nat) (t:Ty) (h:Heap):Blk->Blk
 |.box cs=>.box (ou i t h cs)
 |.arr none t' xs=>.arr none t' xs
 |.arr (some d) t' xs=>.arr (some (wU i d)) t' xs
def qu (i:Nat) (t:Ty) (h:Heap):Heap->Heap
 |[]=>[]
 |(k,b)::l=>cond (Nat.beq k i) (qu i t h l) ((k,b.frz i t h)::qu i t h l)
def tr (i:Nat) (t:Ty) (h:Heap):List (Nat× SV)->List (Nat× SV)
 |[]=>[]
 |(k,v)::l=>(k,v.frz i t h)::tr i t h l
def BM (i:Nat) (st:St):St:=
 match look st.heap i with
 |some (.arr _ t _)=>{st with aB:=tr i t st.heap st.aB,heap:=qu i t st.heap st.heap}
 |_=>st
def AO (h:Heap):SV->List Nat->Option Nat
 |.own i,[]=>some i
 |.sub i _ _,[]=>some i
 |.agg cs,j::p=>match cs[j]? with
  |some v=>AO h v p
  |none=>none
 |.tup cs,j::p=>match cs[j]? with
  |some v=>AO h v p
  |none=>none
 |.ptr i 0 o,j::p=>match look h i with
  |some (.box cs)=>match cs[o+j]? with
   |some v=>AO h v p
   |none=>none
  |_=>none
 |.bsl i _,j::p=>match look h i with
  |some (.box cs)=>match cs[j]? with
   |some v=>AO h v p
   |none=>none
  |_=>none
 |_,_=>none
termination_by structural _ p=>p
def BN (i:Nat) (st:St):St:=
 match look st.heap i with
 |some (.arr none t xs)=>{st with heap:=put st.heap i (.arr (some []) t xs)}
 |_=>st
def yM (st:St) (x:Bool× Nat× List Nat):St:=
 match look st.aB x.2.1 with
 |some v=>match AO st.heap v x.2.2 with
  |some i=>cond x.1 (BN i st) (BM i st)
  |none=>st
 |none=>st
def rZ:List (Bool× Nat× List Nat)->St->St
 |[],st=>st
 |x::l,st=>rZ l (yM st x)
def Blk.uU (b:Blk) (K:Blk->Option ρ):Option ρ:=
 match b with
 |.arr none (.ho s) zs=>(oL zs).bind λxs=>K (.arr none (.st s) xs)
 |.arr none (.hl t) zs=>(oL zs).bind λxs=>K (.arr none (.sl t) xs)
 |b=>K b
def uV:Heap->(Heap->Option ρ)->Option ρ
 |[],K=>K []
 |(k,b)::l,K=>b.uU λb=>uV l λl=>K ((k,b)::l)
def sa (E:Env) (K:St->Option ρ) (st:St):Option ρ:=cond E.tak (uV st.heap λh=>K {st with heap:=h}) (K st)
noncomputable def ev (E:Env) (LP:Nat->Ev ρ->Ev ρ) (cb:Nat):Code->Ev ρ
 |.skip,st,K=>K .normal st
 |.label _,st,K=>K .normal st
 |.region id ops false,st,K=>ng E ops.toList ops.toList (uQ (E.wk id) (rZ (E.fz id) st)) (sa E (K .normal))
 |.region id ops true,st,K=>jl E ops.toList (uQ (E.wk id) (rZ (E.fz id) st)) (sa E (K .normal))
 |.seq a b,st,K=>ev E LP cb a st λe st=>match e with
  |.normal=>ev E LP cb b st K
  |e=>K e st
 |.cond c t f,st,K=>(opd st.aB c).bind λv=>v.asB.bind λb=>cond b (ev E LP cb t (refine c true st) K) (ev E LP cb f (refine c false st) K)
 |.block id c,st,K=>ev E LP id c st (inBlock id K)
 |.loop c,st,K=>LP cb (λst K=>ev E LP cb c st K) st K
 |.exit id,st,K=>K (.exit id) st
 |.scope c,st,K=>ev E LP cb c st K
 |.ret,st,K=>K .ret st
 |_,_,_=>none
end
section
def Ext {α:Type} (s s':List (Nat× α)):Prop:=∀t v,look s t=some v->look s' t=some v
theorem Ext.rfl' {α:Type} {s:List (Nat× α)}:Ext s s:=λ_ _ h=>h
def Le {α:Type} (x y:Option α):Prop:=∀a,x=some a->y=some a
theorem Le.refl {α:Type} (x:Option α):Le x x:=λ_ h=>h
theorem Le.bind {α β:Type} {x y:Option α} {f g:α->Option β} (h:Le x y) (hf:∀a,Le (f a) (g a)):Le (x.bind f) (y.bind g):=by
 intro b hb;rw[An]at hb⊢;obtain⟨a,h1,h2⟩:=hb;exact⟨a,h a h1,hf a b h2⟩
theorem Le.cond {α:Type} {b:Bool} {x y x' y':Option α} (h:Le x x') (h':Le y y'):Le (cond b x y) (cond b x' y'):=by cases b<;>assumption
theorem Le.none {α:Type} {y:Option α}:Le Option.none y:=λ_ h=>nomatch h
section
variable {s s':List (Nat× SV)} {h h':Heap} {P:Program}
theorem zq (hh:Ext h h') (i:Nat):Le (look h i) (look h' i):=λ_=>hh i _
theorem aN (hs:Ext s s') (x:Operand):Le (opd s x) (opd s' x):=by
 cases x with
 |tmp t=>exactλv hv=>hs t v hv
 |_=>exact Le.refl _
theorem cJ (hs:Ext s s'):(l:List Operand)->Le (gW s l) (gW s' l)
 |[]=>Le.refl _
 |x::l=>(aN hs x).bind λ_=>(cJ hs l).bind λ_=>Le.refl _
theorem qv (hs:Ext s s') (x:Option Operand):Le (wT s x) (wT s' x):=by
 cases x with
 |none=>exact Le.refl _
 |some x=>exact(aN hs x).bind λ_=>Le.refl _
theorem eB (hs:Ext s s'):(l:List (Nat× Operand))->Le (fK s l) (fK s' l)
 |[]=>Le.refl _
 |(_,x)::l=>(aN hs x).bind λ_=>(eB hs l).bind λ_=>Le.refl _
theorem tu (hh:Ext h h') (v:SV):Le (dz h v) (dz h' v):=by
 cases v<;>try exact Le.refl _
 rename_i i x o;intro cs hcs;simp only[dz]at hcs⊢
 cases hl:look h i with
 |none=>rw[hl]at hcs;exact nomatch hcs
 |some B=>rw[hl]at hcs;rw[hh i B hl];exact hcs
theorem xe (hh:Ext h h') (v:SV):Le (lenOf h v) (lenOf h' v):=by
 intro n hn
 cases v with
 |own i=>
  simp only[lenOf]at hn⊢
  cases hl:look h i with
  |none=>rw[hl]at hn;exact nomatch hn
  |some B=>rw[hl]at hn;rw[hh i B hl];exact hn
 |r d x=>cases x<;>exact hn
 |_=>exact hn
theorem tv (hh:Ext h h') (T:TypeId) (v:SV) (lo hi:Option SV):Le (cH P T h v lo hi) (cH P T h' v lo hi):=by
 intro cs hcs
 cases v with
 |own i=>
  simp only[cH]at hcs⊢
  cases hl:look h i with
  |none=>rw[hl]at hcs;exact nomatch hcs
  |some B=>rw[hl]at hcs;rw[hh i B hl];exact hcs
 |sub i o n=>
  simp only[cH]at hcs⊢
  cases hl:look h i with
  |none=>rw[hl]at hcs;exact nomatch hcs
  |some B=>rw[hl]at hcs;rw[hh i B hl];exact hcs
 |r d x=>cases x<;>exact hcs
 |_=>exact hcs
theorem lQ (hh:Ext h h') (T:TypeId) (v:SV) (k:Int):Le (au P T h v k) (au P T h' v k):=by
 intro cs hcs
 cases v with
 |own i=>
  simp only[au]at hcs⊢
  cases hl:look h i with
  |none=>rw[hl]at hcs;exact nomatch hcs
  |some B=>rw[hl]at hcs;rw[hh i B hl];exact hcs
 |sub i o n=>
  simp only[au]at hcs⊢
  cases hl:look h i with
  |none=>rw[hl]at hcs;exact nomatch hcs
  |some B=>rw[hl]at hcs;rw[hh i B hl];exact hcs
 |r d x=>cases x<;>exact hcs
 |_=>exact hcs
theorem qw (hh:Ext h h') (t:Ty) (v:SV):Le (v.list h t) (v.list h' t):=by
 intro p hp
 cases v<;>try exact hp
 all_goals
  simp only[SV.list]at hp⊢;split at hp
  ·rename_i hl;rw[hh _ _ hl];exact hp
  ·exact nomatch hp
theorem AP (hh:Ext h h') (T:TypeId) (x:SV):Le (slN P T h x) (slN P T h' x):=by
 intro n hn
 cases x with
 |own i=>
  simp only[slN]at hn⊢
  cases hl:look h i with
  |none=>rw[hl]at hn;exact nomatch hn
  |some B=>rw[hl]at hn;rw[hh i B hl];exact hn
 |r d x=>cases x<;>exact hn
 |_=>exact hn
theorem jm (hs:Ext s s') (hh:Ext h h') (op:Op):Le (bX P s h op) (bX P s' h' op):=by
 intro v hv;unfold bX at hv;split at hv<;>simp only[bX]
 ·exact aN hs _ v hv
 ·exact aN hs _ v hv
 ·revert hv;exact((aN hs _).bind λc=>(Le.refl _).bind λb=>Le.cond (aN hs _) (aN hs _)) v
 ·revert hv
  split
  ·exact((Le.refl _).bind λ_=>(Le.refl _).bind λ_=>(eB hs _).bind λ_=>Le.refl _) v
  ·exactλh=>nomatch h
 ·exact((aN hs _).bind λa=>(tu hh a).bind λ_=>Le.refl _) v hv
 ·exact((aN hs _).bind λa=>Le.refl _) v hv
 ·exact((aN hs _).bind λa=>(aN hs _).bind λ_=>Le.refl _) v hv
 ·exact((aN hs _).bind λa=>Le.refl _) v hv
 ·exact((aN hs _).bind λa=>Le.cond ((qw hh _ _).bind λ_=>Le.refl _) (Le.refl _)) v hv
 ·exact((cJ hs _).bind λa=>(cJ hs _).bind λ_=>Le.refl _) v hv
 ·exact((aN hs _).bind λa=>(qv hs _).bind λ_=>(qv hs _).bind λ_=>tv hh _ _ _ _) v hv
 ·exact((aN hs _).bind λa=>(qv hs _).bind λ_=>(aN hs _).bind λ_=>(aN hs _).bind λ_=>(AP hh _ _).bind λ_=>Le.refl _) v hv
 ·exact((aN hs _).bind λa=>Le.refl _) v hv
 ·exact((aN hs _).bind λa=>Le.refl _) v hv
 ·exact((aN hs _).bind λa=>(aN hs _).bind λ_=>(Le.refl _).bind λ_=>lQ hh _ _ _) v hv
 ·exact((aN hs _).bind λa=>(aN hs _).bind λ_=>Le.refl _) v hv
 ·exact((aN hs _).bind λa=>Le.refl _) v hv
 ·refine((cJ hs _).bind λvs=>?_) v hv;split
  ·exact Le.cond ((xe hh _).bind λ_=>Le.refl _) (Le.refl _)
  ·exact Le.refl _
 ·exact((cJ hs _).bind λa=>Le.refl _) v hv
 ·exact((cJ hs _).bind λa=>Le.refl _) v hv
 ·exact((cJ hs _).bind λa=>Le.refl _) v hv
 ·exact nomatch hv
theorem oR (hh:Ext h h') (t:Ty) (v:SV):Le (v.asR h t) (v.asR h' t):=by
 cases t with
 |sl t=>exact(qw hh t v).bind λ_=>Le.refl _
 |_=>exact Le.refl _
theorem qx (hh:Ext h h'):(ts:List Ty)->(vs:List SV)->Le (uw h ts vs) (uw h' ts vs)
 |[],[]=>Le.refl _
 |t::ts,v::vs=>(oR hh t v).bind λ_=>(qx hh ts vs).bind λ_=>Le.refl _
 |[],_::_=>Le.refl _
 |_::_,[]=>Le.refl _
theorem zr (hh:Ext h h') (t:Ty) (vs:List SV):Le (Bq h t vs) (Bq h' t vs):=(qx hh _ _).bind λ_=>Le.refl _
theorem sb (hh:Ext h h') (t:Ty):(n:Nat)->(c:List SV)->Le (tj h t n c) (tj h' t n c)
 |0,_=>Le.refl _
 |n+1,_=>(zr hh t _).bind λ_=>(sb hh t n _).bind λ_=>Le.refl _
theorem nj (hh:Ext h h') (t:Ty) (v:SV):Le (v.uz h t) (v.uz h' t):=by
 intro p hp
 cases t with
 |sl t=>
  cases v with
  |own i=>
   simp only[SV.uz]at hp⊢
   cases hl:look h i with
   |none=>rw[hl]at hp;exact nomatch hp
   |some B=>rw[hl]at hp;rw[hh i B hl];exact hp
  |_=>exact hp
 |_=>exact hp
theorem sd (hh:Ext h h'):(ts:List Ty)->(vs:List SV)->Le (qn h ts vs) (qn h' ts vs)
 |[],[]=>Le.refl _
 |t::ts,v::vs=>(nj hh t v).bind λ_=>(sd hh ts vs).bind λ_=>Le.refl _
 |[],_::_=>Le.refl _
 |_::_,[]=>Le.refl _
theorem cU (hh:Ext h h') (t:Ty):(n:Nat)->(c:List SV)->Le (cq h t n c) (cq h' t n c)
 |0,_=>Le.refl _
 |n+1,_=>(sd hh _ _).bind λ_=>(Le.refl _).bind λ_=>(cU hh t n _).bind λ_=>Le.refl _
theorem oS (hh:Ext h h'):(c:List SV)->Le (oK h c) (oK h' c)
 |[]=>Le.refl _
 |v::l=>by
  have ih:=oS hh l
  cases v with
  |own i=>
   refine(zq hh i).bind λb=>?_
   cases b with
   |box _=>exact Le.refl _
   |arr sh _ _=>cases sh with
    |none=>exact ih
    |some _=>exact Le.refl _
  |r d x=>cases x with
   |sl _ _=>exact Le.refl _
   |_=>exact ih
  |sub _ _ _=>exact Le.refl _
  |bsl _ _=>exact Le.refl _
  |_=>exact ih
theorem uW (hh:Ext h h') (t:Ty) (n:Nat) (c:List SV):Le (rU h t n c) (rU h' t n c):=
 (oS hh c).bind λb=>Le.cond ((cU hh t n c).bind λ_=>Le.refl _) ((sb hh t n c).bind λ_=>Le.refl _)
theorem mb (hh:Ext h h') (t:Ty) (v:SV):Le (gX h t v) (gX h' t v):=by
 have ind:∀(v:SV) (p:List Nat× List t.El),v.list h t=some p->fB h' v p.1=fB h v p.1:=λv p hp=>by
  cases v with
  |own i=>
   simp only[SV.list]at hp
   cases hl:look h i with
   |none=>rw[hl]at hp;exact nomatch hp
   |some B=>simp only[fB,hl,hh i B hl]
  |_=>rfl
 have lst:∀v:SV,Le ((v.list h t).bind λp=>cond (fM t) (some (none,[],p.2)) (some (some (fB h v p.1),[],p.2)):Option (Option (List Nat)× List Nat× List t.El)) ((v.list h' t).bind λp=>cond (fM t) (some (none,[],p.2)) (some (some (fB h' v p.1),[],p.2))):=λv q hq=>by
  rw[An]at hq⊢;obtain⟨p,hp,hq⟩:=hq;exact⟨p,qw hh t v p hp,by rw[ind v p hp];exact hq⟩
 cases v with
 |bsl i n=>
  intro p hp;simp only[gX]at hp⊢
  cases hl:look h i with
  |none=>rw[hl]at hp;exact nomatch hp
  |some B=>
   rw[hl]at hp;rw[hh i B hl]
   cases B with
   |box cs=>exact((uW hh t n cs).bind λ_=>Le.refl _) p hp
   |arr _ _ _=>exact nomatch hp
 |r d x=>exact lst (.r d x)
 |bq=>exact lst .bq
 |fI=>exact lst .fI
 |own i=>exact lst (.own i)
 |sub i o n=>exact lst (.sub i o n)
 |ptr i x o=>exact lst (.ptr i x o)
 |inn i x o=>exact lst (.inn i x o)
 |dc d x=>exact lst (.dc d x)
 |agg x=>exact lst (.agg x)
 |tup x=>exact lst (.tup x)
 |fn f a b=>exact lst (.fn f a b)
 |undef=>exact lst .undef
end
end
section
abbrev Cell:=Nat× Nat
def _root_.Go.World.at? (w:World) (p:Cell):Option Value:=w.cell? ⟨p.1,p.2,none⟩
def _root_.Go.World.aU (w:World) (p:Cell):Nat× Nat× Nat:=
 match w.heap[p.1]? with
 |some (.cells c _ fr)=>(fr.1,fr.2,c.size)
 |_=>(0,0,0)
def calm (r:Nat× Nat× Nat):Bool:=decide (r.1=r.2.1\/r.2.2<=r.1)
def whole (r:Nat× Nat× Nat) (o n:Nat):Bool:=calm r&&decide (o=0/\r.2.2=n)
theorem gx {r:Nat× Nat× Nat} {o n:Nat} (h:whole r o n=true):calm r=true:=by
 unfold whole at h;rw[De]at h;exact h.1
theorem se {n:Nat}:whole (0,0,n) 0 n=true:=by simp[whole,calm]
theorem dB {w:World} {b o:Nat} {u:Value} (h:w.at? (b,o)=some u) (hc:calm (w.aU (b,o))=true):w.frozen? ⟨b,o,none⟩=false:=by
 unfold World.at? World.cell? at h;unfold calm World.aU at hc;unfold World.frozen?
 cases hb:w.heap[b]? with
 |none=>rfl
 |some ob=>
  cases ob with
  |cells c t fr=>
   simp only[hb,Ez,D5,if_false]at h;simp only[hb,decide_eq_true_eq]at hc;have:=(Dk.1 h).1;obtain⟨lo,hi⟩:=fr;simp only at hc⊢;rw[Bool.and_eq_false_iff,decide_eq_false_iff_not,decide_eq_false_iff_not]
   omega
  |_=>rfl
theorem oT (w:World) (a:Addr) (v:Value) (p:Cell):(w.setCell a v).aU p=w.aU p:=by
 unfold World.aU World.setCell;simp only[Array.getElem?_modify];by_cases e:a.block=p.1
 ·rw[if_pos e]
  cases hb:w.heap[p.1]? with
  |none=>rfl
  |some ob=>
   cases ob with
   |cells c t fr=>simp only[Eg];split<;>simp
   |_=>rfl
 ·rw[if_neg e]
theorem bP (b:Nat):∀(vs:List Value) (o:Nat) (w:World) (p:Cell),(w.setCells b o vs).aU p=w.aU p
 |[],_,_,_=>rfl
 |v::vs,o,w,p=>(bP b vs (o+1) (w.setCell ⟨b,o,none⟩ v) p).trans (oT w _ v p)
def one:Value->Bool
 |.agg _|.tuple _=>false
 |_=>true
class Tok where
 env:Nat->Value
 uX:∀n,one (env n)=true
 uY:env 0=.slice none 0 0
variable [Tok]
def reg (b o n:Nat) (p:Cell):Prop:=p.1=b/\o<=p.2/\p.2<o+n
def ae (t:Ty) (xs:List t.El) (i j:Nat) (r:R):Prop:=∃x,xs[i]? =some x/\(t.cells x)[j]? =some r
theorem aj {t:Ty} {xs:List t.El} {i j:Nat} {r:R} (h:ae t xs i j r):i<xs.length/\j<t.sz:=by
 obtain⟨x,hx,hr⟩:=h;refine⟨(Db.1 hx).1,?_⟩;have:=(Db.1 hr).1;rwa [Ty.aH]at this
theorem aZ {t:Ty} {xs:List t.El} {i j:Nat} (hi:i<xs.length) (hj:j<t.sz):∃r,ae t xs i j r:=by
 refine⟨(t.cells xs[i])[j]'(by rw[Ty.aH];exact hj),xs[i],?_,?_⟩<;>simp
theorem fO {i j n s c:Nat} (hi:i<n) (hj:j<s) (h:n<=c):i*s+j<c*s:=by
 have h1:(i+1)*s<=c*s:=Dv s (by omega);have:(i+1)*s=i*s+s:=DU i s;omega
inductive cr (w:World) (ok:Cell->Prop):R->Value->Prop
 |int (k:IntKind) (n:Int):cr w ok (.int k n) (.int k n)
 |bool (b:Bool):cr w ok (.bool b) (.bool b)
 |str (l:List UInt8):cr w ok (.str l) (.string ⟨l.toArray⟩)
 |sl (t:Ty) (xs:List t.El) (a:Option Addr) (cap b o:Nat) (vs:Nat->Nat->Value)
   (hcap:xs.length<=cap) (ha:xs=[]\/a=some ⟨b,o,none⟩)
   (hc:∀i j r,ae t xs i j r->ok (b,o+(i*t.sz+j))/\w.at? (b,o+(i*t.sz+j))=some (vs i j))
   (hr:∀i j r,ae t xs i j r->cr w ok r (vs i j)):cr w ok (.sl t xs) (.slice a xs.length cap)
 |tok (n:Nat):cr w ok (.tok n) (Tok.env n)
 |eT (v:Value) (h:one v=true):cr w ok .eT v
theorem cr.frame {w w':World} {ok ok':Cell->Prop} {r:R} {v:Value} (h:cr w ok r v)
  (hf:∀p u,ok p->w.at? p=some u->ok' p/\w'.at? p=some u):cr w' ok' r v:=by
 induction h with
 |int=>exact .int _ _
 |bool=>exact .bool _
 |str=>exact .str _
 |tok=>exact .tok _
 |eT v h=>exact .eT v h
 |sl t xs a cap b o vs hcap ha hc _ ih=>
  exact .sl t xs a cap b o vs hcap ha (λi j r hr=>hf _ _ (hc i j r hr).1 (hc i j r hr).2) ih
structure Row (w:World) (inner:R->Value->(Cell->Prop)->Prop) (t:Ty) (xs:List t.El) (hdr:Value) (fp:Cell->Prop) where
 a:Option Addr
 cap:Nat
 b:Nat
 o:Nat
 vs:Nat->Nat->Value
 fs:Nat->Nat->Cell->Prop
 oU:hdr=.slice a xs.length cap
 hcap:xs.length<=cap
 ha:cap=0\/a=some ⟨b,o,none⟩
 dP:∀j,j<cap*t.sz->(∃v,w.at? (b,o+j)=some v)/\whole (w.aU (b,o+j)) o (cap*t.sz)=true
 hc:∀i j r,ae t xs i j r->w.at? (b,o+(i*t.sz+j))=some (vs i j)
 hr:∀i j r,ae t xs i j r->inner r (vs i j) (fs i j)
 hd1:∀i j r p,ae t xs i j r->fs i j p->¬reg b o (cap*t.sz) p
 hd2:∀i j r i' j' r' p,ae t xs i j r->ae t xs i' j' r'->fs i j p->fs i' j' p->i=i'/\j=j'
 hfp:∀p,fp p↔reg b o (cap*t.sz) p\/∃i j r,ae t xs i j r/\fs i j p
inductive bE (w:World):R->Value->(Cell->Prop)->Prop
 |int (k:IntKind) (n:Int):bE w (.int k n) (.int k n) (λ_=>False)
 |bool (b:Bool):bE w (.bool b) (.bool b) (λ_=>False)
 |str (l:List UInt8):bE w (.str l) (.string ⟨l.toArray⟩) (λ_=>False)
 |sl (t:Ty) (xs:List t.El) (a:Option Addr) (cap b o:Nat) (vs:Nat->Nat->Value) (fs:Nat->Nat->Cell->Prop) (fp:Cell->Prop)
   (hcap:xs.length<=cap) (ha:cap=0\/a=some ⟨b,o,none⟩)
   (dP:∀j,j<cap*t.sz->(∃v,w.at? (b,o+j)=some v)/\whole (w.aU (b,o+j)) o (cap*t.sz)=true)
   (hc:∀i j r,ae t xs i j r->w.at? (b,o+(i*t.sz+j))=some (vs i j))
   (hr:∀i j r,ae t xs i j r->bE w r (vs i j) (fs i j))
   (hd1:∀i j r p,ae t xs i j r->fs i j p->¬reg b o (cap*t.sz) p)
   (hd2:∀i j r i' j' r' p,ae t xs i j r->ae t xs i' j' r'->fs i j p->fs i' j' p->i=i'/\j=j')
   (hfp:∀p,fp p↔reg b o (cap*t.sz) p\/∃i j r,ae t xs i j r/\fs i j p):bE w (.sl t xs) (.slice a xs.length cap) fp
 |tok (n:Nat):bE w (.tok n) (Tok.env n) (λ_=>False)
 |eT (v:Value) (h:one v=true):bE w .eT v (λ_=>False)
theorem bE.row {w:World} {t:Ty} {xs:List t.El} {v:Value} {fp:Cell->Prop} (h:bE w (.sl t xs) v fp):Nonempty (Row w (bE w) t xs v fp):=by
 cases h with
 |sl t xs a cap b o vs fs fp hcap ha dP hc hr hd1 hd2 hfp=>exact⟨⟨a,cap,b,o,vs,fs,rfl,hcap,ha,dP,hc,hr,hd1,hd2,hfp⟩⟩
theorem Row.Bv {w:World} {t:Ty} {xs:List t.El} {v:Value} {fp:Cell->Prop} (h:Row w (bE w) t xs v fp):bE w (.sl t xs) v fp:=by
 obtain⟨a,cap,b,o,vs,fs,rfl,hcap,ha,dP,hc,hr,hd1,hd2,hfp⟩:=h;exact .sl t xs a cap b o vs fs fp hcap ha dP hc hr hd1 hd2 hfp
theorem bE.frame {w w':World} {r:R} {v:Value} {fp:Cell->Prop} (h:bE w r v fp)
  (hf:∀p u,fp p->w.at? p=some u->w'.at? p=some u/\w'.aU p=w.aU p):bE w' r v fp:=by
 induction h with
 |int=>exact .int _ _
 |bool=>exact .bool _
 |str=>exact .str _
 |tok=>exact .tok _
 |eT v h=>exact .eT v h
 |sl t xs a cap b o vs fs fp hcap ha dP hc _ hd1 hd2 hfp ih=>
  have hin:∀i j r,ae t xs i j r->fp (b,o+(i*t.sz+j)):=λi j r hr=>(hfp _).2 (.inl ⟨rfl,by simp,by
   have:=fO (aj hr).1 (aj hr).2 hcap;simp;omega⟩)
  refine .sl t xs a cap b o vs fs fp hcap ha (λj hj=>?_) (λi j r hr=>(hf _ _ (hin i j r hr) (hc i j r hr)).1)
   (λi j r hr=>ih i j r hr λp u hp=>hf p u ((hfp p).2 (.inr ⟨i,j,r,hr,hp⟩))) hd1 hd2 hfp
  obtain⟨⟨v,hv⟩,hi⟩:=dP j hj;have:=hf (b,o+j) v ((hfp _).2 (.inl ⟨rfl,by simp,by simp;omega⟩)) hv;exact⟨⟨v,this.1⟩,by rw[this.2];exact hi⟩
theorem bE.uZ {w:World} {r:R} {v:Value} {fp:Cell->Prop} {ok:Cell->Prop} (h:bE w r v fp) (hok:∀p,fp p->ok p):cr w ok r v:=by
 induction h with
 |int=>exact .int _ _
 |bool=>exact .bool _
 |str=>exact .str _
 |tok=>exact .tok _
 |eT v h=>exact .eT v h
 |sl t xs a cap b o vs fs fp hcap ha dP hc _ hd1 hd2 hfp ih=>
  refine .sl t xs a cap b o vs hcap ?_ (λi j r hr=>⟨hok _ ((hfp _).2 (.inl ⟨rfl,by simp,by
   have:=fO (aj hr).1 (aj hr).2 hcap;simp;omega⟩)),hc i j r hr⟩)
   (λi j r hr=>ih i j r hr λp hp=>hok p ((hfp p).2 (.inr ⟨i,j,r,hr,hp⟩)))
  rcases ha with rfl|h
  ·exact .inl (DL.1 (by omega))
  ·exact .inr h
theorem bE.there {w:World} {r:R} {v:Value} {fp:Cell->Prop} (h:bE w r v fp):∀p,fp p->∃u,w.at? p=some u:=by
 induction h with
 |int=>exactλ_ h=>h.elim
 |bool=>exactλ_ h=>h.elim
 |str=>exactλ_ h=>h.elim
 |tok=>exactλ_ h=>h.elim
 |eT=>exactλ_ h=>h.elim
 |sl t xs a cap b o vs fs fp hcap ha dP hc _ hd1 hd2 hfp ih=>
  intro p hp
  rcases(hfp p).1 hp with⟨h1,h2,h3⟩|⟨i,j,r,hr,hp⟩
  ·obtain⟨p1,p2⟩:=p;have h1:p1=b:=h1;simp only at h1 h2 h3;subst h1;have:=(dP (p2-o) (by omega)).1;rwa [show o+(p2-o)=p2 from by omega]at this
  ·exact ih i j r hr p hp
structure Pl where
 hdr:Nat->Value
 fp:Nat->Cell->Prop
 base:Cell->Prop
def Blk.dC:Blk->Bool
 |.box _=>true
 |.arr _ _ _=>false
def okd (H:Heap) (pl:Pl) (d:List Nat) (p:Cell):Prop:=pl.base p/\∀i B,look H i=some B->(mem i d=true->B.dC=true)->¬pl.fp i p
inductive SVRep (w:World) (H:Heap) (pl:Pl):SV->Value->Prop
 |r (d:List Nat) (x:R) (v:Value) (h:cr w (okd H pl d) x v):SVRep w H pl (.r d x) v
 |bq:SVRep w H pl .bq (.slice none 0 0)
 |fI:SVRep w H pl .fI (.pointer none)
 |own (i:Nat) (sh:Option (List Nat)) (t:Ty) (xs:List t.El) (h:look H i=some (.arr sh t xs)):SVRep w H pl (.own i) (pl.hdr i)
 |sub (i o n:Nat) (sh:Option (List Nat)) (t:Ty) (xs:List t.El) (a a':Option Addr) (cap cf:Nat) (h:look H i=some (.arr sh t xs))
   (hh:pl.hdr i=.slice a xs.length cap) (hn:o+n<=xs.length) (hc:n<=cf) (hc':o+cf=cap) (ha:cf=0\/a'=a.map (·.add (o*t.sz))):
   SVRep w H pl (.sub i o n) (.slice a' n cf)
 |bsl (i n:Nat) (cs:List SV) (a:Addr) (h:look H i=some (.box cs)) (hh:pl.hdr i=.pointer (some a)):SVRep w H pl (.bsl i n) (.slice (some a) n n)
 |ptrB (i o:Nat) (cs:List SV) (b k:Nat) (h:look H i=some (.box cs)) (hh:pl.hdr i=.pointer (some ⟨b,k,none⟩)):SVRep w H pl (.ptr i 0 o) (.pointer (some ⟨b,k+o,none⟩))
 |gY (i x o:Nat) (sh:Option (List Nat)) (t:Ty) (xs:List t.El) (b k n cap:Nat) (h:look H i=some (.arr sh t xs)) (hx:x<xs.length)
   (hh:pl.hdr i=.slice (some ⟨b,k,none⟩) n cap):SVRep w H pl (.ptr i x o) (.pointer (some ⟨b,k+(x*t.sz+o),none⟩))
 |inn (i x c:Nat) (sh:Option (List Nat)) (t:Ty) (xs:List t.El) (b k n cap:Nat) (v:Value) (h:look H i=some (.arr sh t xs)) (hx:x<xs.length) (hc:c<t.sz)
   (hh:pl.hdr i=.slice (some ⟨b,k,none⟩) n cap) (hok:okd H pl [i] (b,k+(x*t.sz+c))) (hv:w.at? (b,k+(x*t.sz+c))=some v) (h1:one v=true):SVRep w H pl (.inn i x c) v
 |dc (d:List Nat) (cs:List R) (b o:Nat) (vs:Nat->Value) (hc:∀j r,cs[j]? =some r->okd H pl d (b,o+j)/\w.at? (b,o+j)=some (vs j))
   (hr:∀j r,cs[j]? =some r->cr w (okd H pl d) r (vs j)):SVRep w H pl (.dc d cs) (.pointer (some ⟨b,o,none⟩))
 |agg (cs:List SV) (vs:Array Value) (hl:cs.length=vs.size) (h1:∀(j:Nat) (v:Value),vs[j]? =some v->one v=true) (h:∀(j:Nat) (x:SV) (v:Value),cs[j]? =some x->vs[j]? =some v->SVRep w H pl x v):SVRep w H pl (.agg cs) (.agg vs)
 |tup (cs:List SV) (vs:Array Value) (hl:cs.length=vs.size) (h:∀(j:Nat) (x:SV) (v:Value),cs[j]? =some x->vs[j]? =some v->SVRep w H pl x v):SVRep w H pl (.tup cs) (.tuple vs)
 |fn (f:Fn) (as bs:List SV) (us vs:Array Value) (hl:as.length=us.size) (h:∀(j:Nat) (x:SV) (v:Value),as[j]? =some x->us[j]? =some v->SVRep w H pl x v)
   (hl':bs.length=vs.size) (h':∀(j:Nat) (x:SV) (v:Value),bs[j]? =some x->vs[j]? =some v->SVRep w H pl x v):SVRep w H pl (.fn f as bs) (.func f us vs)
 |undef (v:Value):SVRep w H pl .undef v
def bg (w:World) (H:Heap) (pl:Pl) (i:Nat):Blk->Prop
 |.box cs=>∃b o,pl.hdr i=.pointer (some ⟨b,o,none⟩)/\(∀p,pl.fp i p↔reg b o cs.length p)/\
   ∀j v,cs[j]? =some v->∃u,w.at? (b,o+j)=some u/\calm (w.aU (b,o+j))=true/\one u=true/\SVRep w H pl v u
 |.arr none t xs=>Nonempty (Row w (bE w) t xs (pl.hdr i) (pl.fp i))
 |.arr (some d) t xs=>Nonempty (Row w (λr v f=>cr w (okd H pl d) r v/\∀p,¬f p) t xs (pl.hdr i) (pl.fp i))
structure aF (H:Heap) (pl:Pl) (w:World):Prop where
 blk:∀i B,look H i=some B->bg w H pl i B
 dis:∀i j B B' p,look H i=some B->look H j=some B'->pl.fp i p->pl.fp j p->i=j
 ob:∀i B p,look H i=some B->pl.fp i p->pl.base p
 nb:∀p,w.at? p=none->pl.base p
end
section
variable [Tok]
section lists
variable {α:Type}
theorem look_cons (k:Nat) (v:α) (l:List (Nat× α)) (n:Nat):look ((k,v)::l) n=if k=n then some v else look l n:=by
 simp only[look];cases h:Nat.beq k n
 ·have:¬k=n:=λe=>by subst e;simp at h
  simp[this]
 ·have:k=n:=Dc h;simp[this]
theorem bh (l:List (Nat× α)) (n m:Nat) (v:α):look (put l n v) m=if n=m then some v else look l m:=by
 induction l with
 |nil=>rw[put,look_cons]
 |cons x l ih=>
  obtain⟨k,u⟩:=x;simp only[put];cases hk:Nat.beq k n
  ·simp only[cond_false,look,ih];cases hm:Nat.beq k m
   ·simp
   ·have h1:k=m:=Dc hm;subst h1
    have:¬n=k:=λe=>by subst e;simp at hk
    simp[this]
  ·have h1:k=n:=Dc hk;subst h1;simp only[cond_true,look];cases hm:Nat.beq k m
   ·have:¬k=m:=λe=>by subst e;simp at hm
    simp[this]
   ·have:k=m:=Dc hm;simp[this]
theorem look_append (l l':List (Nat× α)) (n:Nat):look (l++l') n=(look l n).or (look l' n):=by
 induction l with
 |nil=>simp[look]
 |cons x l ih=>
  obtain⟨k,u⟩:=x;simp only[D0,look];cases Nat.beq k n<;>simp[ih]
theorem mem_iff (i:Nat) (l:List Nat):mem i l=true↔i∈l:=by
 induction l with
 |nil=>simp[mem]
 |cons k l ih=>
  simp only[mem];cases h:Nat.beq k i
  ·have:¬i=k:=λe=>by subst e;simp at h
   simp[ih,this]
  ·have:k=i:=Dc h;simp[this]
theorem bw (T d:List Nat) (h:hit T d=false):∀i,mem i d=true->mem i T=false:=by
 induction d with
 |nil=>intro i hi;simp[mem]at hi
 |cons k l ih=>
  simp only[hit]at h;cases hk:mem k T
  ·rw[hk]at h;intro i hi;rw[mem_iff]at hi
   rcases Dt.1 hi with rfl|hi
   ·exact hk
   ·exact ih h i ((mem_iff i l).2 hi)
  ·rw[hk]at h;simp at h
theorem aq (n:Nat) (l:List Blk) (i:Nat):look (newsH n l) i=if n<=i then l[i-n]? else none:=by
 induction l generalizing n with
 |nil=>simp[newsH,look]
 |cons b l ih=>
  rw[newsH,look_cons,ih];by_cases h:n=i
  ·subst h;simp
  ·by_cases h2:n<=i
   ·rw[if_neg h,if_pos (by omega),if_pos h2];rw[show i-n=(i-(n+1))+1 from by omega];rfl
   ·rw[if_neg h,if_neg (by omega),if_neg h2]
theorem oV (u h:Heap) (i:Nat):look (upds u h) i=match look u.reverse i with|some b=>some b|none=>look h i:=by
 induction u generalizing h with
 |nil=>simp[upds,look]
 |cons x l ih=>
  obtain⟨k,b⟩:=x;rw[upds,ih,List.reverse_cons,look_append,bh,look_cons]
  cases look l.reverse i with
  |some c=>simp
  |none=>by_cases hk:k=i<;>simp[hk,look]
theorem qy (T:Kil) (s:List (Nat× SV)) (t:Nat):look (rR T s) t=(look s t).map (SV.ai T):=by
 induction s with
 |nil=>rfl
 |cons x l ih=>
  obtain⟨k,v⟩:=x;rw[rR,look_cons,look_cons,ih];by_cases h:k=t<;>simp[h]
theorem kI (T:Kil) (h h':Heap) (e:kC T h=some h') (i:Nat):
  look h' i=cond (mem i T.1) none ((look h i).bind (Blk.ai T))/\(∀b,look h i=some b->mem i T.1=false->∃b',b.ai T=some b'):=by
 induction h generalizing h' with
 |nil=>simp only[kC,Da]at e;subst e;simp[look]
 |cons x l ih=>
  obtain⟨k,b⟩:=x;simp only[kC]at e;cases hk:mem k T.1
  ·simp only[hk,cond_false,An,Da]at e;obtain⟨b',hb,l',hl,rfl⟩:=e;rw[look_cons,look_cons];by_cases hi:k=i
   ·subst hi;simp[hk,hb]
   ·simpa[hi]using ih l' hl
  ·simp only[hk,cond_true]at e;have:=ih h' e;rw[look_cons];by_cases hi:k=i
   ·subst hi;simp[hk]at this⊢;exact this
   ·simpa[hi]using this
theorem ba {α:Type} {l:List α} (h:isNil l=true):l=[]:=by cases l with|nil=>rfl|cons _ _=>exact nomatch h
theorem qz {T:Kil} (h:T.2=[]) (h1:∀i,mem i T.1=true->mem i T.2=true):T=([],[]):=by
 obtain⟨a,b⟩:=T;simp only at h h1;subst h
 cases a with
 |nil=>rfl
 |cons x l=>have:=h1 x (by simp[mem]);exact nomatch this
theorem kJ (i:Nat) (a b:List Nat):mem i (a++b)=(mem i a||mem i b):=by
 induction a with
 |nil=>simp[mem]
 |cons x l ih=>simp only[D0,mem,ih];cases Nat.beq x i<;>simp
theorem CR.bI (c:CR):∀i,mem i c.kil.1=true->mem i c.kil.2=true:=λi h=>by
 show mem i (c.gone++c.dA)=true;rw[kJ,show mem i c.gone=true from h];rfl
theorem eC (T:Kil) (l:List SV) (j:Nat):(ca T l)[j]? =(l[j]?).map (SV.ai T):=by
 induction l generalizing j with
 |nil=>rfl
 |cons v l ih=>cases j with
  |zero=>rfl
  |succ j=>simpa[ca]using ih j
theorem bQ (T:Kil) (l:List SV):(ca T l).length=l.length:=by
 induction l with
 |nil=>rfl
 |cons v l ih=>simp[ca,ih]
end lists
def Blk.dM:Blk->Blk->Prop
 |.box a,.box b=>a.length=b.length
 |.arr _ t xs,.arr _ t' ys=>t.sz=t'.sz/\xs.length=ys.length
 |_,_=>False
theorem Blk.aE (b:Blk):b.dM b:=by cases b<;>simp[Blk.dM]
structure dd (T:Kil) (w:World) (H:Heap) (pl:Pl) (w':World) (H':Heap) (pl':Pl):Prop where
 k1:∀i B,look H i=some B->mem i T.1=false->∃B',look H' i=some B'/\B.dM B'/\pl'.hdr i=pl.hdr i
 k2:∀d p u,(∀i,mem i d=true->mem i T.2=false)->okd H pl d p->w.at? p=some u->okd H' pl' d p/\w'.at? p=some u
theorem SVRep.aY {T:Kil} {w w':World} {H H':Heap} {pl pl':Pl} (hk:dd T w H pl w' H' pl') {v:SV} {u:Value} (h:SVRep w H pl v u):
  SVRep w' H' pl' (v.ai T) u:=by
 induction h with
 |r d x v h=>
  simp only[SV.ai];cases hd:hit T.2 d
  ·exact .r d x v (h.frame λp u hp hu=>hk.k2 d p u (bw T.2 d hd) hp hu)
  ·exact .undef _
 |bq=>exact .bq
 |fI=>exact .fI
 |own i sh t xs h=>
  simp only[SV.ai];cases hi:mem i T.1
  ·obtain⟨B',h1,h2,h3⟩:=hk.k1 i _ h hi
   cases B' with
   |box cs=>exact h2.elim
   |arr sh' t' ys=>rw[<-h3];exact .own i sh' t' ys h1
  ·exact .undef _
 |sub i o n sh t xs a a' cap cf h hh hn hc hc' ha=>
  simp only[SV.ai];cases hi:mem i T.1
  ·obtain⟨B',h1,h2,h3⟩:=hk.k1 i _ h hi
   cases B' with
   |box cs=>exact h2.elim
   |arr sh' t' ys=>
    obtain⟨hz,hl⟩:=h2;exact .sub i o n sh' t' ys a a' cap cf h1 (by rw[h3,hh,hl]) (hl▸hn) hc hc' (by rw[<-hz];exact ha)
  ·exact .undef _
 |bsl i n cs a h hh=>
  simp only[SV.ai];cases hi:mem i T.1
  ·obtain⟨B',h1,h2,h3⟩:=hk.k1 i _ h hi
   cases B' with
   |arr _ _ _=>exact h2.elim
   |box ds=>
    exact .bsl i n ds a h1 (h3.trans hh)
  ·exact .undef _
 |ptrB i o cs b k h hh=>
  simp only[SV.ai];cases hi:mem i T.1
  ·obtain⟨B',h1,h2,h3⟩:=hk.k1 i _ h hi
   cases B' with
   |arr _ _ _=>exact h2.elim
   |box ds=>exact .ptrB i o ds b k h1 (h3.trans hh)
  ·exact .undef _
 |gY i x o sh t xs b k n cap h hx hh=>
  simp only[SV.ai];cases hi:mem i T.1
  ·obtain⟨B',h1,h2,h3⟩:=hk.k1 i _ h hi
   cases B' with
   |box cs=>exact h2.elim
   |arr sh' t' ys=>
    obtain⟨hz,hl⟩:=h2;rw[hz];exact .gY i x o sh' t' ys b k n cap h1 (hl▸hx) (h3.trans hh)
  ·exact .undef _
 |inn i x c sh t xs b k n cap v h hx hc hh hok hv h1=>
  simp only[SV.ai];cases hi:(mem i T.1||mem i T.2)
  ·rw[Bool.or_eq_false_iff]at hi;obtain⟨B',g1,g2,g3⟩:=hk.k1 i _ h hi.1
   have g4:=hk.k2 [i] _ v (λj hj=>by
    simp only[mem]at hj;cases hb:Nat.beq i j<;>simp only[hb,cond_true,cond_false]at hj
    ·exact nomatch hj
    ·rw[<-Dc hb];exact hi.2) hok hv
   cases B' with
   |box cs=>exact g2.elim
   |arr sh' t' ys=>
    obtain⟨hz,hl⟩:=g2;rw[hz]at g4 hc;exact .inn i x c sh' t' ys b k n cap v g1 (hl▸hx) hc (g3.trans hh) g4.1 g4.2 h1
  ·exact .undef _
 |dc d cs b o vs hc hr=>
  simp only[SV.ai];cases hd:hit T.2 d
  ·exact .dc d cs b o vs (λj r hj=>hk.k2 d _ _ (bw T.2 d hd) (hc j r hj).1 (hc j r hj).2)
    λj r hj=>(hr j r hj).frame λp u hp hu=>hk.k2 d p u (bw T.2 d hd) hp hu
  ·exact .undef _
 |agg cs vs hl h1 h ih=>
  refine .agg _ vs (by rw[bQ,hl]) h1 λj x v hx hv=>?_;rw[eC]at hx;obtain⟨y,hy,rfl⟩:=Df.1 hx
  exact ih j y v hy hv
 |tup cs vs hl h ih=>
  refine .tup _ vs (by rw[bQ,hl]) λj x v hx hv=>?_;rw[eC]at hx;obtain⟨y,hy,rfl⟩:=Df.1 hx
  exact ih j y v hy hv
 |fn f as bs us vs hl h hl' h' ih ih'=>
  refine .fn f _ _ us vs (by rw[bQ,hl]) (λj x v hx hv=>?_) (by rw[bQ,hl']) λj x v hx hv=>?_
  ·rw[eC]at hx;obtain⟨y,hy,rfl⟩:=Df.1 hx;exact ih j y v hy hv
  ·rw[eC]at hx;obtain⟨y,hy,rfl⟩:=Df.1 hx
   exact ih' j y v hy hv
 |undef v=>exact .undef _
theorem nk (d:List Nat):hit [] d=false:=by
 induction d with
 |nil=>rfl
 |cons k l ih=>simpa[hit,mem]using ih
mutual
theorem aO:(v:SV)->v.ai ([],[])=v
 |.r d x=>by simp[SV.ai,nk]
 |.own j=>by simp[SV.ai,mem]
 |.sub j o n=>by simp[SV.ai,mem]
 |.bsl j n=>by simp[SV.ai,mem]
 |.ptr j x o=>by simp[SV.ai,mem]
 |.inn j x c=>by simp[SV.ai,mem]
 |.dc d cs=>by simp[SV.ai,nk]
 |.agg cs=>by simp[SV.ai,cK cs]
 |.tup cs=>by simp[SV.ai,cK cs]
 |.fn f a b=>by simp[SV.ai,cK a,cK b]
 |.bq=>by simp[SV.ai]
 |.fI=>by simp[SV.ai]
 |.undef=>by simp[SV.ai]
theorem cK:(l:List SV)->ca ([],[]) l=l
 |[]=>rfl
 |v::l=>by simp[ca,aO v,cK l]
end
theorem SVRep.jn {w w':World} {H H':Heap} {pl pl':Pl} (hk:dd ([],[]) w H pl w' H' pl') {v:SV} {u:Value} (h:SVRep w H pl v u):
  SVRep w' H' pl' v u:=by have:=h.aY hk;rwa [aO]at this
end
section
variable [Tok]
section
variable {w:World} {H:Heap} {pl:Pl}
theorem cr.scalar {ok:Cell->Prop} {x:R} {v:Value} (h:cr w ok x v) (ok':Cell->Prop) (hs:∀t xs,x≠.sl t xs):cr w ok' x v:=by
 cases h with
 |int=>exact .int _ _
 |bool=>exact .bool _
 |str=>exact .str _
 |tok=>exact .tok _
 |eT v h=>exact .eT v h
 |sl t xs=>exact(hs t xs rfl).elim
theorem kK {d:List Nat} {x:R} {v:Value} (h:cr w (okd H pl d) x v):SVRep w H pl (mkR d x) v:=by
 cases x with
 |sl t xs=>exact .r _ _ _ h
 |_=>exact .r _ _ _ (h.scalar _ (λ_ _ e=>nomatch e))
theorem cr.isOne {ok:Cell->Prop} {x:R} {v:Value} (h:cr w ok x v):one v=true:=by cases h<;>first|rfl|exact Tok.uX _|assumption
def bJ (w:World) (H:Heap) (pl:Pl) (s:List (Nat× SV)) (a:Act):Prop:=∀t v,look s t=some v->SVRep w H pl v (a.tmps.getD t undef)
theorem kL {v:Value} {x:SV} (h:jh v=some x):SVRep w H pl x v:=by
 unfold jh at h
 split at h<;>first|(cases h)|skip
 ·exact .r _ _ _ (.bool _)
 ·exact .r _ _ _ (.int _ _)
 ·exact .r _ _ _ (.str _)
 ·exact .bq
 ·exact .fI
theorem md:∀{vs:List Value} {l:List SV},l8 vs=some l->l.length=vs.length/\∀(j:Nat) (x:SV) (v:Value),l[j]? =some x->vs[j]? =some v->SVRep w H pl x v
 |[],l,h=>by cases h;exact⟨rfl,λj x v hx _=>by simp at hx⟩
 |v::vs,l,h=>by
  simp only[l8,An,Da]at h;obtain⟨x,hx,xs,hxs,rfl⟩:=h;obtain⟨h1,h2⟩:=md hxs;refine⟨by simp[h1],λj y u hy hu=>?_⟩
  cases j with
  |zero=>simp at hy hu;subst hy hu;exact kL hx
  |succ j=>exact h2 j y u (by simpa using hy) (by simpa using hu)
theorem qA {v:Value} {x:SV} (h:jh v=some x):one v=true:=by
 unfold jh at h
 split at h<;>first|rfl|(cases h)
theorem me:∀{vs:List Value} {l:List SV},l8 vs=some l->∀(j:Nat) (v:Value),vs[j]? =some v->one v=true
 |[],l,_,j,v,hv=>by simp at hv
 |u::vs,l,h,j,v,hv=>by
  simp only[l8,An,Da]at h;obtain⟨x,hx,xs,hxs,rfl⟩:=h
  cases j with
  |zero=>simp at hv;subst hv;exact qA hx
  |succ j=>exact me hxs j v (by simpa using hv)
theorem jo {v:Value} {x:SV} (h:rS v=some x):SVRep w H pl x v:=by
 unfold rS at h;split at h
 ·simp only[An,Da]at h;obtain⟨l,hl,rfl⟩:=h;obtain⟨h1,h2⟩:=md (w:=w) (H:=H) (pl:=pl) hl;refine .agg _ _ (by simpa using h1) (λj v hv=>?_) λj x v hx hv=>h2 j x v hx (by simpa using hv);exact me hl j v (by simpa using hv)
 ·exact kL h
theorem ak {s:List (Nat× SV)} {a:Act} (hs:bJ w H pl s a) {o:Operand} {x:SV} (h:opd s o=some x):SVRep w H pl x (a.eval o):=by
 cases o with
 |tmp t=>exact hs t x h
 |const v=>exact jo h
 |func f=>
  simp only[opd,Da]at h;subst h
  exact .fn _ _ _ _ _ rfl (λj x v hx _=>by simp at hx) rfl (λj x v hx _=>by simp at hx)
 |global g=>exact nomatch h
theorem aV {P:Program} {T:TypeId} {i:TypeInfo} (h:P.info? T=some i) (w:World):(sizeOf T).run P w=.ok i.size w:=by
 simp[sizeOf,typeInfo,h]
theorem aG {P:Program} {T:TypeId} {d:TypeDesc} (h:P.underlying T=some d) (w:World):(underlying T).run P w=.ok d w:=by
 simp[underlying,h]
theorem dr {P:Program} {T:TypeId} {d:TypeDesc} (h:P.underlying T=some d) (w:World):(isAgg T).run P w=.ok (kD P T) w:=by
 simp only[isAgg,Sem.run_bind,aG h,Result.andThen_ok,kD,h];cases d<;>rfl
theorem kM (hr:aF H pl w) {p:SV} {u:Value} (hp:SVRep w H pl p u) {cs:List SV} (h:dz H p=some cs):
  ∃b o,u=.pointer (some ⟨b,o,none⟩)/\∀(j:Nat) (x:SV),cs[j]? =some x->∃y,w.at? (b,o+j)=some y/\one y=true/\SVRep w H pl x y:=by
 cases hp with
 |dc d cs' b o vs hc hr'=>
  simp only[dz,Da]at h;subst h;refine⟨b,o,rfl,λj x hx=>?_⟩;rw[DE]at hx;obtain⟨r,hj,rfl⟩:=Df.1 hx
  exact⟨vs j,(hc j r hj).2,(hr' j r hj).isOne,kK (hr' j r hj)⟩
 |ptrB i o cs' b k hl hh=>
  simp only[dz,hl,Da]at h;subst h;obtain⟨b',o',e,_,hc⟩:=hr.blk i _ hl;rw[hh]at e;cases e;refine⟨b,k+o,rfl,λj x hx=>?_⟩;rw[Dr]at hx;obtain⟨y,h1,_,h3,h4⟩:=hc _ _ hx
  exact⟨y,by rw[DX];exact h1,h3,h4⟩
 |gY i x o sh t xs b k n cap hl hx hh=>
  simp only[dz,hl,An,Da]at h;obtain⟨e,he,rfl⟩:=h;have hb:=hr.blk i _ hl;refine⟨b,k+(x*t.sz+o),rfl,λj y hy=>?_⟩;rw[Dr,DE]at hy;obtain⟨r,hj,rfl⟩:=Df.1 hy;have hcell:ae t xs x (o+j) r:=⟨e,he,hj⟩
  cases sh with
  |none=>
   obtain⟨R⟩:=hb;obtain⟨a',cf,b',o',vs,fs,h1,h2,h3,h4,h5,h6,h7,h8,h9⟩:=R;rw[hh]at h1;cases h1
   have hne:cap≠0:=by omega
   have h3:=h3.resolve_left hne;cases h3;refine⟨vs x (o+j),by rw[show k+(x*t.sz+o)+j=k+(x*t.sz+(o+j))from by omega];exact h5 _ _ _ hcell,?_,?_⟩
   ·exact((h6 _ _ _ hcell).uZ (ok:=λ_=>True) (λ_ _=>trivial)).isOne
   ·refine kK ((h6 _ _ _ hcell).uZ λp hp=>⟨hr.ob i _ p hl ((h9 p).2 (.inr ⟨_,_,_,hcell,hp⟩)),λi' B hB hm hf=>?_⟩);have hp':pl.fp i p:=(h9 p).2 (.inr ⟨_,_,_,hcell,hp⟩);have:=hr.dis i' i _ _ p hB hl hf hp';subst this;have hbx:=hm (by simp[uK,mem]);rw[hl]at hB;cases hB
    simp[Blk.dC]at hbx
  |some d=>
   obtain⟨R⟩:=hb;obtain⟨a',cf,b',o',vs,fs,h1,h2,h3,h4,h5,h6,h7,h8,h9⟩:=R;rw[hh]at h1;cases h1
   have hne:cap≠0:=by omega
   have h3:=h3.resolve_left hne;cases h3
   exact⟨vs x (o+j),by rw[show k+(x*t.sz+o)+j=k+(x*t.sz+(o+j))from by omega];exact h5 _ _ _ hcell,(h6 _ _ _ hcell).1.isOne,kK (h6 _ _ _ hcell).1⟩
 |_=>exact nomatch h
theorem mf {α:Type} {n:Nat} {l m:List α} (h:takeN n l=some m):m.length=n/\∀j,j<n->m[j]? =l[j]? :=by
 unfold takeN at h;cases hn:Nat.ble n l.length
 ·simp[hn]at h
 ·simp only[hn,cond_true,Da]at h;subst h;have:=Dl hn;exact⟨by simp[this],λj hj=>by simp[hj]⟩
theorem nm {P:Program} {T:TypeId} {cs:List SV} {v:SV} (h:cp P T cs=some v) (b o:Nat)
  (hc:∀(j:Nat) (x:SV),cs[j]? =some x->∃y,w.at? (b,o+j)=some y/\one y=true/\SVRep w H pl x y):
  ∃u,(loadVar T ⟨b,o,none⟩).run P w=.ok u w/\SVRep w H pl v u:=by
 simp only[cp,An]at h;obtain⟨d,hd,i,hi,l,hl,h⟩:=h;obtain⟨h1,h2⟩:=mf hl
 have hy:∀j,j<i.size->∃y x,l[j]? =some x/\w.at? (b,o+j)=some y/\SVRep w H pl x y:=λj hj=>by
  have hx:l[j]? =some (l[j]'(by omega)):=Dd (by omega);obtain⟨y,h3,_,h5⟩:=hc j _ ((h2 j hj)▸hx);exact⟨y,_,hx,h3,h5⟩
 cases ha:kD P T
 ·simp only[ha,cond_false]at h
  match l,h1,hl,h,hy,h2 with
  |[x],h1,hl,h,hy,h2=>
   simp only[Da]at h;subst h;have h1:i.size=1:=h1.symm;obtain⟨y,x',h3,h4,h5⟩:=hy 0 (by omega);simp at h3;subst h3;refine⟨y,?_,h5⟩;have h4:w.cell? ⟨b,o,none⟩=some y:=h4;simp[loadVar,dr hd,ha,h4]
 ·simp only[ha,cond_true,Da]at h;subst h
  let f:Nat->Value:=λj=>(w.at? (b,o+j)).getD undef
  have hf:∀j,j<i.size->w.cell? (Addr.add ⟨b,o,none⟩ j)=some (f j):=λj hj=>by
   obtain⟨y,x,_,h4,_⟩:=hy j hj
   have e:Addr.add ⟨b,o,none⟩ j=⟨b,o+j,none⟩:=by
    unfold Addr.add;split
    ·rename_i h0;subst h0;rfl
    ·rfl
   rw[e];show w.at? (b,o+j)=some (f j);simp only[f,h4];rfl
  have mg:∀j,j<i.size->one (f j)=true:=λj hj=>by
   have hx:l[j]? =some (l[j]'(by omega)):=Dd (by omega);obtain⟨y,h3,h4,_⟩:=hc j _ ((h2 j hj)▸hx);simp only[f,h3];exact h4
  refine⟨.agg ((List.range i.size).map f).toArray,?_,?_⟩
  ·simp[loadVar,dr hd,ha,aV hi,run_loadCells (P:=P) w ⟨b,o,none⟩ i.size f hf]
  ·refine .agg _ _ (by simp[h1]) (λj v hv=>by
    by_cases hj:j<i.size
    ·have:v=f j:=by simp[hj]at hv;exact hv.symm
     rw[this];exact mg j hj
    ·simp[hj]at hv) λj x v hx hv=>?_
   have hj:j<i.size:=by have:=(Db.1 hx).1;omega
   obtain⟨y,x',h3,h4,h5⟩:=hy j hj;rw[h3]at hx;cases hx
   have:v=f j:=by simp[hj]at hv;exact hv.symm
   subst this;simp only[f,h4];exact h5
end
end
end Go.Proofs.Ev
