/- The evaluator over the model's code, and that it is sound: part 1. -/
import Derived.Calls
import Derived.Laws.IdiomCopy
import Derived.Laws.Cells
import Derived.Laws.Sem
set_option linter.unusedVariables false
set_option linter.unusedSimpArgs false
set_option linter.unusedSectionVars false
namespace Go.Proofs.Ev
theorem An:type_of% @Option.bind_eq_some_iff:=@Option.bind_eq_some_iff
theorem It:type_of% @Option.some.injEq:=@Option.some.injEq
theorem J5:type_of% @List.getElem?_eq_some_iff:=@List.getElem?_eq_some_iff
theorem J6:type_of% @Nat.eq_of_beq_eq_true:=@Nat.eq_of_beq_eq_true
theorem J7:type_of% @List.getElem?_eq_getElem:=@List.getElem?_eq_getElem
theorem J8:type_of% @Bool.and_eq_true:=@Bool.and_eq_true
theorem J9:type_of% @Option.map_eq_some_iff:=@Option.map_eq_some_iff
theorem Ka:type_of% @Array.getElem?_eq_getElem:=@Array.getElem?_eq_getElem
theorem Kb:type_of% @List.getElem?_append_right:=@List.getElem?_append_right
theorem Kc:type_of% @Nat.zero_add:=@Nat.zero_add
theorem Kd:type_of% @Array.getD_eq_getD_getElem?:=@Array.getD_eq_getD_getElem?
theorem Ke:type_of% @List.getElem?_append_left:=@List.getElem?_append_left
theorem Kf:type_of% @Array.getElem?_eq_some_iff:=@Array.getElem?_eq_some_iff
theorem Kg:type_of% @Nat.le_of_ble_eq_true:=@Nat.le_of_ble_eq_true
theorem Kh:type_of% @Nat.mul_le_mul_right:=@Nat.mul_le_mul_right
theorem Ki:type_of% @Option.bind_some:=@Option.bind_some
theorem Kj:type_of% @Prod.mk.injEq:=@Prod.mk.injEq
theorem Kk:type_of% @List.mem_of_getElem?:=@List.mem_of_getElem?
theorem Kl:type_of% @List.length_cons:=@List.length_cons
theorem Km:type_of% @Bool.true_and:=@Bool.true_and
theorem Kn:type_of% @List.getElem?_drop:=@List.getElem?_drop
theorem Ko:type_of% @List.append_assoc:=@List.append_assoc
theorem Kp:type_of% @Nat.add_mul:=@Nat.add_mul
theorem Kq:type_of% @List.mem_cons:=@List.mem_cons
theorem Kr:type_of% @Nat.le_refl:=@Nat.le_refl
theorem Ks:type_of% @List.mem_cons_of_mem:=@List.mem_cons_of_mem
theorem Kt:type_of% @List.length_append:=@List.length_append
theorem Ku:type_of% @Nat.add_sub_cancel_left:=@Nat.add_sub_cancel_left
theorem Kv:type_of% @List.getElem?_take:=@List.getElem?_take
theorem Kw:type_of% @Nat.zero_le:=@Nat.zero_le
theorem Kx:type_of% @List.mem_cons_self:=@List.mem_cons_self
theorem Ky:type_of% @Int.toNat_natCast:=@Int.toNat_natCast
theorem Kz:type_of% @Nat.add_zero:=@Nat.add_zero
theorem KA:type_of% @Option.bind_assoc:=@Option.bind_assoc
theorem KB:type_of% @List.getElem?_map:=@List.getElem?_map
theorem KC:type_of% @List.length_take:=@List.length_take
theorem KE:type_of% @Nat.mul_le_mul:=@Nat.mul_le_mul
theorem KF:type_of% @List.length_nil:=@List.length_nil
theorem KG:type_of% @List.append_nil:=@List.append_nil
theorem KH:type_of% @List.length_eq_zero_iff:=@List.length_eq_zero_iff
theorem KI:type_of% @List.getElem_mem:=@List.getElem_mem
theorem KJ:type_of% @Bool.not_true:=@Bool.not_true
theorem KK:type_of% @Nat.sub_zero:=@Nat.sub_zero
theorem KL:type_of% @List.getD_eq_getElem?_getD:=@List.getD_eq_getElem?_getD
theorem KM:type_of% @Int.mul_nonneg:=@Int.mul_nonneg
theorem KN:type_of% @List.getElem?_eq_none:=@List.getElem?_eq_none
theorem KO:type_of% @Nat.mul_comm:=@Nat.mul_comm
theorem KP:type_of% @List.all_eq_true:=@List.all_eq_true
theorem KQ:type_of% @List.getElem?_of_mem:=@List.getElem?_of_mem
theorem KR:type_of% @Array.getElem?_toList:=@Array.getElem?_toList
theorem KS:type_of% @Int.tdiv_eq_ediv_of_nonneg:=@Int.tdiv_eq_ediv_of_nonneg
theorem KT:type_of% @List.map_cons:=@List.map_cons
theorem KU:type_of% @Nat.succ_mul:=@Nat.succ_mul
theorem KV:type_of% @Option.or_none:=@Option.or_none
theorem KW:type_of% @Int.natCast_mul:=@Int.natCast_mul
theorem KX:type_of% @Option.bind_none:=@Option.bind_none
theorem KY:type_of% @Nat.add_assoc:=@Nat.add_assoc
theorem KZ:type_of% @List.take_length:=@List.take_length
theorem K0:type_of% @List.take_append_drop:=@List.take_append_drop
theorem K2:type_of% @Nat.ble_eq_true_of_le:=@Nat.ble_eq_true_of_le
theorem K3:type_of% @Array.getElem?_setIfInBounds_self_of_lt:=@Array.getElem?_setIfInBounds_self_of_lt
theorem K4:type_of% @Array.getElem?_append_left:=@Array.getElem?_append_left
theorem K5:type_of% @List.cons.injEq:=@List.cons.injEq
theorem K6:type_of% @List.foldl_append:=@List.foldl_append
theorem K7:type_of% @Int.mul_le_mul:=@Int.mul_le_mul
theorem K8:type_of% @List.cons_append:=@List.cons_append
theorem K9:type_of% @List.length_drop:=@List.length_drop
theorem La:type_of% @Nat.mod_eq_of_lt:=@Nat.mod_eq_of_lt
theorem Lb:type_of% @Bool.or_true:=@Bool.or_true
theorem Lc:type_of% @Option.some.inj:=@Option.some.inj
theorem Ld:type_of% @Nat.mul_add_mod:=@Nat.mul_add_mod
theorem Lf:type_of% @List.nil_append:=@List.nil_append
theorem Lg:type_of% @List.range_succ:=@List.range_succ
theorem Lh:type_of% @Array.getElem?_setIfInBounds_ne:=@Array.getElem?_setIfInBounds_ne
theorem Li:type_of% @Bool.false_eq_true:=@Bool.false_eq_true
theorem Lj:type_of% @Option.getD_some:=@Option.getD_some
theorem Ll:type_of% @List.map_nil:=@List.map_nil
theorem Lm:type_of% @Option.map_some:=@Option.map_some
theorem Ln:type_of% @Array.ext':=@Array.ext'
theorem Lo:type_of% @List.nodup_cons:=@List.nodup_cons
theorem Lq:type_of% @List.flatMap_append:=@List.flatMap_append
theorem Lr:type_of% @List.drop_length:=@List.drop_length
theorem Ls:type_of% @List.length_replicate:=@List.length_replicate
theorem Lu:type_of% @List.mem_map:=@List.mem_map
theorem Lv:type_of% @Nat.div_eq_of_lt:=@Nat.div_eq_of_lt
theorem Lw:type_of% @List.mem_flatMap:=@List.mem_flatMap
theorem Lx:type_of% @Nat.le_trans:=@Nat.le_trans
theorem Ly:type_of% @Nat.mul_add_div:=@Nat.mul_add_div
theorem Lz:type_of% @List.length_set:=@List.length_set
theorem LA:type_of% @Bool.or_eq_true:=@Bool.or_eq_true
theorem LB:type_of% @List.map_append:=@List.map_append
theorem LC:type_of% @Nat.div_lt_iff_lt_mul:=@Nat.div_lt_iff_lt_mul
theorem LD:type_of% @List.mem_append_right:=@List.mem_append_right
theorem LF:type_of% @List.size_toArray:=@List.size_toArray
theorem LG:type_of% @List.mem_append_left:=@List.mem_append_left
theorem LH:type_of% @Bool.and_eq_true_iff:=@Bool.and_eq_true_iff
theorem LI:type_of% @Bool.false_and:=@Bool.false_and
theorem LM:type_of% @Option.isSome_none:=@Option.isSome_none
theorem LN:type_of% @List.mem_replicate:=@List.mem_replicate
theorem LV:type_of% @Iff.rfl:=@Iff.rfl
theorem LW:type_of% @Int.mul_assoc:=@Int.mul_assoc
theorem LY:type_of% @Bool.and_self:=@Bool.and_self
theorem Mf:type_of% @Nat.mod_lt:=@Nat.mod_lt
section
structure Shape where
 h:Int
 w:Int
 c:Int
 deriving DecidableEq
structure ab where
 sh:Shape
 data:List Int
 deriving DecidableEq
structure al where
 kind:Int
 out:Int
 size:Int
 step:Int
 mult:Int
 shift:Int
 zero:Int
 weights:List Int
 gI:List Int
 deriving DecidableEq
structure Model where
 inp:Shape
 ai:List al
 deriving DecidableEq
structure Job where
 model:Model
 at_:Int
 act:ab
 AL:Int
 deriving DecidableEq
structure Task where
 id:Int
 ni:List Int
 at_:Int
 due:Int
 born:Int
 deriving DecidableEq
structure AM where
 now:Int
 Gd:Int
 age:Int
 tasks:List Task
 run:Int
 left:Int
 turns:Int
 next:Int
 deriving DecidableEq
structure Request where
 id:Int
 model:Int
 job:Job
 due:Int
 deriving DecidableEq
structure Runtime where
 sched:AM
 zz:List Model
 B7:List Bool
 lH:List Request
 deriving DecidableEq
structure Step where
 kind:Int
 a:Int
 b:Int
 data:List Int
 input:ab
 deriving DecidableEq
structure Event where
 kind:Int
 a:Int
 b:Int
 out:ab
 deriving DecidableEq
structure Entry where
 id:Int
 model:Model
 input:ab
 at_:Int
 due:Int
 end_:Int
 done:Bool
 deriving DecidableEq
structure B8 where
 id:Int
 model:Int
 due:Int
 deriving DecidableEq
structure B9 where
 id:Int
 ni:Nat
 at_:Int
 due:Int
 born:Int
 deriving DecidableEq
structure nj where
 id:Int
 model:Int
 mh:Int
 mw:Int
 mc:Int
 ai:Nat
 jat:Int
 ah:Int
 aw:Int
 ac:Int
 data:Nat
 AL:Int
 due:Int
 deriving DecidableEq
inductive S where
 |shape|av|aM|model|task|request|step|event|entry|Er|qk|et
 deriving DecidableEq
inductive Ty where
 |int (k:IntKind)|bool|str|sl (t:Ty)|st (s:S)|tok
 |ho (s:S)|hl (t:Ty)
 deriving DecidableEq
def S.E:S->Type
 |.shape=>Shape|.av=>ab|.aM=>al|.model=>Model|.task=>Task|.request=>Request
 |.step=>Step|.event=>Event|.entry=>Entry|.Er=>B8|.qk=>B9|.et=>nj
def Ty.El:Ty->Type
 |.int _=>Int
 |.bool=>Bool
 |.str=>List UInt8
 |.sl t=>List t.El
 |.st s=>s.E
 |.tok=>Nat
 |.ho s=>Option s.E
 |.hl t=>Option (List t.El)
inductive R where
 |int (k:IntKind) (n:Int)
 |bool (b:Bool)
 |str (l:List UInt8)
 |sl (t:Ty) (xs:List t.El)
 |tok (n:Nat)
 |jI
abbrev R.i (n:Int):R:=.int .i64 n
abbrev R.ints (xs:List Int):R:=.sl (.int .i64) xs
abbrev R.bytes (xs:List Int):R:=.sl (.int .u8) xs
def Ca (x:Shape):List R:=[.i x.h,.i x.w,.i x.c]
def Cb (x:ab):List R:=[.i x.sh.h,.i x.sh.w,.i x.sh.c,.ints x.data]
def FK (x:al):List R:=[.i x.kind,.i x.out,.i x.size,.i x.step,.i x.mult,.i x.shift,.i x.zero,.ints x.weights,.ints x.gI]
def FL (x:Model):List R:=[.i x.inp.h,.i x.inp.w,.i x.inp.c,.sl (.st .aM) x.ai]
def Ht (x:Task):List R:=[.i x.id,.ints x.ni,.i x.at_,.i x.due,.i x.born]
def zA (x:Request):List R:=[.i x.id,.i x.model,.i x.job.model.inp.h,.i x.job.model.inp.w,.i x.job.model.inp.c,.sl (.st .aM) x.job.model.ai,.i x.job.at_,.i x.job.act.sh.h,.i x.job.act.sh.w,.i x.job.act.sh.c,.ints x.job.act.data,.i x.job.AL,.i x.due]
def Hu (x:Step):List R:=[.i x.kind,.i x.a,.i x.b,.bytes x.data,.i x.input.sh.h,.i x.input.sh.w,.i x.input.sh.c,.ints x.input.data]
def FM (x:Event):List R:=[.i x.kind,.i x.a,.i x.b,.i x.out.sh.h,.i x.out.sh.w,.i x.out.sh.c,.ints x.out.data]
def FN (x:Entry):List R:=[.i x.id,.i x.model.inp.h,.i x.model.inp.w,.i x.model.inp.c,.sl (.st .aM) x.model.ai,.i x.input.sh.h,.i x.input.sh.w,.i x.input.sh.c,.ints x.input.data,.i x.at_,.i x.due,.i x.end_,.bool x.done]
def Ge (x:B8):List R:=[.i x.id,.i x.model,.i x.due]
def Cc (x:B9):List R:=[.i x.id,.tok x.ni,.i x.at_,.i x.due,.i x.born]
def ql (x:nj):List R:=[.i x.id,.i x.model,.i x.mh,.i x.mw,.i x.mc,.tok x.ai,.i x.jat,.i x.ah,.i x.aw,.i x.ac,.tok x.data,.i x.AL,.i x.due]
def S.sz:S->Nat
 |.shape=>3|.av=>4|.aM=>9|.model=>4|.task=>5|.request=>13|.step=>8|.event=>7|.entry=>13|.Er=>3|.qk=>5|.et=>13
def S.cells:(s:S)->s.E->List R
 |.shape=>Ca|.av=>Cb|.aM=>FK|.model=>FL|.task=>Ht|.request=>zA
 |.step=>Hu|.event=>FM|.entry=>FN|.Er=>Ge|.qk=>Cc|.et=>ql
def Ty.sz:Ty->Nat
 |.st s=>s.sz
 |.ho s=>s.sz
 |_=>1
def Ty.cells:(t:Ty)->t.El->List R
 |.int k,n=>[.int k n]
 |.bool,b=>[.bool b]
 |.str,l=>[.str l]
 |.sl t,xs=>[.sl t xs]
 |.st s,x=>s.cells x
 |.tok,n=>[.tok n]
 |.ho s,x=>match x with
  |some x=>s.cells x
  |none=>List.replicate s.sz .jI
 |.hl t,x=>match x with
  |some xs=>[.sl t xs]
  |none=>[.jI]
theorem S.bp (s:S) (x:s.E):(s.cells x).length=s.sz:=by cases s<;>rfl
theorem Ty.bp (t:Ty) (x:t.El):(t.cells x).length=t.sz:=by
 cases t with
 |st s=>exact s.bp x
 |ho s=>cases x with
  |none=>simp[Ty.cells,Ty.sz]
  |some x=>exact s.bp x
 |hl t=>cases x<;>rfl
 |_=>rfl
theorem Ty.eu (t:Ty):0<t.sz:=by
 cases t with
 |st s=>cases s<;>simp[Ty.sz,S.sz]
 |ho s=>cases s<;>simp[Ty.sz,S.sz]
 |_=>simp[Ty.sz]
def R.asI:R->Option Int
 |.int .i64 n=>some n
 |_=>none
def R.asB:R->Option Bool
 |.bool b=>some b
 |_=>none
def R.asL (t:Ty):R->Option (List t.El)
 |.sl t' xs=>if h:t'=t then some (h▸xs)else none
 |_=>none
def R.asT:R->Option Nat
 |.tok n=>some n
 |_=>none
theorem R.tJ {r:R} {n:Nat} (h:r.asT=some n):r=.tok n:=by
 unfold R.asT at h;split at h
 ·cases h;rfl
 ·cases h
theorem R.ak {r:R} {n:Int} (h:r.asI=some n):r=.int .i64 n:=by
 unfold R.asI at h;split at h
 ·cases h;rfl
 ·cases h
theorem R.EC {r:R} {n:Bool} (h:r.asB=some n):r=.bool n:=by
 unfold R.asB at h;split at h
 ·cases h;rfl
 ·cases h
theorem R.cN {t:Ty} {r:R} {n:List t.El} (h:r.asL t=some n):r=.sl t n:=by
 unfold R.asL at h;split at h
 ·split at h
  ·rename_i e;subst e;cases h;rfl
  ·cases h
 ·cases h
def vk:List R->Option Shape
 |[a',b',c']=>(a'.asI).bind λa=>(b'.asI).bind λb=>(c'.asI).bind λc=>some ⟨a,b,c⟩
 |_=>none
theorem xv (cs:List R) (x:Shape) (h:vk cs=some x):Ca x=cs:=by
 unfold vk at h;split at h
 ·simp only[An]at h;obtain⟨a,ha,b,hb,c,hc,h⟩:=h;cases h;rw[R.ak ha,R.ak hb,R.ak hc];rfl
 ·cases h
def qm:List R->Option ab
 |[a',b',c',d']=>(a'.asI).bind λa=>(b'.asI).bind λb=>(c'.asI).bind λc=>(d'.asL (.int .i64)).bind λd=>some ⟨⟨a,b,c⟩,d⟩
 |_=>none
theorem vl (cs:List R) (x:ab) (h:qm cs=some x):Cb x=cs:=by
 unfold qm at h;split at h
 ·simp only[An]at h;obtain⟨a,ha,b,hb,c,hc,d,hd,h⟩:=h;cases h;rw[R.ak ha,R.ak hb,R.ak hc,R.cN hd];rfl
 ·cases h
def vm:List R->Option al
 |[a',b',c',d',e',f',g',h',i']=>(a'.asI).bind λa=>(b'.asI).bind λb=>(c'.asI).bind λc=>(d'.asI).bind λd=>(e'.asI).bind λe=>(f'.asI).bind λf=>(g'.asI).bind λg=>(h'.asL (.int .i64)).bind λh=>(i'.asL (.int .i64)).bind λi=>some ⟨a,b,c,d,e,f,g,h,i⟩
 |_=>none
theorem xw (cs:List R) (x:al) (h:vm cs=some x):FK x=cs:=by
 unfold vm at h;split at h
 ·simp only[An]at h;obtain⟨a,ha,b,hb,c,hc,d,hd,e,he,f,hf,g,hg,h,hh,i,hi,h⟩:=h;cases h;rw[R.ak ha,R.ak hb,R.ak hc,R.ak hd,R.ak he,R.ak hf,R.ak hg,R.cN hh,R.cN hi];rfl
 ·cases h
def vn:List R->Option Model
 |[a',b',c',d']=>(a'.asI).bind λa=>(b'.asI).bind λb=>(c'.asI).bind λc=>(d'.asL (.st .aM)).bind λd=>some ⟨⟨a,b,c⟩,d⟩
 |_=>none
theorem xx (cs:List R) (x:Model) (h:vn cs=some x):FL x=cs:=by
 unfold vn at h;split at h
 ·simp only[An]at h;obtain⟨a,ha,b,hb,c,hc,d,hd,h⟩:=h;cases h;rw[R.ak ha,R.ak hb,R.ak hc,R.cN hd];rfl
 ·cases h
def Ce:List R->Option Task
 |[a',b',c',d',e']=>(a'.asI).bind λa=>(b'.asL (.int .i64)).bind λb=>(c'.asI).bind λc=>(d'.asI).bind λd=>(e'.asI).bind λe=>some ⟨a,b,c,d,e⟩
 |_=>none
theorem AO (cs:List R) (x:Task) (h:Ce cs=some x):Ht x=cs:=by
 unfold Ce at h;split at h
 ·simp only[An]at h;obtain⟨a,ha,b,hb,c,hc,d,hd,e,he,h⟩:=h;cases h;rw[R.ak ha,R.cN hb,R.ak hc,R.ak hd,R.ak he];rfl
 ·cases h
def nk:List R->Option Request
 |[a',b',c',d',e',f',g',h',i',j',k',l',m']=>(a'.asI).bind λa=>(b'.asI).bind λb=>(c'.asI).bind λc=>(d'.asI).bind λd=>(e'.asI).bind λe=>(f'.asL (.st .aM)).bind λf=>(g'.asI).bind λg=>(h'.asI).bind λh=>(i'.asI).bind λi=>(j'.asI).bind λj=>(k'.asL (.int .i64)).bind λk=>(l'.asI).bind λl=>(m'.asI).bind λm=>some ⟨a,b,⟨⟨⟨c,d,e⟩,f⟩,g,⟨⟨h,i,j⟩,k⟩,l⟩,m⟩
 |_=>none
theorem tK (cs:List R) (x:Request) (h:nk cs=some x):zA x=cs:=by
 unfold nk at h;split at h
 ·simp only[An]at h;obtain⟨a,ha,b,hb,c,hc,d,hd,e,he,f,hf,g,hg,h,hh,i,hi,j,hj,k,hk,l,hl,m,hm,h⟩:=h;cases h;rw[R.ak ha,R.ak hb,R.ak hc,R.ak hd,R.ak he,R.cN hf,R.ak hg,R.ak hh,R.ak hi,R.ak hj,R.cN hk,R.ak hl,R.ak hm];rfl
 ·cases h
def Cf:List R->Option Step
 |[a',b',c',d',e',f',g',h']=>(a'.asI).bind λa=>(b'.asI).bind λb=>(c'.asI).bind λc=>(d'.asL (.int .u8)).bind λd=>(e'.asI).bind λe=>(f'.asI).bind λf=>(g'.asI).bind λg=>(h'.asL (.int .i64)).bind λh=>some ⟨a,b,c,d,⟨⟨e,f,g⟩,h⟩⟩
 |_=>none
theorem AP (cs:List R) (x:Step) (h:Cf cs=some x):Hu x=cs:=by
 unfold Cf at h;split at h
 ·simp only[An]at h;obtain⟨a,ha,b,hb,c,hc,d,hd,e,he,f,hf,g,hg,h,hh,h⟩:=h;cases h;rw[R.ak ha,R.ak hb,R.ak hc,R.cN hd,R.ak he,R.ak hf,R.ak hg,R.cN hh];rfl
 ·cases h
def vo:List R->Option Event
 |[a',b',c',d',e',f',g']=>(a'.asI).bind λa=>(b'.asI).bind λb=>(c'.asI).bind λc=>(d'.asI).bind λd=>(e'.asI).bind λe=>(f'.asI).bind λf=>(g'.asL (.int .i64)).bind λg=>some ⟨a,b,c,⟨⟨d,e,f⟩,g⟩⟩
 |_=>none
theorem xy (cs:List R) (x:Event) (h:vo cs=some x):FM x=cs:=by
 unfold vo at h;split at h
 ·simp only[An]at h;obtain⟨a,ha,b,hb,c,hc,d,hd,e,he,f,hf,g,hg,h⟩:=h;cases h;rw[R.ak ha,R.ak hb,R.ak hc,R.ak hd,R.ak he,R.ak hf,R.cN hg];rfl
 ·cases h
def vp:List R->Option Entry
 |[a',b',c',d',e',f',g',h',i',j',k',l',m']=>(a'.asI).bind λa=>(b'.asI).bind λb=>(c'.asI).bind λc=>(d'.asI).bind λd=>(e'.asL (.st .aM)).bind λe=>(f'.asI).bind λf=>(g'.asI).bind λg=>(h'.asI).bind λh=>(i'.asL (.int .i64)).bind λi=>(j'.asI).bind λj=>(k'.asI).bind λk=>(l'.asI).bind λl=>(m'.asB).bind λm=>some ⟨a,⟨⟨b,c,d⟩,e⟩,⟨⟨f,g,h⟩,i⟩,j,k,l,m⟩
 |_=>none
theorem xz (cs:List R) (x:Entry) (h:vp cs=some x):FN x=cs:=by
 unfold vp at h;split at h
 ·simp only[An]at h;obtain⟨a,ha,b,hb,c,hc,d,hd,e,he,f,hf,g,hg,h,hh,i,hi,j,hj,k,hk,l,hl,m,hm,h⟩:=h;cases h;rw[R.ak ha,R.ak hb,R.ak hc,R.ak hd,R.cN he,R.ak hf,R.ak hg,R.ak hh,R.cN hi,R.ak hj,R.ak hk,R.ak hl,R.EC hm];rfl
 ·cases h
def Cg:List R->Option B8
 |[a',b',c']=>(a'.asI).bind λa=>(b'.asI).bind λb=>(c'.asI).bind λc=>some ⟨a,b,c⟩
 |_=>none
theorem AQ (cs:List R) (x:B8) (h:Cg cs=some x):Ge x=cs:=by
 unfold Cg at h;split at h
 ·simp only[An]at h;obtain⟨a,ha,b,hb,c,hc,h⟩:=h;cases h;rw[R.ak ha,R.ak hb,R.ak hc];rfl
 ·cases h
def zB:List R->Option B9
 |[a',b',c',d',e']=>(a'.asI).bind λa=>(b'.asT).bind λb=>(c'.asI).bind λc=>(d'.asI).bind λd=>(e'.asI).bind λe=>some ⟨a,b,c,d,e⟩
 |_=>none
theorem xA (cs:List R) (x:B9) (hq:zB cs=some x):Cc x=cs:=by
 unfold zB at hq;split at hq
 ·simp only[An]at hq;obtain⟨a,ha,b,hb,c,hc,d,hd,e,he,hq⟩:=hq;cases hq;rw[R.ak ha,R.tJ hb,R.ak hc,R.ak hd,R.ak he];rfl
 ·cases hq
def nm:List R->Option nj
 |[a',b',c',d',e',f',g',h',i',j',k',l',m']=>(a'.asI).bind λa=>(b'.asI).bind λb=>(c'.asI).bind λc=>(d'.asI).bind λd=>(e'.asI).bind λe=>(f'.asT).bind λf=>(g'.asI).bind λg=>(h'.asI).bind λh=>(i'.asI).bind λi=>(j'.asI).bind λj=>(k'.asT).bind λk=>(l'.asI).bind λl=>(m'.asI).bind λm=>some ⟨a,b,c,d,e,f,g,h,i,j,k,l,m⟩
 |_=>none
theorem rV (cs:List R) (x:nj) (hq:nm cs=some x):ql x=cs:=by
 unfold nm at hq;split at hq
 ·simp only[An]at hq;obtain⟨a,ha,b,hb,c,hc,d,hd,e,he,f,hf,g,hg,h0,hh,i,hi,j,hj,k,hk,l,hl,m,hm,hq⟩:=hq;cases hq;rw[R.ak ha,R.ak hb,R.ak hc,R.ak hd,R.ak he,R.tJ hf,R.ak hg,R.ak hh,R.ak hi,R.ak hj,R.tJ hk,R.ak hl,R.ak hm];rfl
 ·cases hq
def S.cT:(s:S)->List R->Option s.E
 |.shape=>vk
 |.av=>qm
 |.aM=>vm
 |.model=>vn
 |.task=>Ce
 |.request=>nk
 |.step=>Cf
 |.event=>vo
 |.entry=>vp
 |.Er=>Cg
 |.qk=>zB
 |.et=>nm
def Ty.py:(t:Ty)->R->Option t.El
 |.int k,.int k' n=>if k'=k then some n else none
 |.bool,.bool b=>some b
 |.str,.str l=>some l
 |.sl t,.sl t' xs=>if h:t'=t then some (h▸xs)else none
 |.tok,.tok n=>some n
 |.hl t,.sl t' xs=>if h:t'=t then some (some (h▸xs))else none
 |_,_=>none
def Ty.cT:(t:Ty)->List R->Option t.El
 |.st s,cs=>s.cT cs
 |.ho s,cs=>(s.cT cs).bind λx=>some (some x)
 |t,[r]=>t.py r
 |_,_=>none
theorem Ty.xB (t:Ty) (r:R) (x:t.El) (h:t.py r=some x):t.cells x=[r]:=by
 cases t with
 |st s=>cases r<;>exact nomatch h
 |int k=>
  cases r with
  |int k' n=>
   replace h:(if k'=k then some n else none)=some x:=h
   split at h
   ·rename_i e;subst e;cases h;rfl
   ·cases h
  |_=>exact nomatch h
 |bool=>
  cases r with
  |bool b=>cases h;rfl
  |_=>exact nomatch h
 |str=>
  cases r with
  |str b=>cases h;rfl
  |_=>exact nomatch h
 |sl t=>
  cases r with
  |sl t' xs=>
   replace h:(if h:t'=t then some (h▸xs)else none)=some x:=h
   split at h
   ·rename_i e;subst e;cases h;rfl
   ·cases h
  |_=>exact nomatch h
 |tok=>
  cases r with
  |tok n=>cases h;rfl
  |_=>exact nomatch h
 |ho s=>cases r<;>exact nomatch h
 |hl t=>
  cases r with
  |sl t' xs=>
   replace h:(if h:t'=t then some (some (h▸xs))else none)=some x:=h
   split at h
   ·rename_i e;subst e;cases h;rfl
   ·cases h
  |_=>exact nomatch h
theorem S.bE (s:S) (cs:List R) (x:s.E) (h:s.cT cs=some x):s.cells x=cs:=by
 cases s
 ·exact xv cs x h
 ·exact vl cs x h
 ·exact xw cs x h
 ·exact xx cs x h
 ·exact AO cs x h
 ·exact tK cs x h
 ·exact AP cs x h
 ·exact xy cs x h
 ·exact xz cs x h
 ·exact AQ cs x h
 ·exact xA cs x h
 ·exact rV cs x h
theorem Ty.bE (t:Ty) (cs:List R) (x:t.El) (h:t.cT cs=some x):t.cells x=cs:=by
 cases t with
 |st s=>exact S.bE s cs x h
 |ho s=>
  replace h:(s.cT cs).bind (λx=>some (some x))=some x:=h
  obtain⟨y,hy,e⟩:=An.1 h;cases e
  exact S.bE s cs y hy
 |_=>
  match cs,h with
  |[r],h=>exact Ty.xB _ r x h
end
section
inductive SV where
 |r (d:List Nat) (x:R)
 |bq
 |kK
 |own (i:Nat)
 |sub (i off len:Nat)
 |bsl (i n:Nat)
 |ptr (i idx off:Nat)
 |inn (i x c:Nat)
 |fU (d:List Nat) (cs:List R)
 |agg (cs:List SV)
 |tup (vs:List SV)
 |fn (f:Fn) (first cap:List SV)
 |undef
abbrev SV.i (n:Int):SV:=.r [] (.int .i64 n)
abbrev SV.b (b:Bool):SV:=.r [] (.bool b)
inductive Blk where
 |box (cs:List SV)
 |arr (sh:Option (List Nat)) (t:Ty) (xs:List t.El)
abbrev Heap:=List (Nat× Blk)
structure St where
 aW:List (Nat× SV)
 heap:Heap
 nid:Nat
 n:Nat
 gh:List (Option Nat):=[]
def look {α:Type}:List (Nat× α)->Nat->Option α
 |[],_=>none
 |(k,v)::l,n=>cond (Nat.beq k n) (some v) (look l n)
def put {α:Type}:List (Nat× α)->Nat->α->List (Nat× α)
 |[],n,v=>[(n,v)]
 |(k,u)::l,n,v=>cond (Nat.beq k n) ((k,v)::l) ((k,u)::put l n v)
def idx {α:Type} (xs:List α) (i:Int):Option α:=cond (decide (0<=i)) xs[i.toNat]? none
def mem (i:Nat):List Nat->Bool
 |[]=>false
 |k::l=>cond (Nat.beq k i) true (mem i l)
def hit (T:List Nat):List Nat->Bool
 |[]=>false
 |k::l=>cond (mem k T) true (hit T l)
abbrev Kil:=List Nat× List Nat
mutual
def SV.ay (T:Kil):SV->SV
 |.r d x=>cond (hit T.2 d) .undef (.r d x)
 |.own j=>cond (mem j T.1) .undef (.own j)
 |.sub j o n=>cond (mem j T.1) .undef (.sub j o n)
 |.bsl j n=>cond (mem j T.1) .undef (.bsl j n)
 |.ptr j x o=>cond (mem j T.1) .undef (.ptr j x o)
 |.inn j x c=>cond (mem j T.1||mem j T.2) .undef (.inn j x c)
 |.fU d cs=>cond (hit T.2 d) .undef (.fU d cs)
 |.agg cs=>.agg (eg T cs)
 |.tup cs=>.tup (eg T cs)
 |.fn f a b=>.fn f (eg T a) (eg T b)
 |.bq=>.bq
 |.kK=>.kK
 |.undef=>.undef
def eg (T:Kil):List SV->List SV
 |[]=>[]
 |v::l=>v.ay T::eg T l
end
def Blk.ay (T:Kil):Blk->Option Blk
 |.box cs=>some (.box (eg T cs))
 |.arr none t xs=>some (.arr none t xs)
 |.arr (some d) t xs=>cond (hit T.2 d) none (some (.arr (some d) t xs))
def qn (T:Kil):Heap->Option Heap
 |[]=>some []
 |(k,b)::l=>cond (mem k T.1) (qn T l) ((b.ay T).bind λb=>(qn T l).bind λl=>some ((k,b)::l))
def zC (T:Kil):List (Nat× SV)->List (Nat× SV)
 |[]=>[]
 |(k,v)::l=>(k,v.ay T)::zC T l
def ey (T:Kil) (h:Heap):Option Heap:=
 match T.2 with
 |[]=>some h
 |_=>qn T h
def jK (T:Kil) (s:List (Nat× SV)):List (Nat× SV):=
 match T.2 with
 |[]=>s
 |_=>zC T s
def SV.list (h:Heap) (t:Ty):SV->Option (List Nat× List t.El)
 |.r d x=>(x.asL t).bind λxs=>some (d,xs)
 |.bq=>some ([],[])
 |.own i=>match look h i with
  |some (.arr sh t' xs)=>if e:t'=t then some (i::sh.getD [],e▸xs)else none
  |_=>none
 |.sub i o n=>match look h i with
  |some (.arr sh t' xs)=>if e:t'=t then some (i::sh.getD [],((e▸xs).drop o).take n)else none
  |_=>none
 |_=>none
def SV.asInt (k:IntKind):SV->Option Int
 |.r _ (.int k' n)=>cond (decide (k'=k)) (some n) none
 |_=>none
def SV.asI:SV->Option Int
 |.r _ (.int _ n)=>some n
 |_=>none
def SV.asB:SV->Option Bool
 |.r _ (.bool b)=>some b
 |_=>none
def SV.asR (h:Heap) (t:Ty) (v:SV):Option (List Nat× R):=
 match t with
 |.sl t'=>(v.list h t').bind λp=>some (p.1,.sl t' p.2)
 |.st _=>none
 |.tok=>match v with
  |.r d (.tok n)=>some (d,.tok n)
  |.bq=>some ([],.tok 0)
  |_=>none
 |_=>match v with
  |.r d x=>some (d,x)
  |_=>none
def S.tys:S->List Ty
 |.shape=>[.int .i64,.int .i64,.int .i64]
 |.av=>[.int .i64,.int .i64,.int .i64,.sl (.int .i64)]
 |.aM=>[.int .i64,.int .i64,.int .i64,.int .i64,.int .i64,.int .i64,.int .i64,.sl (.int .i64),.sl (.int .i64)]
 |.model=>[.int .i64,.int .i64,.int .i64,.sl (.st .aM)]
 |.task=>[.int .i64,.sl (.int .i64),.int .i64,.int .i64,.int .i64]
 |.request=>[.int .i64,.int .i64,.int .i64,.int .i64,.int .i64,.sl (.st .aM),.int .i64,.int .i64,.int .i64,.int .i64,.sl (.int .i64),.int .i64,.int .i64]
 |.step=>[.int .i64,.int .i64,.int .i64,.sl (.int .u8),.int .i64,.int .i64,.int .i64,.sl (.int .i64)]
 |.event=>[.int .i64,.int .i64,.int .i64,.int .i64,.int .i64,.int .i64,.sl (.int .i64)]
 |.entry=>[.int .i64,.int .i64,.int .i64,.int .i64,.sl (.st .aM),.int .i64,.int .i64,.int .i64,.sl (.int .i64),.int .i64,.int .i64,.int .i64,.bool]
 |.Er=>[.int .i64,.int .i64,.int .i64]
 |.qk=>[.int .i64,.tok,.int .i64,.int .i64,.int .i64]
 |.et=>[.int .i64,.int .i64,.int .i64,.int .i64,.int .i64,.tok,.int .i64,.int .i64,.int .i64,.int .i64,.tok,.int .i64,.int .i64]
def Ty.tys:Ty->List Ty
 |.st s=>s.tys
 |.ho s=>s.tys
 |.hl t=>[.sl t]
 |t=>[t]
def BX (h:Heap):List Ty->List SV->Option (List Nat× List R)
 |[],[]=>some ([],[])
 |t::ts,v::vs=>(v.asR h t).bind λp=>(BX h ts vs).bind λq=>some (p.1++q.1,p.2::q.2)
 |_,_=>none
def Io (h:Heap) (t:Ty) (vs:List SV):Option (List Nat× t.El):=
 (BX h t.tys vs).bind λp=>(t.cT p.2).bind λx=>some (p.1,x)
def SV.cells:SV->Option (List SV)
 |.agg cs=>some cs
 |.tup _=>none
 |.undef=>none
 |v=>some [v]
mutual
def SV.ids:SV->List Nat
 |.own i=>[i]
 |.sub i _ _=>[i]
 |.bsl i _=>[i]
 |.ptr i _ _=>[i]
 |.agg cs=>BZ cs
 |.tup cs=>BZ cs
 |.fn _ a b=>BZ a++BZ b
 |_=>[]
def BZ:List SV->List Nat
 |[]=>[]
 |v::l=>v.ids++BZ l
end
def kL:List Nat->List Nat->List Nat
 |acc,[]=>acc
 |acc,i::l=>cond (mem i acc) (kL acc l) (kL (acc++[i]) l)
def FO (h:Heap):List Nat->List Nat
 |[]=>[]
 |i::l=>(match look h i with
  |some (.box cs)=>BZ cs
  |_=>[])++FO h l
def reach (h:Heap):Nat->List Nat->List Nat
 |0,L=>L
 |n+1,L=>reach h n (kL L (FO h L))
def oB:Value->Option SV
 |.bool b=>some (.b b)
 |.int k n=>some (.r [] (.int k n))
 |.string s=>some (.r [] (.str s.data.toList))
 |.slice none 0 0=>some .bq
 |.pointer none=>some .kK
 |_=>none
def sB:List Value->Option (List SV)
 |[]=>some []
 |v::l=>(oB v).bind λx=>(sB l).bind λxs=>some (x::xs)
def zD:Value->Option SV
 |.agg cs=>(sB cs.toList).bind λl=>some (.agg l)
 |v=>oB v
def opd (aW:List (Nat× SV)):Operand->Option SV
 |.tmp t=>look aW t
 |.const v=>zD v
 |.func f=>some (.fn (.func f) [] [])
 |.global _=>none
def mE (aW:List (Nat× SV)):List Operand->Option (List SV)
 |[]=>some []
 |x::l=>(opd aW x).bind λv=>(mE aW l).bind λvs=>some (v::vs)
end
section
abbrev TT:=TypeId->Option Ty
def bJ:Nat:=2^38
def qq (P:Program) (T:TypeId):Bool:=
 match P.underlying T with
 |some (.struct _)=>true
 |some (.array _ _)=>true
 |_=>false
def gJ (P:Program) (T:TypeId):Option TypeId:=
 match P.underlying T with
 |some (.slice e)=>some e
 |_=>none
def oC (P:Program) (T:TypeId) (f:Nat):Option Field:=
 match P.underlying T with
 |some (.struct fs)=>(fs[f]?).bind λf=>(P.info? f.type).bind λi=>cond (Nat.beq i.size 0) none (some f)
 |_=>none
def ez (P:Program) (T:TypeId):Option Nat:=(P.info? T).bind λi=>some i.size
def np (P:Program):List Field->Option (List (Nat× Nat))
 |[]=>some []
 |f::fs=>(ez P f.type).bind λs=>(np P fs).bind λl=>some ((f.offset,s)::l)
def takeN {α:Type} (n:Nat) (l:List α):Option (List α):=cond (Nat.ble n l.length) (some (l.take n)) none
def eA (P:Program) (T:TypeId) (cs:List SV):Option SV:=
  (P.underlying T).bind λ_=>(P.info? T).bind λi=>(takeN i.size cs).bind λl=>
    cond (qq P T) (some (.agg l)) (match l with|[v]=>some v|_=>none)
def mkR (d:List Nat):R->SV
 |.sl t xs=>.r d (.sl t xs)
 |x=>.r [] x
def Ch (i:Nat):Option (List Nat)->List Nat
 |none=>[i]
 |some d=>d
def gK (h:Heap):SV->Option (List SV)
 |.fU d cs=>some (cs.map (mkR d))
 |.ptr i x o=>match look h i with
  |some (.box cs)=>some (cs.drop o)
  |some (.arr sh t xs)=>(xs[x]?).bind λe=>some (((t.cells e).map (mkR (Ch i sh))).drop o)
  |_=>none
 |_=>none
def cU (P:Program) (T:TypeId):Option (List SV):=
 (P.info? T).bind λi=>i.zero.bind λz=>(zD z).bind λv=>v.cells
def kz (place:Nat->Option (Nat× Nat)):List SV->List (Nat× SV)->Option (List SV)
 |cs,[]=>some cs
 |cs,(k,v)::l=>(place k).bind λp=>v.cells.bind λvs=>
   cond (Nat.beq vs.length p.2) (cond (Nat.ble (p.1+vs.length) cs.length) (kz place (cs.take p.1++vs++cs.drop (p.1+vs.length)) l) none) none
def Hj (op:BinOp) (k:IntKind) (a b:Int):Option R:=
 match op with
 |.add=>some (.int k (k.wrap (a+b)))
 |.sub=>some (.int k (k.wrap (a-b)))
 |.mul=>some (.int k (k.wrap (a*b)))
 |.quo=>cond (decide (b=0)) none (some (.int k (k.wrap (a.tdiv b))))
 |.rem=>cond (decide (b=0)) none (some (.int k (a.tmod b)))
 |.and=>some (.int k (k.wrap (BitVec.ofInt k.bits a&&& BitVec.ofInt k.bits b).toNat))
 |.or=>some (.int k (k.wrap (BitVec.ofInt k.bits a||| BitVec.ofInt k.bits b).toNat))
 |.xor=>some (.int k (k.wrap (BitVec.ofInt k.bits a^^^ BitVec.ofInt k.bits b).toNat))
 |.eql=>some (.bool (a==b))
 |.neq=>some (.bool (a !=b))
 |.lss=>some (.bool (decide (a<b)))
 |.leq=>some (.bool (decide (a<=b)))
 |.gtr=>some (.bool (decide (a>b)))
 |.geq=>some (.bool (decide (a>=b)))
 |_=>none
def vq (op:BinOp) (k:IntKind) (a b:Int):Option R:=
  cond (decide (b<0)) none
    (match op with
     |.shl=>some (.int k (k.wrap (a*2^(min b.toNat k.bits))))
     |.shr=>some (.int k (a.fdiv (2^(min b.toNat k.bits))))
     |_=>none)
def Hv (op:BinOp) (a b:List UInt8):Option R:=
 match op with
 |.add=>cond (decide (a.length+b.length<=bJ)) (some (.str (a++b))) none
 |.eql=>some (.bool (a==b))
 |.neq=>some (.bool (!(a==b)))
 |.lss=>some (.bool (Op.bytesLess a b))
 |.leq=>some (.bool (Op.bytesLess a b||a==b))
 |.gtr=>some (.bool (!(Op.bytesLess a b||a==b)))
 |.geq=>some (.bool (!(Op.bytesLess a b)))
 |_=>none
def ED (P:Program) (xs ys:List SV):List Field->Option Bool
 |[]=>some true
 |f::fs=>cond (decide (f.name= "_")) none (match P.underlying f.type,xs[f.offset]?,ys[f.offset]? with
  |some (.int _),some (.r _ (.int k a)),some (.r _ (.int l b))=>cond (decide (k=l)) ((ED P xs ys fs).bind λt=>some (cond (a==b) t false)) none
  |_,_,_=>none)
def Hw (P:Program) (T:TypeId) (xs ys:List SV):Option Bool:=
 cond (P.stoodInHeld T) none (cond (P.eqGuardType P.depth T) none (match P.underlying T with
  |some (.struct fs)=>ED P xs ys fs.toList
  |_=>none))
def Ci:BinOp->Bool
 |.shl|.shr=>true
 |_=>false
def isEq:BinOp->Option Bool
 |.eql=>some true
 |.neq=>some false
 |_=>none
def bin (P:Program) (T:TypeId) (op:BinOp) (x y:SV):Option SV:=
 match x,y with
 |.r _ (.int k a),.r _ (.int l b)=>cond (Ci op) ((vq op k a b).bind λr=>some (.r [] r)) (cond (decide (k=l)) ((Hj op k a b).bind λr=>some (.r [] r)) none)
 |.r _ (.str a),.r _ (.str b)=>(Hv op a b).bind λr=>some (.r [] r)
 |.r _ (.bool a),.r _ (.bool b)=>match P.underlying T with
  |some .bool=>(isEq op).bind λe=>some (.b (cond e (a==b) (!(a==b))))
  |_=>none
 |.agg a,.agg b=>(isEq op).bind λe=>(Hw P T a b).bind λt=>some (.b (cond e t (!t)))
 |_,_=>none
def un (op:UnOp) (x:SV):Option SV:=
 match op,x with
 |.neg,.r _ (.int k n)=>some (.r [] (.int k (k.wrap (0-n))))
 |.not,.r _ (.bool b)=>some (.b (!b))
 |_,_=>none
def lenOf (h:Heap):SV->Option Nat
 |.r _ (.str l)=>some l.length
 |.r _ (.sl _ xs)=>some xs.length
 |.bq=>some 0
 |.own i=>match look h i with
  |some (.arr _ _ xs)=>some xs.length
  |_=>none
 |.sub _ _ n=>some n
 |.bsl _ n=>some n
 |_=>none
def Ip (P:Program) (T:TypeId):SV->Bool
 |.r _ (.str _)=>match P.underlying T with
  |some .string=>true
  |_=>false
 |_=>match P.underlying T with
  |some (.slice _)=>true
  |_=>false
def bounds (n:Nat) (lo hi:Option SV):Option (Nat× Nat):=
  (match hi with
   |none=>some n
   |some v=>v.asI.bind λx=>cond (decide (0<=x/\x<=(n:Int))) (some x.toNat) none).bind λh=>
  (match lo with
   |none=>some 0
   |some v=>v.asI.bind λx=>cond (decide (0<=x/\x<=(h:Int))) (some x.toNat) none).bind λl=>some (l,h)
def slT (P:Program) (T:TypeId) (t:Ty):Bool:=
 match P.underlying T with
 |some (.slice e)=>match ez P e with
  |some n=>Nat.beq n t.sz
  |none=>false
 |_=>false
def zE (P:Program) (T:TypeId):Bool:=
 match P.underlying T with
 |some (.slice e)=>(ez P e).isSome
 |_=>false
def isStr (P:Program) (T:TypeId):Bool:=
 match P.underlying T with
 |some .string=>true
 |_=>false
def IG (n m:Nat):Option SV->Nat
 |none=>n
 |some _=>m
def eZ (P:Program) (T:TypeId) (h:Heap) (x:SV) (lo hi:Option SV):Option SV:=
 match x with
 |.r d (.str l)=>cond (isStr P T) ((bounds l.length lo hi).bind λb=>some (.r d (.str ((l.take b.2).drop b.1)))) none
 |.r d (.sl t xs)=>cond (slT P T t) ((bounds xs.length lo hi).bind λb=>some (.r d (.sl t ((xs.take b.2).drop b.1)))) none
 |.bq=>cond (zE P T) ((bounds 0 lo hi).bind λ_=>some .bq) none
 |.own i=>match look h i with
  |some (.arr _ t xs)=>cond (slT P T t) ((bounds xs.length lo hi).bind λb=>some (.sub i b.1 (b.2-b.1))) none
  |_=>none
 |.sub i o n=>match look h i with
  |some (.arr _ t xs)=>cond (slT P T t) ((bounds (IG n (xs.length-o) hi) lo hi).bind λb=>some (.sub i (o+b.1) (b.2-b.1))) none
  |_=>none
 |_=>none
def slN (P:Program) (T:TypeId) (h:Heap) (x:SV):Option Nat:=
 match x with
 |.r _ (.sl t xs)=>cond (slT P T t) (some xs.length) none
 |.own i=>match look h i with
  |some (.arr _ t xs)=>cond (slT P T t) (some xs.length) none
  |_=>none
 |_=>none
def pY (P:Program) (T:TypeId) (h:Heap) (x:SV) (lo:Option SV) (hi m:SV):Option SV:=
 (slN P T h x).bind λn=>m.asI.bind λz=>cond (decide (0<=z/\z<=(n:Int))) ((bounds z.toNat lo (some hi)).bind λ_=>some .undef) none
def aP (P:Program) (T:TypeId) (h:Heap) (x:SV) (k:Int):Option SV:=
 match x with
 |.r d (.sl t xs)=>cond (slT P T t) ((idx xs k).bind λe=>some (.fU d (t.cells e))) none
 |.own i=>match look h i with
  |some (.arr _ t xs)=>cond (slT P T t) (cond (decide (0<=k/\k<(xs.length:Int))) (some (.ptr i k.toNat 0)) none) none
  |_=>none
 |.sub i o n=>match look h i with
  |some (.arr _ t _)=>cond (slT P T t) (cond (decide (0<=k/\k<(n:Int))) (some (.ptr i (o+k.toNat) 0)) none) none
  |_=>none
 |.bsl i n=>(gJ P T).bind λe=>(ez P e).bind λsz=>cond (decide (0<=k/\k<(n:Int))) (some (.ptr i 0 (k.toNat*sz))) none
 |_=>none
def Cj (P:Program) (src dst:TypeId) (x:SV):Option SV:=
 match P.underlying src,P.underlying dst,x with
 |some (.int _),some (.int k),.r _ (.int _ n)=>some (.r [] (.int k (k.wrap n)))
 |some .string,some .string,.r _ (.str l)=>some (.r [] (.str l))
 |_,_,_=>none
def pz (P:Program) (T:TypeId):Bool:=
 match gJ P T with
 |some e=>match P.underlying e with
  |some (.int .u8)=>true
  |_=>false
 |none=>false
def bytesOf (l:List Int):List UInt8:=l.map λn=>UInt8.ofNat n.toNat
def Es (aW:List (Nat× SV)):Option Operand->Option (Option SV)
 |none=>some none
 |some x=>(opd aW x).bind λv=>some (some v)
def kM (aW:List (Nat× SV)):List (Nat× Operand)->Option (List (Nat× SV))
 |[]=>some []
 |(k,x)::l=>(opd aW x).bind λv=>(kM aW l).bind λvs=>some ((k,v)::vs)
def dy (P:Program) (s:List (Nat× SV)) (h:Heap) (op:Op):Option SV:=
 match op with
 |.move x|.assign x=>opd s x
 |.pick c a b=>(opd s c).bind λc=>c.asB.bind λc=>cond c (opd s a) (opd s b)
 |.build T parts=>
  match P.underlying T with
  |some (.struct fs)=>(np P fs.toList).bind λpl=>(cU P T).bind λz=>(kM s parts.toList).bind λps=>
   (kz (λk=>pl[k]?) z ps).bind λcs=>some (.agg cs)
  |_=>none
 |.load T a=>(opd s a).bind λa=>(gK h a).bind λcs=>eA P T cs
 |.nilCheck x=>(opd s x).bind λv=>match v with
  |.ptr i x o=>some (.ptr i x o)
  |.fU d cs=>some (.fU d cs)
  |_=>none
 |.binOp op T x y _=>(opd s x).bind λx=>(opd s y).bind λy=>bin P T op x y
 |.unOp op _ x=>(opd s x).bind λx=>un op x
 |.convert src dst x=>(opd s x).bind λx=>cond (pz P src&&isStr P dst) ((x.list h (.int .u8)).bind λp=>some (.r [] (.str (bytesOf p.2)))) (Cj P src dst x)
 |.makeFunc fn first cap=>(mE s first.toList).bind λa=>(mE s cap.toList).bind λb=>some (.fn fn a b)
 |.slice T x lo hi none=>(opd s x).bind λx=>(Es s lo).bind λlo=>(Es s hi).bind λhi=>eZ P T h x lo hi
 |.slice T x lo (some hi) (some m)=>(opd s x).bind λx=>(Es s lo).bind λlo=>(opd s hi).bind λhi=>(opd s m).bind λm=>pY P T h x lo hi m
 |.fieldAddr T x f=>(opd s x).bind λx=>(oC P T f).bind λf=>match x with
  |.fU d cs=>some (.fU d (cs.drop f.offset))
  |.ptr i k o=>some (.ptr i k (o+f.offset))
  |_=>none
 |.field T x f=>(opd s x).bind λx=>(oC P T f).bind λf=>match x with
  |.agg cs=>eA P f.type (cs.drop f.offset)
  |_=>none
 |.indexAddr T x k=>(opd s x).bind λx=>(opd s k).bind λk=>k.asI.bind λk=>aP P T h x k
 |.index T x k=>(opd s x).bind λx=>(opd s k).bind λk=>k.asI.bind λk=>match x with
  |.r _ (.str l)=>cond (isStr P T) ((idx l k).bind λc=>some (.r [] (.int .u8 c.toNat))) none
  |_=>none
 |.extract x k=>(opd s x).bind λx=>match x with
  |.tup vs=>vs[k]?
  |_=>none
 |.call {callee:=.builtin .len,args,argTypes}=>(mE s args.toList).bind λvs=>match vs,argTypes.toList with
  |[v],T::_=>cond (Ip P T v) ((lenOf h v).bind λn=>some (.i n)) none
  |_,_=>none
 |.call {callee:=.builtin .cap,args,argTypes}=>(mE s args.toList).bind λvs=>match vs,argTypes.toList with
  |[.bq],T::_=>cond (zE P T) (some (.i 0)) none
  |_,_=>none
 |.call {callee:=.builtin .min,args,.. }=>(mE s args.toList).bind λvs=>match vs with
  |[.r _ (.int k a),.r _ (.int _ b)]=>some (.r [] (.int k (if b<a then b else a)))
  |[.r _ (.int k a),.r _ (.int _ b),.r _ (.int _ c)]=>some (.r [] (.int k (if c<(if b<a then b else a)then c else(if b<a then b else a))))
  |_=>none
 |.call {callee:=.builtin .max,args,.. }=>(mE s args.toList).bind λvs=>match vs with
  |[.r _ (.int k a),.r _ (.int _ b)]=>some (.r [] (.int k (if b>a then b else a)))
  |_=>none
 |_=>none
def tL {α:Type} (h:Heap) (v:SV) (K:List SV->Option α):Option α:=
 match v with
 |.fU d cs=>K (cs.map (mkR d))
 |.ptr i x o=>match look h i with
  |some (.box cs)=>K (cs.drop o)
  |some (.arr sh t xs)=>(xs[x]?).bind λe=>K (((t.cells e).map (mkR (Ch i sh))).drop o)
  |_=>none
 |_=>none
def Gf {α:Type} (op:BinOp) (k:IntKind) (a b:Int) (K:R->Option α):Option α:=
 match op with
 |.quo=>cond (decide (b=0)) none (K (.int k (k.wrap (a.tdiv b))))
 |.rem=>cond (decide (b=0)) none (K (.int k (a.tmod b)))
 |op=>(Hj op k a b).bind K
def xC {α:Type} (op:BinOp) (k:IntKind) (a b:Int) (K:R->Option α):Option α:=
  cond (decide (b<0)) none
    (match op with
     |.shl=>K (.int k (k.wrap (a*2^(min b.toNat k.bits))))
     |.shr=>K (.int k (a.fdiv (2^(min b.toNat k.bits))))
     |_=>none)
def Gg {α:Type} (op:BinOp) (a b:List UInt8) (K:R->Option α):Option α:=
 match op with
 |.add=>cond (decide (a.length+b.length<=bJ)) (K (.str (a++b))) none
 |op=>(Hv op a b).bind K
def IH {α:Type} (P:Program) (T:TypeId) (op:BinOp) (x y:SV) (K:SV->Option α):Option α:=
 match x,y with
 |.r _ (.int k a),.r _ (.int l b)=>cond (Ci op) (xC op k a b λr=>K (.r [] r)) (cond (decide (k=l)) (Gf op k a b λr=>K (.r [] r)) none)
 |.r _ (.str a),.r _ (.str b)=>Gg op a b λr=>K (.r [] r)
 |x,y=>(bin P T op x y).bind K
def kN {α:Type} (n:Nat) (lo hi:Option SV) (K:Nat->Nat->Option α):Option α:=
 let lower (h:Nat):Option α:=match lo with
  |none=>K 0 h
  |some v=>v.asI.bind λx=>cond (decide (0<=x/\x<=(h:Int))) (K x.toNat h) none
 match hi with
 |none=>lower n
 |some v=>v.asI.bind λx=>cond (decide (0<=x/\x<=(n:Int))) (lower x.toNat) none
def Ck {α:Type} (P:Program) (T:TypeId) (h:Heap) (x:SV) (lo hi:Option SV) (K:SV->Option α):Option α:=
 match x with
 |.r d (.str l)=>cond (isStr P T) (kN l.length lo hi λa b=>K (.r d (.str ((l.take b).drop a)))) none
 |.r d (.sl t xs)=>cond (slT P T t) (kN xs.length lo hi λa b=>K (.r d (.sl t ((xs.take b).drop a)))) none
 |.bq=>cond (zE P T) (kN 0 lo hi λ_ _=>K .bq) none
 |.own i=>match look h i with
  |some (.arr _ t xs)=>cond (slT P T t) (kN xs.length lo hi λa b=>K (.sub i a (b-a))) none
  |_=>none
 |.sub i o n=>match look h i with
  |some (.arr _ t xs)=>cond (slT P T t) (kN (IG n (xs.length-o) hi) lo hi λa b=>K (.sub i (o+a) (b-a))) none
  |_=>none
 |_=>none
def oD {α:Type} (P:Program) (T:TypeId) (h:Heap) (x:SV) (k:Int) (K:SV->Option α):Option α:=
 match x with
 |.r d (.sl t xs)=>cond (slT P T t) ((idx xs k).bind λe=>K (.fU d (t.cells e))) none
 |.own i=>match look h i with
  |some (.arr _ t xs)=>cond (slT P T t) (cond (decide (0<=k/\k<(xs.length:Int))) (K (.ptr i k.toNat 0)) none) none
  |_=>none
 |.sub i o n=>match look h i with
  |some (.arr _ t _)=>cond (slT P T t) (cond (decide (0<=k/\k<(n:Int))) (K (.ptr i (o+k.toNat) 0)) none) none
  |_=>none
 |x=>(aP P T h x k).bind K
def vr {α:Type} (P:Program) (T:TypeId) (h:Heap) (x:SV) (lo:Option SV) (hi m:SV) (K:SV->Option α):Option α:=
 (slN P T h x).bind λn=>m.asI.bind λz=>cond (decide (0<=z/\z<=(n:Int))) (kN z.toNat lo (some hi) λ_ _=>K .undef) none
def jL {α:Type} (P:Program) (s:List (Nat× SV)) (h:Heap) (op:Op) (K:SV->Option α):Option α:=
 match op with
 |.load T a=>(opd s a).bind λa=>tL h a λcs=>(eA P T cs).bind K
 |.binOp op T x y _=>(opd s x).bind λx=>(opd s y).bind λy=>IH P T op x y K
 |.slice T x lo hi none=>(opd s x).bind λx=>(Es s lo).bind λlo=>(Es s hi).bind λhi=>Ck P T h x lo hi K
 |.slice T x lo (some hi) (some m)=>(opd s x).bind λx=>(Es s lo).bind λlo=>(opd s hi).bind λhi=>(opd s m).bind λm=>vr P T h x lo hi m K
 |.indexAddr T x k=>(opd s x).bind λx=>(opd s k).bind λk=>k.asI.bind λk=>oD P T h x k K
 |.index T x k=>(opd s x).bind λx=>(opd s k).bind λk=>k.asI.bind λk=>match x with
  |.r _ (.str l)=>cond (isStr P T) ((idx l k).bind λc=>K (.r [] (.int .u8 c.toNat))) none
  |_=>none
 |op=>(dy P s h op).bind K
theorem cC {α β:Type} (b:Bool) (x y:Option α) (K:α->Option β):(cond b x y).bind K=cond b (x.bind K) (y.bind K):=by cases b<;>rfl
theorem xD {α:Type} (h:Heap) (v:SV) (K:List SV->Option α):tL h v K=(gK h v).bind K:=by
 unfold tL gK;grind
theorem EE {α:Type} (op:BinOp) (k:IntKind) (a b:Int) (K:R->Option α):Gf op k a b K=(Hj op k a b).bind K:=by
 unfold Gf;split
 ·show _=(cond _ none (some _)).bind K;rw[cC];rfl
 ·show _=(cond _ none (some _)).bind K;rw[cC];rfl
 ·rfl
theorem AR {α:Type} (op:BinOp) (k:IntKind) (a b:Int) (K:R->Option α):xC op k a b K=(vq op k a b).bind K:=by
 unfold xC vq;grind
theorem EF {α:Type} (op:BinOp) (a b:List UInt8) (K:R->Option α):Gg op a b K=(Hv op a b).bind K:=by
 unfold Gg;split
 ·show _=(cond _ (some _) none).bind K;rw[cC];rfl
 ·rfl
theorem Gh {α:Type} (P:Program) (T:TypeId) (op:BinOp) (x y:SV) (K:SV->Option α):IH P T op x y K=(bin P T op x y).bind K:=by
 unfold IH;split
 ·simp only[bin,cC,AR,EE,KA,Ki,KX]
 ·simp only[bin,EF,KA,Ki]
 ·rfl
theorem gz {α:Type} (n:Nat) (lo hi:Option SV) (K:Nat->Nat->Option α):kN n lo hi K=(bounds n lo hi).bind λb=>K b.1 b.2:=by
 unfold kN bounds;cases hi<;>cases lo<;>simp only[KA,Ki,cC,KX]
theorem Cl {α:Type} (P:Program) (T:TypeId) (h:Heap) (x:SV) (lo hi:Option SV) (K:SV->Option α):Ck P T h x lo hi K=(eZ P T h x lo hi).bind K:=by
 unfold Ck eZ;split
 ·simp only[cC,gz,KA,Ki,KX]
 ·simp only[cC,gz,KA,Ki,KX]
 ·simp only[cC,gz,KA,Ki,KX]
 ·split
  ·simp only[cC,gz,KA,Ki,KX]
  ·rfl
 ·split
  ·simp only[cC,gz,KA,Ki,KX]
  ·rfl
 ·rfl
theorem tM {α:Type} (P:Program) (T:TypeId) (h:Heap) (x:SV) (k:Int) (K:SV->Option α):oD P T h x k K=(aP P T h x k).bind K:=by
 unfold oD;split
 ·simp only[aP,cC,KA,Ki,KX]
 ·simp only[aP];grind
 ·simp only[aP];grind
 ·rfl
theorem jM {α:Type} (P:Program) (s:List (Nat× SV)) (h:Heap) (op:Op) (K:SV->Option α):jL P s h op K=(dy P s h op).bind K:=by
 unfold jL;split
 ·simp only[dy,xD,KA]
 ·simp only[dy,Gh,KA]
 ·simp only[dy,Cl,KA]
 ·simp only[dy,vr,pY,gz,KA,cC,Ki,KX]
 ·simp only[dy,tM,KA]
 ·simp only[dy,KA];grind
 ·rfl
structure CR where
 v:SV
 news:List Blk:=[]
 upd:Heap:=[]
 gone:List Nat:=[]
 gL:List Nat:=[]
def CR.kil (c:CR):Kil:=(c.gone,c.gone++c.gL)
abbrev Out:=SV× List Blk
abbrev Orc:=(ρ:Type)->Nat->List SV->Heap->(CR->Option ρ)->Option ρ
def Hx:Orc:=λ_ _ _ _ _=>none
def newsH:Nat->List Blk->Heap
 |_,[]=>[]
 |n,b::l=>(n,b)::newsH (n+1) l
inductive Co where
 |kO (sh:Bool) (t:Ty)
 |ro (t:Ty)
 |drop
 |dep (j:Nat)
 |Gi (t j:Nat)
inductive dQ where
 |slot (t:Nat)
 |cell (t j:Nat)
 |box (i j:Nat)
 |Et (t j:Nat)
 |gh (k:Nat)
def coV (n:Nat) (h:Heap):Co->SV->SV× List Blk
 |.kO sh t,.bq=>(.own n,[.arr (cond sh (some []) none) t []])
 |.ro t,v=>match v.list h t with
  |some p=>(.r p.1 (.sl t p.2),[])
  |none=>(v,[])
 |.drop,_=>(.undef,[])
 |.dep j,.r d x=>(.r (cond (mem j d) d (d++[j])) x,[])
 |_,v=>(v,[])
def EG (st:St) (i j:Nat) (c:Co):St:=
 match look st.heap i with
 |some (.box cs)=>match cs[j]? with
  |some v=>{st with heap:=put (st.heap++newsH st.nid (coV st.nid st.heap c v).2) i (.box (cs.set j (coV st.nid st.heap c v).1)),nid:=st.nid+(coV st.nid st.heap c v).2.length}
  |none=>st
 |_=>st
def vt (st:St):dQ× Co->St
  | (.slot t, c) => match look st.aW t with
    |some v=>{st with aW:=put st.aW t (coV st.nid st.heap c v).1,heap:=st.heap++newsH st.nid (coV st.nid st.heap c v).2,nid:=st.nid+(coV st.nid st.heap c v).2.length}
    |none=>st
  | (.cell t j, c) => match look st.aW t with
    | some (.agg cs) => match cs[j]? with
      |some v=>{st with aW:=put st.aW t (.agg (cs.set j (coV st.nid st.heap c v).1)),heap:=st.heap++newsH st.nid (coV st.nid st.heap c v).2,nid:=st.nid+(coV st.nid st.heap c v).2.length}
      |none=>st
    |_=>st
  |(.box i j,c)=>EG st i j c
  | (.Et t j, c) => match look st.aW t with
    |some (.ptr i _ _)=>EG st i j c
    |_=>st
  |(.gh k,_)=>{st with gh:=st.gh.set k none}
def II (st:St):Co->Co
 |.Gi t j=>match look st.aW t with
  |some (.ptr i _ _)=>match look st.heap i with
   |some (.box cs)=>match cs[j]? with
    |some (.own k)=>.dep k
    |_=>.dep 0
   |_=>.dep 0
  |_=>.dep 0
 |c=>c
def Hy (st:St) (x:dQ× Co):St:=vt st (x.1,II st x.2)
def Cm:List (dQ× Co)->St->St
 |[],st=>st
 |x::l,st=>Cm l (Hy st x)
structure Env where
 P:Program
 tt:TT
 orc:FuncId->Orc
 wr:FuncId->Bool:=λ_=>false
 wt:Bool:=false
 inn:Bool:=false
 fz:Nat->List (Bool× Nat× List Nat):=λ_=>[]
 wk:Nat->List (dQ× Co):=λ_=>[]
 lit:Bool:=false
 tak:Bool:=false
 tkt:List Nat:=[]
 swp:Bool:=false
def upds:Heap->Heap->Heap
 |[],h=>h
 |(k,b)::l,h=>upds l (put h k b)
def Hz (s:List (Nat× SV)) (n:Nat) (dst:Option Tmp) (v:SV):Option (List (Nat× SV)):=
 match dst with
 |some t=>cond (Nat.ble (t+1) n) (some (put s t v)) none
 |none=>some s
def St.take (st:St) (dst:Option Tmp) (c:CR):Option St:=
  (ey c.kil (upds c.upd st.heap)).bind λh=>(Hz (jK c.kil st.aW) st.n dst c.v).bind λs=>
    some {st with aW:=s,heap:=h++newsH st.nid c.news,nid:=st.nid+c.news.length}
def setCells (cs:List SV) (o:Nat) (vs:List SV):Option (List SV):=
 cond (Nat.ble (o+vs.length) cs.length) (some (cs.take o++vs++cs.drop (o+vs.length))) none
def kP:Ty->Bool
 |.sl _=>false
 |.ho _|.hl _=>false
 |.st .shape|.st .Er|.st .qk|.st .et=>true
 |.st _=>false
 |_=>true
def isNil {α:Type}:List α->Bool
 |[]=>true
 |_=>false
def AU (h:Heap) (t:Ty):Nat->List SV->Option (List Nat× List t.El)
 |0,_=>some ([],[])
 |n+1,cs=>(Io h t (cs.take t.sz)).bind λp=>(AU h t n (cs.drop t.sz)).bind λq=>some (p.1++q.1,p.2::q.2)
def SV.B4 (h:Heap) (t:Ty) (v:SV):Option (List Nat× R):=
 match t with
 |.sl t'=>match v with
  |.bq=>some ([],.sl t' [])
  |.own i=>match look h i with
   |some (.arr none t1 xs)=>if e:t1=t' then some ([i],.sl t' (e▸xs))else none
   |_=>none
  |_=>none
 |.st _=>none
 |.tok=>match v with
  |.r _ (.tok n)=>some ([],.tok n)
  |.bq=>some ([],.tok 0)
  |_=>none
 |_=>match v with
  |.r _ (.int k n)=>some ([],.int k n)
  |.r _ (.bool b)=>some ([],.bool b)
  |.r _ (.str l)=>some ([],.str l)
  |_=>none
def xE (h:Heap):List Ty->List SV->Option (List Nat× List R)
 |[],[]=>some ([],[])
 |t::ts,v::vs=>(v.B4 h t).bind λp=>(xE h ts vs).bind λq=>some (p.1++q.1,p.2::q.2)
 |_,_=>none
def eB (h:Heap) (t:Ty):Nat->List SV->Option (List Nat× List t.El)
 |0,_=>some ([],[])
 |n+1,cs=>(xE h t.tys (cs.take t.sz)).bind λp=>(t.cT p.2).bind λx=>(eB h t n (cs.drop t.sz)).bind λq=>some (p.1++q.1,x::q.2)
def kA:List Nat->Bool
 |[]=>true
 |i::l=>cond (mem i l) false (kA l)
def vu (h:Heap):List SV->Option Bool
 |[]=>some true
 |.own i::l=>(look h i).bind λb=>match b with
  |.arr none _ _=>vu h l
  |.arr (some _) _ _=>some false
  |.box _=>none
 |.r _ (.sl _ _)::_=>some false
 |.sub _ _ _::_=>some false
 |.bsl _ _::_=>some false
 |_::l=>vu h l
def zF (h:Heap) (t:Ty) (n:Nat) (cs:List SV):Option (Option (List Nat)× List Nat× List t.El):=
 (vu h cs).bind λb=>cond b ((eB h t n cs).bind λq=>cond (kA q.1) (some (none,q.1,q.2)) none) ((AU h t n cs).bind λq=>some (some q.1,[],q.2))
def kB (h:Heap):SV->List Nat->List Nat
 |.own i,d=>match look h i with
  |some (.arr (some d') _ _)=>d'
  |_=>d
 |_,d=>d
def mF (h:Heap) (t:Ty) (v:SV):Option (Option (List Nat)× List Nat× List t.El):=
 match v with
 |.bsl i n=>match look h i with
  |some (.box cs)=>(zF h t n cs).bind λq=>some (q.1,i::q.2.1,q.2.2)
  |_=>none
 |_=>(v.list h t).bind λp=>cond (kP t) (some (none,[],p.2)) (some (some (kB h v p.1),[],p.2))
def zG (a b:Option (List Nat)):Option (Option (List Nat)):=
 match a,b with
 |none,none=>some none
 |some d,some d'=>some (some (d++d'))
 |some d,none=>some (some d)
 |none,some d=>some (some d)
def kQ (P:Program) (T:TypeId):Bool:=
 match P.info? T with
 |some i=>Nat.ble i.bytes 512
 |none=>false
def HA (E:Env) (s:List (Nat× SV)) (h:Heap) (T:TypeId) (a:Operand):Option SV:=
 cond E.inn (cond (zE E.P T) (match opd s a with
  |some (.ptr i x o)=>match look h i with
   |some (.arr none t _)=>cond (Nat.ble (o+1) t.sz) (some (.inn i x o)) none
   |_=>none
  |_=>none) none) none
def vw {α:Type} (xs:List α) (x:Nat):List (Option α):=(xs.map some).set x none
def nq {α:Type}:List (Option α)->Option (List α)
 |[]=>some []
 |none::_=>none
 |some x::l=>(nq l).bind λl=>some (x::l)
def nr (n:Nat):List R->List SV
 |[]=>[]
 |.sl _ _::l=>.own n::nr (n+1) l
 |r::l=>.r [] r::nr n l
def gZ:List R->List Blk
 |[]=>[]
 |.sl t ys::l=>.arr none t ys::gZ l
 |_::l=>gZ l
def HB (P:Program) (s:List (Nat× SV)) (h:Heap) (src dst:TypeId) (x:Operand):Option Nat:=
 cond (Nat.beq src dst&&pz P src) (match opd s x with
  |some (.own i)=>match look h i with
   |some (.arr _ _ (_::_))=>some i
   |_=>none
  |_=>none) none
def xF (h:Heap):SV->Option (Nat× Nat× Nat)
 |.sub i o n=>some (i,o,n)
 |.own i=>match look h i with
  |some (.arr _ _ xs)=>some (i,0,xs.length)
  |_=>none
 |_=>none
variable {ρ:Type}
def pZ (P:Program) (T:TypeId) (h:Heap) (i:Nat) (sh:Option (List Nat)) (t:Ty) (ys:List t.El) (k o:Nat) (x:SV) (K:CR->Option ρ):Option ρ:=
 x.cells.bind λxs=>(ez P T).bind λsz=>cond (Nat.beq sz xs.length&&Nat.ble (o+sz) t.sz) (
  match sh with
  |none=>(xE h ((t.tys.drop o).take sz) xs).bind λp=>cond (kA (i::p.1)) (
    cond (Nat.beq sz t.sz)
     ((t.cT p.2).bind λy=>K {v:=.undef,upd:=[(i,.arr none t (ys.set k y))],gone:=p.1,gL:=[i]})
     ((ys[k]?).bind λe=>(t.cT ((t.cells e).take o++p.2++(t.cells e).drop (o+sz))).bind λy=>K {v:=.undef,upd:=[(i,.arr none t (ys.set k y))],gone:=p.1,gL:=[i]})) none
  |some d=>(BX h ((t.tys.drop o).take sz) xs).bind λp=>cond (mem i p.1) none (
    cond (Nat.beq sz t.sz)
     ((t.cT p.2).bind λy=>K {v:=.undef,upd:=[(i,.arr (some (d++p.1)) t (ys.set k y))],gL:=[i]})
     ((ys[k]?).bind λe=>(t.cT ((t.cells e).take o++p.2++(t.cells e).drop (o+sz))).bind λy=>K {v:=.undef,upd:=[(i,.arr (some (d++p.1)) t (ys.set k y))],gL:=[i]}))) none
def HC (P:Program) (T:TypeId):Bool:=
 match P.underlying T with
 |some (.int _)=>true
 |_=>false
def Jk (E:Env) (h:Heap) (nid n sz:Nat) (t:Ty) (cs:List SV) (K:CR->Option ρ):Option ρ:=
 cond (E.lit&&Nat.beq t.sz sz) (match eB h t n cs with
  |some ([],xs)=>K {v:=.own nid,news:=[.arr none t xs]}
  |_=>K {v:=.bsl nid n,news:=[.box cs]}) (K {v:=.bsl nid n,news:=[.box cs]})
def Jl (E:Env) (nid:Nat) (t:Ty) (xs:List t.El) (K:CR->Option ρ):Option ρ:=
 cond (!isNil E.tkt&&!isNil xs) (K {v:=.r [] (.sl t xs)}) (K {v:=.own nid,news:=[.arr none t xs]})
def xG (E:Env) (h:Heap) (nid:Nat) (e:TypeId) (sz:Nat) (t:Ty) (T':TypeId) (b x:SV) (K:CR->Option ρ):Option ρ:=
 match b with
 |.bq=>cond (HC E.P T'&&(kQ E.P e&&Nat.beq t.sz sz)) (x.asI.bind λl=>(cU E.P e).bind λz=>(eB h t 1 z).bind λq=>cond (isNil q.1&&Nat.beq z.length sz) (match q.2 with
   |[y]=>cond (decide (1<=l/\l<=(bJ:Int))) (K {v:=.own nid,news:=[.arr none t (List.replicate l.toNat y)]}) none
   |_=>none) none) none
 |_=>none
def xH (h:Heap) (t:Ty) (b x:SV) (K:CR->Option ρ):Option ρ:=
 match b,x with
 |.sub i 0 a,.sub i' o n=>cond (Nat.beq i i') (match look h i with
  |some (.arr (some d) t' xs)=>if he:t'=t then cond (mem i d) none (cond (Nat.ble (a+n) xs.length&&(Nat.ble (o+n) xs.length&&Nat.ble 1 xs.length))
    (K {v:=.sub i 0 (a+n),upd:=[(i,.arr (some d) t ((he▸xs).take a++((he▸xs).drop o).take n++(he▸xs).drop (a+n)))],gL:=[i]}) none)else none
  |_=>none) none
 |_,_=>none
def HD (E:Env) (s:List (Nat× SV)) (h:Heap) (nid:Nat) (T:TypeId) (a:Operand) (K:CR->Option ρ) (D:Option ρ):Option ρ:=
 cond E.tak (match opd s a with
  |some (.ptr i x 0)=>match look h i with
   |some (.arr none (.st st) xs)=>cond (kP (.st st)) D ((xs[x]?).bind λe=>(eA E.P T (nr nid (st.cells e))).bind λv=>
     K {v:=v,news:=gZ (st.cells e),upd:=[(i,.arr none (.ho st) (vw xs x))],gL:=[i]})
   |_=>D
  |_=>D) D
def taken (E:Env):Operand->Bool
 |.tmp t=>mem t E.tkt
 |_=>false
def HE (E:Env) (s:List (Nat× SV)) (h:Heap) (nid:Nat) (T:TypeId) (a:Operand) (K:CR->Option ρ) (D:Option ρ):Option ρ:=
  cond (taken E a) (match opd s a with
    | some (.ptr i x 0) => match look h i with
      |some (.arr none (.sl t) xs)=>(xs[x]?).bind λe=>(eA E.P T (nr nid ((Ty.sl t).cells e))).bind λv=>
          K {v:=v,news:=gZ ((Ty.sl t).cells e),upd:=[(i,.arr none (.hl t) (vw xs x))],gL:=[i]}
      |_=>none
    |_=>none) D
def tN (E:Env) (s:List (Nat× SV)) (h:Heap) (nid:Nat) (op:Op) (K:CR->Option ρ):Option ρ:=
  match op with
  |.alloc T=>(cU E.P T).bind λz=>K {v:=.ptr nid 0 0,news:=[.box z]}
  |.box _ x=>(opd s x).bind λv=>v.cells.bind λcs=>K {v:=.ptr nid 0 0,news:=[.box cs]}
  | .buildSlice T n parts =>
    (gJ E.P T).bind λe=>(ez E.P e).bind λsz=>(kM s parts.toList).bind λps=>(cU E.P e).bind λz=>
      cond (Nat.ble (n*sz) 16777216&&Nat.beq z.length sz) ((kz (λi=>some (i*sz,sz)) (List.replicate (n*sz) .undef) ps).bind λcs=>
        match E.tt e with
        |none=>K {v:=.bsl nid n,news:=[.box cs]}
        |some t=>cond ((kP t||Nat.beq n 0)&&Nat.beq t.sz sz) ((eB h t n cs).bind λx=>cond (isNil x.1) (Jl E nid t x.2 K) none) (Jk E h nid n sz t cs K)) none
  | .makeSlice T l c =>
    (gJ E.P T).bind λe=>(ez E.P e).bind λsz=>(E.tt e).bind λt=>(cU E.P e).bind λz=>(opd s l).bind λl=>(opd s c).bind λc=>l.asI.bind λl=>c.asI.bind λc=>
      cond (kQ E.P e&&Nat.beq t.sz sz) ((eB h t 1 z).bind λx=>cond (isNil x.1&&Nat.beq z.length sz) (match x.2 with
        |[y]=>cond (decide (0<=l/\l<=c/\c<=(bJ:Int))) (K {v:=.own nid,news:=[.arr none t (List.replicate l.toNat y)]}) none
        |_=>none) none) none
  | .call { callee := .builtin .append, args, argTypes } => (mE s args.toList).bind λ vs => match vs, argTypes.toList with
    | [b, x], [T, T'] => (gJ E.P T).bind λ e => (ez E.P e).bind λ sz => (E.tt e).bind λ t => cond (kQ E.P e && (Nat.beq t.sz sz && Nat.beq T T')) ((cU E.P e).bind λ z => cond (Nat.beq z.length sz)
      ((mF h t x).bind λy=>match b with
        |.bq=>cond (hit y.2.1 (y.1.getD [])) none (cond (Nat.ble y.2.2.length bJ) (K {v:=.own nid,news:=[.arr y.1 t y.2.2],gone:=y.2.1}) none)
        | .own i => match look h i with
          | some (.arr sh t' xs) => if he : t' = t then
              (zG sh y.1).bind λsh'=>cond (mem i y.2.1) none (cond (hit (i::y.2.1) (sh'.getD [])) none (cond (Nat.ble (xs.length+y.2.2.length) bJ) (K {v:=.own nid,news:=[.arr sh' t ((he▸xs)++y.2.2)],gone:=i::y.2.1}) none))
            else none
          |_=>none
        |b=>xH h t b x K) none) (xG E h nid e sz t T' b x K)
    |_,_=>none
  | .call { callee := .builtin .clear, args, argTypes } => (mE s args.toList).bind λ vs => match vs, argTypes.toList with
    | [v], [T] => (gJ E.P T).bind λ e => (cU E.P e).bind λ z => (xF h v).bind λ p => match look h p.1 with
      | some (.arr sh t xs) => cond (Nat.beq z.length t.sz) ((eB h t 1 z).bind λ x => cond (isNil x.1) (match x.2 with
        |[y]=>K {v:=.undef,upd:=[(p.1,.arr sh t (xs.take p.2.1++List.replicate p.2.2 y++xs.drop (p.2.1+p.2.2)))],gL:=[p.1]}
        |_=>none) none) none
      |_=>none
    |_,_=>none
  | .store T a x => (opd s a).bind λ a => (opd s x).bind λ x => match a with
    | .ptr i k o => match look h i with
      |some (.box cs)=>cond (Nat.beq k 0) (x.cells.bind λxs=>(ez E.P T).bind λsz=>cond (Nat.beq sz xs.length) ((setCells cs o xs).bind λcs=>K {v:=.undef,upd:=[(i,.box cs)]}) none) none
      |some (.arr sh t ys)=>pZ E.P T h i sh t ys k o x K
      |_=>none
    |_=>none
  | .call { callee := .value f, args, .. } => (opd s f).bind λ f => (mE s args.toList).bind λ vs => match f with
    |.fn (.func g) first cap=>E.orc g ρ nid (first++vs++cap) h K
    |_=>none
  | .load T a => HE E s h nid T a K (match HA E s h T a with
    |some v=>K {v:=v}
    |none=>HD E s h nid T a K (jL E.P s h (.load T a) λv=>K {v:=v}))
  | .convert src dst x => match HB E.P s h src dst x with
    |some i=>K {v:=.own i}
    |none=>jL E.P s h (.convert src dst x) λv=>K {v:=v}
  |op=>jL E.P s h op λv=>K {v:=v}
noncomputable def both (x y:Option ρ):Option ρ:=open Classical in if x=y then x else none
def zH:Op->Option (TypeId× Operand× Bool)
 |.binOp .eql T x (.const (.slice none 0 0)) _=>some (T,x,true)
 |.binOp .neq T x (.const (.slice none 0 0)) _=>some (T,x,false)
 |_=>none
noncomputable def IJ (h:Heap) (v:SV) (K:Bool->Option ρ):Option ρ:=
 match v with
 |.bq=>K true
 |.r _ (.sl _ xs)=>cond (isNil xs) (both (K true) (K false)) (K false)
 |.own i=>match look h i with
  |some (.arr _ _ xs)=>cond (isNil xs) (both (K true) (K false)) (K false)
  |_=>none
 |_=>none
noncomputable def Hk (E:Env) (o:Oper) (st:St) (K:St->Option ρ):Option ρ:=
 match zH o.op with
 |some (T,x,e)=>cond (zE E.P T) ((opd st.aW x).bind λv=>IJ st.heap v λb=>(st.take o.dst {v:=.b (cond b e (!e))}).bind K) none
 |none=>tN E st.aW st.heap st.nid o.op λc=>(st.take o.dst c).bind K
def Gj (ops:List Oper) (j:Nat):Option Tmp:=(ops[j]?).bind (·.dst)
def vx (o:Oper) (st:St) (K:St->Option ρ):Option ρ:=
 (Hz st.aW st.n o.dst (.tup [])).bind λs=>K {st with aW:=s}
noncomputable def tO (E:Env) (all:List Oper):List Oper->St->(St->Option ρ)->Option ρ
  |[],st,K=>K st
  | o :: rest, st, K =>
    match o.guard with
    |none=>Hk E o st λst=>tO E all rest st K
    | some (j, want) => (Gj all j).bind λ t => (look st.aW t).bind λ v => match v with
      |.tup []=>vx o st λst=>tO E all rest st K
      | v => v.asB.bind λ b =>
        cond b
          (cond want (Hk E o {st with aW:=put st.aW t (.b true)} λst=>tO E all rest st K)
            (vx o {st with aW:=put st.aW t (.b true)} λst=>tO E all rest st K))
          (cond want (vx o {st with aW:=put st.aW t (.b false)} λst=>tO E all rest st K)
            (Hk E o {st with aW:=put st.aW t (.b false)} λst=>tO E all rest st K))
def after (H:Heap) (nid:Nat) (c:CR):Option Heap:=
 (ey c.kil (upds c.upd H)).bind λh=>some (h++newsH nid c.news)
structure DR where
 dst:Option Tmp
 n0:Nat
 c:CR
 see:List Nat
 EH:List SV:=[]
 len:Bool:=false
abbrev SH:=List (Nat× SV)× Heap
def zI (s:List (Nat× SV)) (dst:Option Tmp) (v:SV):List (Nat× SV):=
 match dst with
 |some t=>put s t v
 |none=>s
def AV:Heap->Nat->Blk->Heap
 |[],_,_=>[]
 |(k,u)::l,n,b=>cond (Nat.beq k n) ((k,b)::l) ((k,u)::AV l n b)
def fa:Heap->Heap->Heap
 |[],h=>h
 |(k,b)::l,h=>fa l (AV h k b)
def DR.app (r:DR) (x:SH):Option SH:=
 (ey r.c.kil (fa r.c.upd x.2)).bind λh=>some (zI (jK r.c.kil x.1) r.dst r.c.v,h++newsH r.n0 r.c.news)
def replay (p:Nat->Bool):Nat->List DR->SH->Option SH
 |_,[],x=>some x
 |j,r::l,x=>cond (p j) ((r.app x).bind λx=>replay p (j+1) l x) (replay p (j+1) l x)
def oE (n:Nat):List Edge->Bool
 |[]=>true
 |e::l=>cond (Region.binds .any e) (cond (Nat.ble (e.on+1) n) (oE n l) false) (oE n l)
def vy (ar:List Nat):List Edge->Nat
 |[]=>0
 |e::l=>cond (Region.binds .any e) ((ar.getD e.on 0||| 2^e.on)||| vy ar l) (vy ar l)
def qt:List Nat->List Oper->Option (List Nat)
 |acc,[]=>some acc
 |acc,o::l=>cond (oE acc.length o.after.toList) (qt (acc++[vy acc o.after.toList]) l) none
def eW:List Oper->List Nat
 |[]=>[]
 |o::l=>match o.dst with
  |some t=>t::eW l
  |none=>eW l
def EI (ar:List Nat) (i:Nat):Nat->List Oper->List Nat
 |_,[]=>[]
 |j,o::l=>cond ((ar.getD j 0).testBit i) (EI ar i (j+1) l) (match o.dst with
  |some t=>t::EI ar i (j+1) l
  |none=>EI ar i (j+1) l)
def AW (n:Nat):List Nat->Bool
 |[]=>true
 |i::l=>cond (Nat.ble (i+1) n) (AW n l) false
def cj:List Operand->List Nat
 |[]=>[]
 |.tmp t::l=>t::cj l
 |_::l=>cj l
def iX (T:List Nat) (s:List (Nat× SV)):List Nat->List (Nat× SV)
 |[]=>[]
 |t::l=>cond (mem t T) (iX T s l) (match look s t with
  |some v=>(t,v)::iX T s l
  |none=>iX T s l)
def ib (E:Env):Op->Bool
 |.store _ _ _=>true
 |.load _ _=>E.tak
 |.call {callee:=.builtin .len,.. }|.call {callee:=.builtin .cap,.. }|.call {callee:=.builtin .min,.. }|.call {callee:=.builtin .max,.. }=>false
 |.call {callee:=.builtin _,.. }=>true
 |.call {callee:=.value (.func g),.. }=>E.wr g
 |.call {callee:=.value _,.. }=>E.wt
 |.call _=>false
 |_=>false
def HF (ar:List Nat) (i j:Nat):Bool:=Nat.beq i j||((ar.getD i 0).testBit j||(ar.getD j 0).testBit i)
def pA (E:Env) (ar:List Nat) (i:Nat):Nat->List Oper->Bool
 |_,[]=>false
 |j,o::l=>cond (ib E o.op) (cond (HF ar i j) (pA E ar i (j+1) l) true) (pA E ar i (j+1) l)
def tP (s:List (Nat× SV)):List Nat->List SV
 |[]=>[]
 |t::l=>match look s t with
  |some v=>v::tP s l
  |none=>tP s l
def pB (h:Heap):List Nat->Heap
 |[]=>[]
 |i::l=>match look h i with
  |some b=>(i,b)::pB h l
  |none=>pB h l
def Gk:Op->Bool
 |.move _=>true
 |.assign _=>true
 |.extract _ _=>true
 |.nilCheck _=>true
 |.fieldAddr _ _ _=>true
 |_=>false
def HG:Op->Bool
 |.load _ _=>true
 |_=>false
def IK (E:Env) (ar:List Nat) (i:Nat) (ops:List Oper) (x:SH) (o:Oper):List Nat:=
 cond (pA E ar i 0 ops&&!Gk o.op) (reach x.2 (cond (HG o.op) 0 3) (kL [] (BZ (tP x.1 (cj o.op.operands.toList))))) []
def AX (E:Env) (ar:List Nat) (i:Nat) (ops:List Oper) (x:SH) (o:Oper):Heap:=
 cond (pA E ar i 0 ops) (pB x.2 (IK E ar i ops x o)) x.2
def EJ (L:List Nat):Heap->Bool
 |[]=>false
 |(k,_)::l=>cond (mem k L) true (EJ L l)
def okW (E:Env) (op:Op) (c:CR):Bool:=cond (ib E op) true (isNil c.kil.2&&isNil c.upd)
mutual
def SV.B5 (T:Kil):SV->Bool
 |.r d _=>!hit T.2 d
 |.own i=>!mem i T.1
 |.sub i _ _=>!mem i T.1
 |.bsl i _=>!mem i T.1
 |.ptr i _ _=>!mem i T.1
 |.inn i _ _=>!(mem i T.1||mem i T.2)
 |.fU d _=>!hit T.2 d
 |.agg cs=>qu T cs
 |.tup cs=>qu T cs
 |.fn _ a b=>qu T a&&qu T b
 |.bq=>true
 |.kK=>true
 |.undef=>true
def qu (T:Kil):List SV->Bool
 |[]=>true
 |v::l=>v.B5 T&&qu T l
end
def Blk.B5 (T:Kil):Blk->Bool
 |.box cs=>qu T cs
 |.arr (some d) _ _=>!hit T.2 d
 |.arr none _ _=>true
def Cn (k:Nat) (B:Blk):List DR->Bool
 |[]=>true
 |r::l=>cond ((look r.c.upd k).isNone&&(!mem k r.c.kil.1&&B.B5 r.c.kil)) (Cn k B l) false
def Iq (h:Heap) (rs:List DR):List Nat->Bool
 |[]=>true
 |k::l=>match look h k with
  |some B=>cond (Cn k B rs) (Iq h rs l) false
  |none=>false
def cW (cm:DR->Bool) (r:DR):Bool:=isNil r.c.kil.2&&(isNil r.c.upd&&(isNil r.c.news&&cm r))
def AY (b a:DR):Bool:=a.c.v.B5 b.c.kil&&qu b.c.kil a.EH
def HH (b:DR):Heap->Bool
 |[]=>true
 |(k,_)::l=>cond (Nat.ble (k+1) b.n0||Nat.ble (b.n0+b.c.news.length) k) (HH b l) false
def xI (a b:DR):Bool:=(isNil a.c.kil.2&&isNil b.c.kil.2)&&((isNil b.c.upd&&HH b a.c.upd)||(isNil a.c.upd&&HH a b.c.upd))&&(!(EJ b.see a.c.upd)&&!(EJ a.see b.c.upd))
def mb (cm:DR->Bool) (a b:DR):Bool:=xI a b||((AY b a&&cW cm a)||(AY a b&&cW cm b))
def qv (cm:DR->Bool) (ar:List Nat) (i:Nat) (r:DR):Nat->List DR->Bool
 |_,[]=>true
 |j,b::l=>cond ((ar.getD j 0).testBit i) (qv cm ar i r (j+1) l) (cond (mb cm r b) (qv cm ar i r (j+1) l) false)
def sC (cm:DR->Bool) (ar:List Nat):Nat->List DR->Bool
 |_,[]=>true
 |i,r::l=>cond (qv cm ar i r (i+1) l) (sC cm ar (i+1) l) false
def Gl:List DR->Nat->SV->List DR
 |[],_,_=>[]
 |r::l,0,v=>{r with c:={r.c with v:=v}}::l
 |r::l,n+1,v=>r::Gl l n v
def HI:Op->Bool
 |.indexAddr _ _ _=>true
 |_=>false
def HJ (h:Heap):List Nat->Bool
 |[]=>true
 |i::l=>cond (look h i).isSome (HJ h l) false
def vz (x:SH) (o:Oper):List Nat:=kL [] (BZ (tP x.1 (cj o.op.operands.toList)))
def Cp (E:Env) (h0:Heap) (x:SH) (o:Oper):Bool:=E.swp&&(HI o.op&&HJ h0 (vz x o))
def Cq (E:Env) (ar:List Nat) (i:Nat) (ops:List Oper) (h0:Heap) (x:SH) (o:Oper):Heap:=cond (Cp E h0 x o) (pB h0 (vz x o)) (AX E ar i ops x o)
def Ir (E:Env) (ar:List Nat) (i:Nat) (ops:List Oper) (h0:Heap) (x:SH) (o:Oper):List Nat:=cond (Cp E h0 x o) (vz x o) (IK E ar i ops x o)
def Gm (E:Env) (ar:List Nat) (i:Nat) (ops:List Oper) (h0:Heap) (x:SH) (o:Oper) (nid:Nat) (c:CR):DR:=⟨o.dst,nid,c,Ir E ar i ops h0 x o,tP x.1 (cj o.op.operands.toList),Cp E h0 x o⟩
def kC (E:Env) (ops:List Oper) (ar dsts:List Nat) (s0:List (Nat× SV)) (h0:Heap):Nat->List Oper->Nat->List DR->(List DR->Nat->Option ρ)->Option ρ
  |_,[],nid,rs,K=>K rs nid
  | i, o :: rest, nid, rs, K =>
    (replay (Nat.testBit (ar.getD i 0)) 0 rs (iX (EI ar i 0 ops) s0 (cj o.op.operands.toList),h0)).bind λx=>
    match o.guard with
    |none=>tN E (iX [] x.1 (cj o.op.operands.toList)) (Cq E ar i ops h0 x o) nid o.op λc=>cond (okW E o.op c) (kC E ops ar dsts s0 h0 (i+1) rest (nid+c.news.length) (rs++[Gm E ar i ops h0 x o nid c]) K) none
    | some (g, want) => cond (Nat.testBit (ar.getD i 0) g) ((rs[g]?).bind λ r => r.dst.bind λ _ => match r.c.v with
      |.tup []=>kC E ops ar dsts s0 h0 (i+1) rest nid (rs++[⟨o.dst,nid,{v:=.tup []},[],[],false⟩]) K
      | .r [] (.bool b) => cond b
        (cond want
          (tN E (iX [] x.1 (cj o.op.operands.toList)) (Cq E ar i ops h0 x o) nid o.op λc=>cond (okW E o.op c) (kC E ops ar dsts s0 h0 (i+1) rest (nid+c.news.length) (Gl rs g (.b true)++[Gm E ar i ops h0 x o nid c]) K) none)
          (kC E ops ar dsts s0 h0 (i+1) rest nid (Gl rs g (.b true)++[⟨o.dst,nid,{v:=.tup []},[],[],false⟩]) K))
        (cond want
          (kC E ops ar dsts s0 h0 (i+1) rest nid (Gl rs g (.b false)++[⟨o.dst,nid,{v:=.tup []},[],[],false⟩]) K)
          (tN E (iX [] x.1 (cj o.op.operands.toList)) (Cq E ar i ops h0 x o) nid o.op λc=>cond (okW E o.op c) (kC E ops ar dsts s0 h0 (i+1) rest (nid+c.news.length) (Gl rs g (.b false)++[Gm E ar i ops h0 x o nid c]) K) none))
      |_=>none) none
def qw:List Nat->List Nat->Bool
 |[],_=>true
 |i::l,T=>cond (mem i T) false (qw l T)
def tQ (L:List Nat):List DR->Bool
 |[]=>true
 |r::l=>cond (qw L r.c.kil.1) (tQ L l) false
def rT (h:Heap) (rs:List DR) (r:DR):Bool:=cond r.len (tQ r.see rs) (Iq h rs r.see)
def sD (cm:DR->Bool):List DR->Bool
 |[]=>true
 |r::l=>cond (!r.len||cW cm r) (sD cm l) false
def oF (E:Env) (ops:List Oper) (st:St) (K:St->Option ρ):Option ρ:=
  cond (E.P.follows .mixedOrders) ((qt [] ops).bind λar=>
    cond (kA (eW ops)) (cond (AW st.n (eW ops))
      (kC E ops ar (eW ops) st.aW st.heap 0 ops st.nid [] λrs nid=>cond (sC (rT st.heap rs) ar 0 rs&&sD (rT st.heap rs) rs)
        ((replay (λ_=>true) 0 rs (st.aW,st.heap)).bind λx=>K {st with aW:=x.1,heap:=x.2,nid:=nid}) none) none) none) none
inductive Ex where
 |normal
 |exit (id:Nat)
 |ret
def refine(c:Operand) (b:Bool) (st:St):St:=
 match c with
 |.tmp t=>{st with aW:=put st.aW t (.b b)}
 |_=>st
abbrev Ev (ρ:Type):=St->(Ex->St->Option ρ)->Option ρ
def inBlock (id:Nat) (K:Ex->St->Option ρ):Ex->St->Option ρ
 |.exit j,st=>cond (Nat.beq j id) (K .normal st) (K (.exit j) st)
 |e,st=>K e st
def Eu (i:Nat):List Nat->List Nat
 |[]=>[]
 |k::l=>cond (Nat.beq k i) (Eu i l) (k::Eu i l)
def zJ (i:Nat) (t:Ty) (h:Heap) (v:SV):SV:=
 match v.list h t with
 |some p=>.r (Eu i p.1) (.sl t p.2)
 |none=>.undef
mutual
def SV.frz (i:Nat) (t:Ty) (h:Heap):SV->SV
 |.r d x=>.r (Eu i d) x
 |.own j=>cond (Nat.beq j i) (zJ i t h (.own j)) (.own j)
 |.sub j o n=>cond (Nat.beq j i) (zJ i t h (.sub j o n)) (.sub j o n)
 |.bsl j n=>cond (Nat.beq j i) .undef (.bsl j n)
 |.ptr j x o=>cond (Nat.beq j i) .undef (.ptr j x o)
 |.inn j x c=>cond (Nat.beq j i) .undef (.inn j x c)
 |.fU d cs=>.fU (Eu i d) cs
 |.agg cs=>.agg (vi i t h cs)
 |.tup cs=>.tup (vi i t h cs)
 |.fn f a b=>.fn f (vi i t h a) (vi i t h b)
 |.bq=>.bq
 |.kK=>.kK
 |.undef=>.undef
def vi (i:Nat) (t:Ty) (h:Heap):List SV->List SV
 |[]=>[]
 |v::l=>v.frz i t h::vi i t h l
end
def Blk.frz (i:Nat) (t:Ty) (h:Heap):Blk->Blk
 |.box cs=>.box (vi i t h cs)
 |.arr none t' xs=>.arr none t' xs
 |.arr (some d) t' xs=>.arr (some (Eu i d)) t' xs
def xJ (i:Nat) (t:Ty) (h:Heap):Heap->Heap
 |[]=>[]
 |(k,b)::l=>cond (Nat.beq k i) (xJ i t h l) ((k,b.frz i t h)::xJ i t h l)
def AZ (i:Nat) (t:Ty) (h:Heap):List (Nat× SV)->List (Nat× SV)
 |[]=>[]
 |(k,v)::l=>(k,v.frz i t h)::AZ i t h l
def IL (i:Nat) (st:St):St:=
 match look st.heap i with
 |some (.arr _ t _)=>{st with aW:=AZ i t st.heap st.aW,heap:=xJ i t st.heap st.heap}
 |_=>st
def HK (h:Heap):SV->List Nat->Option Nat
 |.own i,[]=>some i
 |.sub i _ _,[]=>some i
 |.agg cs,j::p=>match cs[j]? with
  |some v=>HK h v p
  |none=>none
 |.tup cs,j::p=>match cs[j]? with
  |some v=>HK h v p
  |none=>none
 |.ptr i 0 o,j::p=>match look h i with
  |some (.box cs)=>match cs[o+j]? with
   |some v=>HK h v p
   |none=>none
  |_=>none
 |.bsl i _,j::p=>match look h i with
  |some (.box cs)=>match cs[j]? with
   |some v=>HK h v p
   |none=>none
  |_=>none
 |_,_=>none
termination_by structural _ p=>p
def IM (i:Nat) (st:St):St:=
 match look st.heap i with
 |some (.arr none t xs)=>{st with heap:=put st.heap i (.arr (some []) t xs)}
 |_=>st
def FQ (st:St) (x:Bool× Nat× List Nat):St:=
 match look st.aW x.2.1 with
 |some v=>match HK st.heap v x.2.2 with
  |some i=>cond x.1 (IM i st) (IL i st)
  |none=>st
 |none=>st
def zK:List (Bool× Nat× List Nat)->St->St
 |[],st=>st
 |x::l,st=>zK l (FQ st x)
def Blk.Cr (b:Blk) (K:Blk->Option ρ):Option ρ:=
 match b with
 |.arr none (.ho s) zs=>(nq zs).bind λxs=>K (.arr none (.st s) xs)
 |.arr none (.hl t) zs=>(nq zs).bind λxs=>K (.arr none (.sl t) xs)
 |b=>K b
def Cs:Heap->(Heap->Option ρ)->Option ρ
 |[],K=>K []
 |(k,b)::l,K=>b.Cr λb=>Cs l λl=>K ((k,b)::l)
def zL (E:Env) (K:St->Option ρ) (st:St):Option ρ:=cond E.tak (Cs st.heap λh=>K {st with heap:=h}) (K st)
noncomputable def ev (E:Env) (LP:Nat->Ev ρ->Ev ρ) (cb:Nat):Code->Ev ρ
 |.skip,st,K=>K .normal st
 |.label _,st,K=>K .normal st
 |.region id ops false,st,K=>tO E ops.toList ops.toList (Cm (E.wk id) (zK (E.fz id) st)) (zL E (K .normal))
 |.region id ops true,st,K=>oF E ops.toList (Cm (E.wk id) (zK (E.fz id) st)) (zL E (K .normal))
 |.seq a b,st,K=>ev E LP cb a st λe st=>match e with
  |.normal=>ev E LP cb b st K
  |e=>K e st
 |.cond c t f,st,K=>(opd st.aW c).bind λv=>v.asB.bind λb=>cond b (ev E LP cb t (refine c true st) K) (ev E LP cb f (refine c false st) K)
 |.block id c,st,K=>ev E LP id c st (inBlock id K)
 |.loop c,st,K=>LP cb (λst K=>ev E LP cb c st K) st K
 |.exit id,st,K=>K (.exit id) st
 |.scope c,st,K=>ev E LP cb c st K
 |.ret,st,K=>K .ret st
 |_,_,_=>none
end
section
def Ext {α:Type} (s s':List (Nat× α)):Prop:=∀t v,look s t=some v->look s' t=some v
theorem Ext.rfl' {α:Type} {s:List (Nat× α)}:Ext s s:=λ_ _ h=>h
def Le {α:Type} (x y:Option α):Prop:=∀a,x=some a->y=some a
theorem Le.refl {α:Type} (x:Option α):Le x x:=λ_ h=>h
theorem Le.bind {α β:Type} {x y:Option α} {f g:α->Option β} (h:Le x y) (hf:∀a,Le (f a) (g a)):Le (x.bind f) (y.bind g):=by
 intro b hb;rw[An]at hb⊢;obtain⟨a,h1,h2⟩:=hb;exact⟨a,h a h1,hf a b h2⟩
theorem Le.cond {α:Type} {b:Bool} {x y x' y':Option α} (h:Le x x') (h':Le y y'):Le (cond b x y) (cond b x' y'):=by cases b<;>assumption
theorem Le.none {α:Type} {y:Option α}:Le Option.none y:=λ_ h=>nomatch h
section
variable {s s':List (Nat× SV)} {h h':Heap} {P:Program}
theorem Gn (hh:Ext h h') (i:Nat):Le (look h i) (look h' i):=λ_=>hh i _
theorem bA (hs:Ext s s') (x:Operand):Le (opd s x) (opd s' x):=by
 cases x with
 |tmp t=>exactλv hv=>hs t v hv
 |_=>exact Le.refl _
theorem fb (hs:Ext s s'):(l:List Operand)->Le (mE s l) (mE s' l)
 |[]=>Le.refl _
 |x::l=>(bA hs x).bind λ_=>(fb hs l).bind λ_=>Le.refl _
theorem xK (hs:Ext s s') (x:Option Operand):Le (Es s x) (Es s' x):=by
 cases x with
 |none=>exact Le.refl _
 |some x=>exact(bA hs x).bind λ_=>Le.refl _
theorem iY (hs:Ext s s'):(l:List (Nat× Operand))->Le (kM s l) (kM s' l)
 |[]=>Le.refl _
 |(_,x)::l=>(bA hs x).bind λ_=>(iY hs l).bind λ_=>Le.refl _
theorem A0 (hh:Ext h h') (v:SV):Le (gK h v) (gK h' v):=by
 cases v<;>try exact Le.refl _
 rename_i i x o;intro cs hcs;simp only[gK]at hcs⊢
 cases hl:look h i with
 |none=>rw[hl]at hcs;exact nomatch hcs
 |some B=>rw[hl]at hcs;rw[hh i B hl];exact hcs
theorem EK (hh:Ext h h') (v:SV):Le (lenOf h v) (lenOf h' v):=by
 intro n hn
 cases v with
 |own i=>
  simp only[lenOf]at hn⊢
  cases hl:look h i with
  |none=>rw[hl]at hn;exact nomatch hn
  |some B=>rw[hl]at hn;rw[hh i B hl];exact hn
 |r d x=>cases x<;>exact hn
 |_=>exact hn
theorem A1 (hh:Ext h h') (T:TypeId) (v:SV) (lo hi:Option SV):Le (eZ P T h v lo hi) (eZ P T h' v lo hi):=by
 intro cs hcs
 cases v with
 |own i=>
  simp only[eZ]at hcs⊢
  cases hl:look h i with
  |none=>rw[hl]at hcs;exact nomatch hcs
  |some B=>rw[hl]at hcs;rw[hh i B hl];exact hcs
 |sub i o n=>
  simp only[eZ]at hcs⊢
  cases hl:look h i with
  |none=>rw[hl]at hcs;exact nomatch hcs
  |some B=>rw[hl]at hcs;rw[hh i B hl];exact hcs
 |r d x=>cases x<;>exact hcs
 |_=>exact hcs
theorem rW (hh:Ext h h') (T:TypeId) (v:SV) (k:Int):Le (aP P T h v k) (aP P T h' v k):=by
 intro cs hcs
 cases v with
 |own i=>
  simp only[aP]at hcs⊢
  cases hl:look h i with
  |none=>rw[hl]at hcs;exact nomatch hcs
  |some B=>rw[hl]at hcs;rw[hh i B hl];exact hcs
 |sub i o n=>
  simp only[aP]at hcs⊢
  cases hl:look h i with
  |none=>rw[hl]at hcs;exact nomatch hcs
  |some B=>rw[hl]at hcs;rw[hh i B hl];exact hcs
 |r d x=>cases x<;>exact hcs
 |_=>exact hcs
theorem xL (hh:Ext h h') (t:Ty) (v:SV):Le (v.list h t) (v.list h' t):=by
 intro p hp
 cases v<;>try exact hp
 all_goals
  simp only[SV.list]at hp⊢;split at hp
  ·rename_i hl;rw[hh _ _ hl];exact hp
  ·exact nomatch hp
theorem HL (hh:Ext h h') (T:TypeId) (x:SV):Le (slN P T h x) (slN P T h' x):=by
 intro n hn
 cases x with
 |own i=>
  simp only[slN]at hn⊢
  cases hl:look h i with
  |none=>rw[hl]at hn;exact nomatch hn
  |some B=>rw[hl]at hn;rw[hh i B hl];exact hn
 |r d x=>cases x<;>exact hn
 |_=>exact hn
theorem oG (hs:Ext s s') (hh:Ext h h') (op:Op):Le (dy P s h op) (dy P s' h' op):=by
 intro v hv;unfold dy at hv;split at hv<;>simp only[dy]
 ·exact bA hs _ v hv
 ·exact bA hs _ v hv
 ·revert hv;exact((bA hs _).bind λc=>(Le.refl _).bind λb=>Le.cond (bA hs _) (bA hs _)) v
 ·revert hv
  split
  ·exact((Le.refl _).bind λ_=>(Le.refl _).bind λ_=>(iY hs _).bind λ_=>Le.refl _) v
  ·exactλh=>nomatch h
 ·exact((bA hs _).bind λa=>(A0 hh a).bind λ_=>Le.refl _) v hv
 ·exact((bA hs _).bind λa=>Le.refl _) v hv
 ·exact((bA hs _).bind λa=>(bA hs _).bind λ_=>Le.refl _) v hv
 ·exact((bA hs _).bind λa=>Le.refl _) v hv
 ·exact((bA hs _).bind λa=>Le.cond ((xL hh _ _).bind λ_=>Le.refl _) (Le.refl _)) v hv
 ·exact((fb hs _).bind λa=>(fb hs _).bind λ_=>Le.refl _) v hv
 ·exact((bA hs _).bind λa=>(xK hs _).bind λ_=>(xK hs _).bind λ_=>A1 hh _ _ _ _) v hv
 ·exact((bA hs _).bind λa=>(xK hs _).bind λ_=>(bA hs _).bind λ_=>(bA hs _).bind λ_=>(HL hh _ _).bind λ_=>Le.refl _) v hv
 ·exact((bA hs _).bind λa=>Le.refl _) v hv
 ·exact((bA hs _).bind λa=>Le.refl _) v hv
 ·exact((bA hs _).bind λa=>(bA hs _).bind λ_=>(Le.refl _).bind λ_=>rW hh _ _ _) v hv
 ·exact((bA hs _).bind λa=>(bA hs _).bind λ_=>Le.refl _) v hv
 ·exact((bA hs _).bind λa=>Le.refl _) v hv
 ·refine((fb hs _).bind λvs=>?_) v hv;split
  ·exact Le.cond ((EK hh _).bind λ_=>Le.refl _) (Le.refl _)
  ·exact Le.refl _
 ·exact((fb hs _).bind λa=>Le.refl _) v hv
 ·exact((fb hs _).bind λa=>Le.refl _) v hv
 ·exact((fb hs _).bind λa=>Le.refl _) v hv
 ·exact nomatch hv
theorem vA (hh:Ext h h') (t:Ty) (v:SV):Le (v.asR h t) (v.asR h' t):=by
 cases t with
 |sl t=>exact(xL hh t v).bind λ_=>Le.refl _
 |_=>exact Le.refl _
theorem xM (hh:Ext h h'):(ts:List Ty)->(vs:List SV)->Le (BX h ts vs) (BX h' ts vs)
 |[],[]=>Le.refl _
 |t::ts,v::vs=>(vA hh t v).bind λ_=>(xM hh ts vs).bind λ_=>Le.refl _
 |[],_::_=>Le.refl _
 |_::_,[]=>Le.refl _
theorem Gp (hh:Ext h h') (t:Ty) (vs:List SV):Le (Io h t vs) (Io h' t vs):=(xM hh _ _).bind λ_=>Le.refl _
theorem zM (hh:Ext h h') (t:Ty):(n:Nat)->(c:List SV)->Le (AU h t n c) (AU h' t n c)
 |0,_=>Le.refl _
 |n+1,_=>(Gp hh t _).bind λ_=>(zM hh t n _).bind λ_=>Le.refl _
theorem tR (hh:Ext h h') (t:Ty) (v:SV):Le (v.B4 h t) (v.B4 h' t):=by
 intro p hp
 cases t with
 |sl t=>
  cases v with
  |own i=>
   simp only[SV.B4]at hp⊢
   cases hl:look h i with
   |none=>rw[hl]at hp;exact nomatch hp
   |some B=>rw[hl]at hp;rw[hh i B hl];exact hp
  |_=>exact hp
 |_=>exact hp
theorem zN (hh:Ext h h'):(ts:List Ty)->(vs:List SV)->Le (xE h ts vs) (xE h' ts vs)
 |[],[]=>Le.refl _
 |t::ts,v::vs=>(tR hh t v).bind λ_=>(zN hh ts vs).bind λ_=>Le.refl _
 |[],_::_=>Le.refl _
 |_::_,[]=>Le.refl _
theorem fy (hh:Ext h h') (t:Ty):(n:Nat)->(c:List SV)->Le (eB h t n c) (eB h' t n c)
 |0,_=>Le.refl _
 |n+1,_=>(zN hh _ _).bind λ_=>(Le.refl _).bind λ_=>(fy hh t n _).bind λ_=>Le.refl _
theorem vB (hh:Ext h h'):(c:List SV)->Le (vu h c) (vu h' c)
 |[]=>Le.refl _
 |v::l=>by
  have ih:=vB hh l
  cases v with
  |own i=>
   refine(Gn hh i).bind λb=>?_
   cases b with
   |box _=>exact Le.refl _
   |arr sh _ _=>cases sh with
    |none=>exact ih
    |some _=>exact Le.refl _
  |r d x=>cases x with
   |sl _ _=>exact Le.refl _
   |_=>exact ih
  |sub _ _ _=>exact Le.refl _
  |bsl _ _=>exact Le.refl _
  |_=>exact ih
theorem Ct (hh:Ext h h') (t:Ty) (n:Nat) (c:List SV):Le (zF h t n c) (zF h' t n c):=
 (vB hh c).bind λb=>Le.cond ((fy hh t n c).bind λ_=>Le.refl _) ((zM hh t n c).bind λ_=>Le.refl _)
theorem sE (hh:Ext h h') (t:Ty) (v:SV):Le (mF h t v) (mF h' t v):=by
 have ind:∀(v:SV) (p:List Nat× List t.El),v.list h t=some p->kB h' v p.1=kB h v p.1:=λv p hp=>by
  cases v with
  |own i=>
   simp only[SV.list]at hp
   cases hl:look h i with
   |none=>rw[hl]at hp;exact nomatch hp
   |some B=>simp only[kB,hl,hh i B hl]
  |_=>rfl
 have lst:∀v:SV,Le ((v.list h t).bind λp=>cond (kP t) (some (none,[],p.2)) (some (some (kB h v p.1),[],p.2)):Option (Option (List Nat)× List Nat× List t.El)) ((v.list h' t).bind λp=>cond (kP t) (some (none,[],p.2)) (some (some (kB h' v p.1),[],p.2))):=λv q hq=>by
  rw[An]at hq⊢;obtain⟨p,hp,hq⟩:=hq;exact⟨p,xL hh t v p hp,by rw[ind v p hp];exact hq⟩
 cases v with
 |bsl i n=>
  intro p hp;simp only[mF]at hp⊢
  cases hl:look h i with
  |none=>rw[hl]at hp;exact nomatch hp
  |some B=>
   rw[hl]at hp;rw[hh i B hl]
   cases B with
   |box cs=>exact((Ct hh t n cs).bind λ_=>Le.refl _) p hp
   |arr _ _ _=>exact nomatch hp
 |r d x=>exact lst (.r d x)
 |bq=>exact lst .bq
 |kK=>exact lst .kK
 |own i=>exact lst (.own i)
 |sub i o n=>exact lst (.sub i o n)
 |ptr i x o=>exact lst (.ptr i x o)
 |inn i x o=>exact lst (.inn i x o)
 |fU d x=>exact lst (.fU d x)
 |agg x=>exact lst (.agg x)
 |tup x=>exact lst (.tup x)
 |fn f a b=>exact lst (.fn f a b)
 |undef=>exact lst .undef
end
end
section
abbrev Cell:=Nat× Nat
def _root_.Go.World.at? (w:World) (p:Cell):Option Value:=w.cell? ⟨p.1,p.2,none⟩
def _root_.Go.World.bQ (w:World) (p:Cell):Nat× Nat× Nat:=
 match w.heap[p.1]? with
 |some (.cells c _ fr)=>(fr.1,fr.2,c.size)
 |_=>(0,0,0)
def calm (r:Nat× Nat× Nat):Bool:=decide (r.1=r.2.1\/r.2.2<=r.1)
def whole (r:Nat× Nat× Nat) (o n:Nat):Bool:=calm r&&decide (o=0/\r.2.2=n)
theorem lI {r:Nat× Nat× Nat} {o n:Nat} (h:whole r o n=true):calm r=true:=by
 unfold whole at h;rw[J8]at h;exact h.1
theorem zO {n:Nat}:whole (0,0,n) 0 n=true:=by simp[whole,calm]
theorem gN {w:World} {b o:Nat} {u:Value} (h:w.at? (b,o)=some u) (hc:calm (w.bQ (b,o))=true):w.frozen? ⟨b,o,none⟩=false:=by
 unfold World.at? World.cell? at h;unfold calm World.bQ at hc;unfold World.frozen?
 cases hb:w.heap[b]? with
 |none=>rfl
 |some ob=>
  cases ob with
  |cells c t fr=>
   simp only[hb,LM,Li,if_false]at h;simp only[hb,decide_eq_true_eq]at hc;have:=(Kf.1 h).1;obtain⟨lo,hi⟩:=fr;simp only at hc⊢;rw[Bool.and_eq_false_iff,decide_eq_false_iff_not,decide_eq_false_iff_not]
   omega
  |_=>rfl
theorem vC (w:World) (a:Addr) (v:Value) (p:Cell):(w.setCell a v).bQ p=w.bQ p:=by
 unfold World.bQ World.setCell;simp only[Array.getElem?_modify];by_cases e:a.block=p.1
 ·rw[if_pos e]
  cases hb:w.heap[p.1]? with
  |none=>rfl
  |some ob=>
   cases ob with
   |cells c t fr=>simp only[Lm];split<;>simp
   |_=>rfl
 ·rw[if_neg e]
theorem dk (b:Nat):∀(vs:List Value) (o:Nat) (w:World) (p:Cell),(w.setCells b o vs).bQ p=w.bQ p
 |[],_,_,_=>rfl
 |v::vs,o,w,p=>(dk b vs (o+1) (w.setCell ⟨b,o,none⟩ v) p).trans (vC w _ v p)
def one:Value->Bool
 |.agg _|.tuple _=>false
 |_=>true
class Tok where
 env:Nat->Value
 Cu:∀n,one (env n)=true
 Cv:env 0=.slice none 0 0
variable [Tok]
def reg (b o n:Nat) (p:Cell):Prop:=p.1=b/\o<=p.2/\p.2<o+n
def aq (t:Ty) (xs:List t.El) (i j:Nat) (r:R):Prop:=∃x,xs[i]? =some x/\(t.cells x)[j]? =some r
theorem aB {t:Ty} {xs:List t.El} {i j:Nat} {r:R} (h:aq t xs i j r):i<xs.length/\j<t.sz:=by
 obtain⟨x,hx,hr⟩:=h;refine⟨(J5.1 hx).1,?_⟩;have:=(J5.1 hr).1;rwa [Ty.bp]at this
theorem bZ {t:Ty} {xs:List t.El} {i j:Nat} (hi:i<xs.length) (hj:j<t.sz):∃r,aq t xs i j r:=by
 refine⟨(t.cells xs[i])[j]'(by rw[Ty.bp];exact hj),xs[i],?_,?_⟩<;>simp
theorem kR {i j n s c:Nat} (hi:i<n) (hj:j<s) (h:n<=c):i*s+j<c*s:=by
 have h1:(i+1)*s<=c*s:=Kh s (by omega);have:(i+1)*s=i*s+s:=KU i s;omega
inductive eC (w:World) (ok:Cell->Prop):R->Value->Prop
 |int (k:IntKind) (n:Int):eC w ok (.int k n) (.int k n)
 |bool (b:Bool):eC w ok (.bool b) (.bool b)
 |str (l:List UInt8):eC w ok (.str l) (.string ⟨l.toArray⟩)
 |sl (t:Ty) (xs:List t.El) (a:Option Addr) (cap b o:Nat) (vs:Nat->Nat->Value)
   (hcap:xs.length<=cap) (ha:xs=[]\/a=some ⟨b,o,none⟩)
   (hc:∀i j r,aq t xs i j r->ok (b,o+(i*t.sz+j))/\w.at? (b,o+(i*t.sz+j))=some (vs i j))
   (hr:∀i j r,aq t xs i j r->eC w ok r (vs i j)):eC w ok (.sl t xs) (.slice a xs.length cap)
 |tok (n:Nat):eC w ok (.tok n) (Tok.env n)
 |jI (v:Value) (h:one v=true):eC w ok .jI v
theorem eC.frame {w w':World} {ok ok':Cell->Prop} {r:R} {v:Value} (h:eC w ok r v)
  (hf:∀p u,ok p->w.at? p=some u->ok' p/\w'.at? p=some u):eC w' ok' r v:=by
 induction h with
 |int=>exact .int _ _
 |bool=>exact .bool _
 |str=>exact .str _
 |tok=>exact .tok _
 |jI v h=>exact .jI v h
 |sl t xs a cap b o vs hcap ha hc _ ih=>
  exact .sl t xs a cap b o vs hcap ha (λi j r hr=>hf _ _ (hc i j r hr).1 (hc i j r hr).2) ih
structure Row (w:World) (inner:R->Value->(Cell->Prop)->Prop) (t:Ty) (xs:List t.El) (hdr:Value) (fp:Cell->Prop) where
 a:Option Addr
 cap:Nat
 b:Nat
 o:Nat
 vs:Nat->Nat->Value
 fs:Nat->Nat->Cell->Prop
 vD:hdr=.slice a xs.length cap
 hcap:xs.length<=cap
 ha:cap=0\/a=some ⟨b,o,none⟩
 ic:∀j,j<cap*t.sz->(∃v,w.at? (b,o+j)=some v)/\whole (w.bQ (b,o+j)) o (cap*t.sz)=true
 hc:∀i j r,aq t xs i j r->w.at? (b,o+(i*t.sz+j))=some (vs i j)
 hr:∀i j r,aq t xs i j r->inner r (vs i j) (fs i j)
 hd1:∀i j r p,aq t xs i j r->fs i j p->¬reg b o (cap*t.sz) p
 hd2:∀i j r i' j' r' p,aq t xs i j r->aq t xs i' j' r'->fs i j p->fs i' j' p->i=i'/\j=j'
 hfp:∀p,fp p↔reg b o (cap*t.sz) p\/∃i j r,aq t xs i j r/\fs i j p
inductive cS (w:World):R->Value->(Cell->Prop)->Prop
 |int (k:IntKind) (n:Int):cS w (.int k n) (.int k n) (λ_=>False)
 |bool (b:Bool):cS w (.bool b) (.bool b) (λ_=>False)
 |str (l:List UInt8):cS w (.str l) (.string ⟨l.toArray⟩) (λ_=>False)
 |sl (t:Ty) (xs:List t.El) (a:Option Addr) (cap b o:Nat) (vs:Nat->Nat->Value) (fs:Nat->Nat->Cell->Prop) (fp:Cell->Prop)
   (hcap:xs.length<=cap) (ha:cap=0\/a=some ⟨b,o,none⟩)
   (ic:∀j,j<cap*t.sz->(∃v,w.at? (b,o+j)=some v)/\whole (w.bQ (b,o+j)) o (cap*t.sz)=true)
   (hc:∀i j r,aq t xs i j r->w.at? (b,o+(i*t.sz+j))=some (vs i j))
   (hr:∀i j r,aq t xs i j r->cS w r (vs i j) (fs i j))
   (hd1:∀i j r p,aq t xs i j r->fs i j p->¬reg b o (cap*t.sz) p)
   (hd2:∀i j r i' j' r' p,aq t xs i j r->aq t xs i' j' r'->fs i j p->fs i' j' p->i=i'/\j=j')
   (hfp:∀p,fp p↔reg b o (cap*t.sz) p\/∃i j r,aq t xs i j r/\fs i j p):cS w (.sl t xs) (.slice a xs.length cap) fp
 |tok (n:Nat):cS w (.tok n) (Tok.env n) (λ_=>False)
 |jI (v:Value) (h:one v=true):cS w .jI v (λ_=>False)
theorem cS.row {w:World} {t:Ty} {xs:List t.El} {v:Value} {fp:Cell->Prop} (h:cS w (.sl t xs) v fp):Nonempty (Row w (cS w) t xs v fp):=by
 cases h with
 |sl t xs a cap b o vs fs fp hcap ha ic hc hr hd1 hd2 hfp=>exact⟨⟨a,cap,b,o,vs,fs,rfl,hcap,ha,ic,hc,hr,hd1,hd2,hfp⟩⟩
theorem Row.Is {w:World} {t:Ty} {xs:List t.El} {v:Value} {fp:Cell->Prop} (h:Row w (cS w) t xs v fp):cS w (.sl t xs) v fp:=by
 obtain⟨a,cap,b,o,vs,fs,rfl,hcap,ha,ic,hc,hr,hd1,hd2,hfp⟩:=h;exact .sl t xs a cap b o vs fs fp hcap ha ic hc hr hd1 hd2 hfp
theorem cS.frame {w w':World} {r:R} {v:Value} {fp:Cell->Prop} (h:cS w r v fp)
  (hf:∀p u,fp p->w.at? p=some u->w'.at? p=some u/\w'.bQ p=w.bQ p):cS w' r v fp:=by
 induction h with
 |int=>exact .int _ _
 |bool=>exact .bool _
 |str=>exact .str _
 |tok=>exact .tok _
 |jI v h=>exact .jI v h
 |sl t xs a cap b o vs fs fp hcap ha ic hc _ hd1 hd2 hfp ih=>
  have hin:∀i j r,aq t xs i j r->fp (b,o+(i*t.sz+j)):=λi j r hr=>(hfp _).2 (.inl ⟨rfl,by simp,by
   have:=kR (aB hr).1 (aB hr).2 hcap;simp;omega⟩)
  refine .sl t xs a cap b o vs fs fp hcap ha (λj hj=>?_) (λi j r hr=>(hf _ _ (hin i j r hr) (hc i j r hr)).1)
   (λi j r hr=>ih i j r hr λp u hp=>hf p u ((hfp p).2 (.inr ⟨i,j,r,hr,hp⟩))) hd1 hd2 hfp
  obtain⟨⟨v,hv⟩,hi⟩:=ic j hj;have:=hf (b,o+j) v ((hfp _).2 (.inl ⟨rfl,by simp,by simp;omega⟩)) hv;exact⟨⟨v,this.1⟩,by rw[this.2];exact hi⟩
theorem cS.Cw {w:World} {r:R} {v:Value} {fp:Cell->Prop} {ok:Cell->Prop} (h:cS w r v fp) (hok:∀p,fp p->ok p):eC w ok r v:=by
 induction h with
 |int=>exact .int _ _
 |bool=>exact .bool _
 |str=>exact .str _
 |tok=>exact .tok _
 |jI v h=>exact .jI v h
 |sl t xs a cap b o vs fs fp hcap ha ic hc _ hd1 hd2 hfp ih=>
  refine .sl t xs a cap b o vs hcap ?_ (λi j r hr=>⟨hok _ ((hfp _).2 (.inl ⟨rfl,by simp,by
   have:=kR (aB hr).1 (aB hr).2 hcap;simp;omega⟩)),hc i j r hr⟩)
   (λi j r hr=>ih i j r hr λp hp=>hok p ((hfp p).2 (.inr ⟨i,j,r,hr,hp⟩)))
  rcases ha with rfl|h
  ·exact .inl (KH.1 (by omega))
  ·exact .inr h
theorem cS.there {w:World} {r:R} {v:Value} {fp:Cell->Prop} (h:cS w r v fp):∀p,fp p->∃u,w.at? p=some u:=by
 induction h with
 |int=>exactλ_ h=>h.elim
 |bool=>exactλ_ h=>h.elim
 |str=>exactλ_ h=>h.elim
 |tok=>exactλ_ h=>h.elim
 |jI=>exactλ_ h=>h.elim
 |sl t xs a cap b o vs fs fp hcap ha ic hc _ hd1 hd2 hfp ih=>
  intro p hp
  rcases(hfp p).1 hp with⟨h1,h2,h3⟩|⟨i,j,r,hr,hp⟩
  ·obtain⟨p1,p2⟩:=p;have h1:p1=b:=h1;simp only at h1 h2 h3;subst h1;have:=(ic (p2-o) (by omega)).1;rwa [show o+(p2-o)=p2 from by omega]at this
  ·exact ih i j r hr p hp
structure Pl where
 hdr:Nat->Value
 fp:Nat->Cell->Prop
 base:Cell->Prop
def Blk.gO:Blk->Bool
 |.box _=>true
 |.arr _ _ _=>false
def okd (H:Heap) (pl:Pl) (d:List Nat) (p:Cell):Prop:=pl.base p/\∀i B,look H i=some B->(mem i d=true->B.gO=true)->¬pl.fp i p
inductive SVRep (w:World) (H:Heap) (pl:Pl):SV->Value->Prop
 |r (d:List Nat) (x:R) (v:Value) (h:eC w (okd H pl d) x v):SVRep w H pl (.r d x) v
 |bq:SVRep w H pl .bq (.slice none 0 0)
 |kK:SVRep w H pl .kK (.pointer none)
 |own (i:Nat) (sh:Option (List Nat)) (t:Ty) (xs:List t.El) (h:look H i=some (.arr sh t xs)):SVRep w H pl (.own i) (pl.hdr i)
 |sub (i o n:Nat) (sh:Option (List Nat)) (t:Ty) (xs:List t.El) (a a':Option Addr) (cap er:Nat) (h:look H i=some (.arr sh t xs))
   (hh:pl.hdr i=.slice a xs.length cap) (hn:o+n<=xs.length) (hc:n<=er) (hc':o+er=cap) (ha:er=0\/a'=a.map (·.add (o*t.sz))):
   SVRep w H pl (.sub i o n) (.slice a' n er)
 |bsl (i n:Nat) (cs:List SV) (a:Addr) (h:look H i=some (.box cs)) (hh:pl.hdr i=.pointer (some a)):SVRep w H pl (.bsl i n) (.slice (some a) n n)
 |ptrB (i o:Nat) (cs:List SV) (b k:Nat) (h:look H i=some (.box cs)) (hh:pl.hdr i=.pointer (some ⟨b,k,none⟩)):SVRep w H pl (.ptr i 0 o) (.pointer (some ⟨b,k+o,none⟩))
 |mG (i x o:Nat) (sh:Option (List Nat)) (t:Ty) (xs:List t.El) (b k n cap:Nat) (h:look H i=some (.arr sh t xs)) (hx:x<xs.length)
   (hh:pl.hdr i=.slice (some ⟨b,k,none⟩) n cap):SVRep w H pl (.ptr i x o) (.pointer (some ⟨b,k+(x*t.sz+o),none⟩))
 |inn (i x c:Nat) (sh:Option (List Nat)) (t:Ty) (xs:List t.El) (b k n cap:Nat) (v:Value) (h:look H i=some (.arr sh t xs)) (hx:x<xs.length) (hc:c<t.sz)
   (hh:pl.hdr i=.slice (some ⟨b,k,none⟩) n cap) (hok:okd H pl [i] (b,k+(x*t.sz+c))) (hv:w.at? (b,k+(x*t.sz+c))=some v) (h1:one v=true):SVRep w H pl (.inn i x c) v
 |fU (d:List Nat) (cs:List R) (b o:Nat) (vs:Nat->Value) (hc:∀j r,cs[j]? =some r->okd H pl d (b,o+j)/\w.at? (b,o+j)=some (vs j))
   (hr:∀j r,cs[j]? =some r->eC w (okd H pl d) r (vs j)):SVRep w H pl (.fU d cs) (.pointer (some ⟨b,o,none⟩))
 |agg (cs:List SV) (vs:Array Value) (hl:cs.length=vs.size) (h1:∀(j:Nat) (v:Value),vs[j]? =some v->one v=true) (h:∀(j:Nat) (x:SV) (v:Value),cs[j]? =some x->vs[j]? =some v->SVRep w H pl x v):SVRep w H pl (.agg cs) (.agg vs)
 |tup (cs:List SV) (vs:Array Value) (hl:cs.length=vs.size) (h:∀(j:Nat) (x:SV) (v:Value),cs[j]? =some x->vs[j]? =some v->SVRep w H pl x v):SVRep w H pl (.tup cs) (.tuple vs)
 |fn (f:Fn) (as bs:List SV) (us vs:Array Value) (hl:as.length=us.size) (h:∀(j:Nat) (x:SV) (v:Value),as[j]? =some x->us[j]? =some v->SVRep w H pl x v)
   (hl':bs.length=vs.size) (h':∀(j:Nat) (x:SV) (v:Value),bs[j]? =some x->vs[j]? =some v->SVRep w H pl x v):SVRep w H pl (.fn f as bs) (.func f us vs)
 |undef (v:Value):SVRep w H pl .undef v
def cd (w:World) (H:Heap) (pl:Pl) (i:Nat):Blk->Prop
 |.box cs=>∃b o,pl.hdr i=.pointer (some ⟨b,o,none⟩)/\(∀p,pl.fp i p↔reg b o cs.length p)/\
   ∀j v,cs[j]? =some v->∃u,w.at? (b,o+j)=some u/\calm (w.bQ (b,o+j))=true/\one u=true/\SVRep w H pl v u
 |.arr none t xs=>Nonempty (Row w (cS w) t xs (pl.hdr i) (pl.fp i))
 |.arr (some d) t xs=>Nonempty (Row w (λr v f=>eC w (okd H pl d) r v/\∀p,¬f p) t xs (pl.hdr i) (pl.fp i))
structure bj (H:Heap) (pl:Pl) (w:World):Prop where
 blk:∀i B,look H i=some B->cd w H pl i B
 dis:∀i j B B' p,look H i=some B->look H j=some B'->pl.fp i p->pl.fp j p->i=j
 ob:∀i B p,look H i=some B->pl.fp i p->pl.base p
 nb:∀p,w.at? p=none->pl.base p
end
section
variable [Tok]
section lists
variable {α:Type}
theorem look_cons (k:Nat) (v:α) (l:List (Nat× α)) (n:Nat):look ((k,v)::l) n=if k=n then some v else look l n:=by
 simp only[look];cases h:Nat.beq k n
 ·have:¬k=n:=λe=>by subst e;simp at h
  simp[this]
 ·have:k=n:=J6 h;simp[this]
theorem cg (l:List (Nat× α)) (n m:Nat) (v:α):look (put l n v) m=if n=m then some v else look l m:=by
 induction l with
 |nil=>rw[put,look_cons]
 |cons x l ih=>
  obtain⟨k,u⟩:=x;simp only[put];cases hk:Nat.beq k n
  ·simp only[cond_false,look,ih];cases hm:Nat.beq k m
   ·simp
   ·have h1:k=m:=J6 hm;subst h1
    have:¬n=k:=λe=>by subst e;simp at hk
    simp[this]
  ·have h1:k=n:=J6 hk;subst h1;simp only[cond_true,look];cases hm:Nat.beq k m
   ·have:¬k=m:=λe=>by subst e;simp at hm
    simp[this]
   ·have:k=m:=J6 hm;simp[this]
theorem look_append (l l':List (Nat× α)) (n:Nat):look (l++l') n=(look l n).or (look l' n):=by
 induction l with
 |nil=>simp[look]
 |cons x l ih=>
  obtain⟨k,u⟩:=x;simp only[K8,look];cases Nat.beq k n<;>simp[ih]
theorem mem_iff (i:Nat) (l:List Nat):mem i l=true↔i∈l:=by
 induction l with
 |nil=>simp[mem]
 |cons k l ih=>
  simp only[mem];cases h:Nat.beq k i
  ·have:¬i=k:=λe=>by subst e;simp at h
   simp[ih,this]
  ·have:k=i:=J6 h;simp[this]
theorem cD (T d:List Nat) (h:hit T d=false):∀i,mem i d=true->mem i T=false:=by
 induction d with
 |nil=>intro i hi;simp[mem]at hi
 |cons k l ih=>
  simp only[hit]at h;cases hk:mem k T
  ·rw[hk]at h;intro i hi;rw[mem_iff]at hi
   rcases Kq.1 hi with rfl|hi
   ·exact hk
   ·exact ih h i ((mem_iff i l).2 hi)
  ·rw[hk]at h;simp at h
theorem aK (n:Nat) (l:List Blk) (i:Nat):look (newsH n l) i=if n<=i then l[i-n]? else none:=by
 induction l generalizing n with
 |nil=>simp[newsH,look]
 |cons b l ih=>
  rw[newsH,look_cons,ih];by_cases h:n=i
  ·subst h;simp
  ·by_cases h2:n<=i
   ·rw[if_neg h,if_pos (by omega),if_pos h2];rw[show i-n=(i-(n+1))+1 from by omega];rfl
   ·rw[if_neg h,if_neg (by omega),if_neg h2]
theorem vE (u h:Heap) (i:Nat):look (upds u h) i=match look u.reverse i with|some b=>some b|none=>look h i:=by
 induction u generalizing h with
 |nil=>simp[upds,look]
 |cons x l ih=>
  obtain⟨k,b⟩:=x;rw[upds,ih,List.reverse_cons,look_append,cg,look_cons]
  cases look l.reverse i with
  |some c=>simp
  |none=>by_cases hk:k=i<;>simp[hk,look]
theorem xN (T:Kil) (s:List (Nat× SV)) (t:Nat):look (zC T s) t=(look s t).map (SV.ay T):=by
 induction s with
 |nil=>rfl
 |cons x l ih=>
  obtain⟨k,v⟩:=x;rw[zC,look_cons,look_cons,ih];by_cases h:k=t<;>simp[h]
theorem qx (T:Kil) (h h':Heap) (e:qn T h=some h') (i:Nat):
  look h' i=cond (mem i T.1) none ((look h i).bind (Blk.ay T))/\(∀b,look h i=some b->mem i T.1=false->∃b',b.ay T=some b'):=by
 induction h generalizing h' with
 |nil=>simp only[qn,It]at e;subst e;simp[look]
 |cons x l ih=>
  obtain⟨k,b⟩:=x;simp only[qn]at e;cases hk:mem k T.1
  ·simp only[hk,cond_false,An,It]at e;obtain⟨b',hb,l',hl,rfl⟩:=e;rw[look_cons,look_cons];by_cases hi:k=i
   ·subst hi;simp[hk,hb]
   ·simpa[hi]using ih l' hl
  ·simp only[hk,cond_true]at e;have:=ih h' e;rw[look_cons];by_cases hi:k=i
   ·subst hi;simp[hk]at this⊢;exact this
   ·simpa[hi]using this
theorem b5 {α:Type} {l:List α} (h:isNil l=true):l=[]:=by cases l with|nil=>rfl|cons _ _=>exact nomatch h
theorem xO {T:Kil} (h:T.2=[]) (h1:∀i,mem i T.1=true->mem i T.2=true):T=([],[]):=by
 obtain⟨a,b⟩:=T;simp only at h h1;subst h
 cases a with
 |nil=>rfl
 |cons x l=>have:=h1 x (by simp[mem]);exact nomatch this
theorem qy (i:Nat) (a b:List Nat):mem i (a++b)=(mem i a||mem i b):=by
 induction a with
 |nil=>simp[mem]
 |cons x l ih=>simp only[K8,mem,ih];cases Nat.beq x i<;>simp
theorem CR.cX (c:CR):∀i,mem i c.kil.1=true->mem i c.kil.2=true:=λi h=>by
 show mem i (c.gone++c.gL)=true;rw[qy,show mem i c.gone=true from h];rfl
theorem iZ (T:Kil) (l:List SV) (j:Nat):(eg T l)[j]? =(l[j]?).map (SV.ay T):=by
 induction l generalizing j with
 |nil=>rfl
 |cons v l ih=>cases j with
  |zero=>rfl
  |succ j=>simpa[eg]using ih j
theorem dm (T:Kil) (l:List SV):(eg T l).length=l.length:=by
 induction l with
 |nil=>rfl
 |cons v l ih=>simp[eg,ih]
end lists
def Blk.hC:Blk->Blk->Prop
 |.box a,.box b=>a.length=b.length
 |.arr _ t xs,.arr _ t' ys=>t.sz=t'.sz/\xs.length=ys.length
 |_,_=>False
theorem Blk.bg (b:Blk):b.hC b:=by cases b<;>simp[Blk.hC]
structure fV (T:Kil) (w:World) (H:Heap) (pl:Pl) (w':World) (H':Heap) (pl':Pl):Prop where
 k1:∀i B,look H i=some B->mem i T.1=false->∃B',look H' i=some B'/\B.hC B'/\pl'.hdr i=pl.hdr i
 k2:∀d p u,(∀i,mem i d=true->mem i T.2=false)->okd H pl d p->w.at? p=some u->okd H' pl' d p/\w'.at? p=some u
theorem SVRep.bK {T:Kil} {w w':World} {H H':Heap} {pl pl':Pl} (hk:fV T w H pl w' H' pl') {v:SV} {u:Value} (h:SVRep w H pl v u):
  SVRep w' H' pl' (v.ay T) u:=by
 induction h with
 |r d x v h=>
  simp only[SV.ay];cases hd:hit T.2 d
  ·exact .r d x v (h.frame λp u hp hu=>hk.k2 d p u (cD T.2 d hd) hp hu)
  ·exact .undef _
 |bq=>exact .bq
 |kK=>exact .kK
 |own i sh t xs h=>
  simp only[SV.ay];cases hi:mem i T.1
  ·obtain⟨B',h1,h2,h3⟩:=hk.k1 i _ h hi
   cases B' with
   |box cs=>exact h2.elim
   |arr sh' t' ys=>rw[<-h3];exact .own i sh' t' ys h1
  ·exact .undef _
 |sub i o n sh t xs a a' cap er h hh hn hc hc' ha=>
  simp only[SV.ay];cases hi:mem i T.1
  ·obtain⟨B',h1,h2,h3⟩:=hk.k1 i _ h hi
   cases B' with
   |box cs=>exact h2.elim
   |arr sh' t' ys=>
    obtain⟨hz,hl⟩:=h2;exact .sub i o n sh' t' ys a a' cap er h1 (by rw[h3,hh,hl]) (hl▸hn) hc hc' (by rw[<-hz];exact ha)
  ·exact .undef _
 |bsl i n cs a h hh=>
  simp only[SV.ay];cases hi:mem i T.1
  ·obtain⟨B',h1,h2,h3⟩:=hk.k1 i _ h hi
   cases B' with
   |arr _ _ _=>exact h2.elim
   |box ds=>
    exact .bsl i n ds a h1 (h3.trans hh)
  ·exact .undef _
 |ptrB i o cs b k h hh=>
  simp only[SV.ay];cases hi:mem i T.1
  ·obtain⟨B',h1,h2,h3⟩:=hk.k1 i _ h hi
   cases B' with
   |arr _ _ _=>exact h2.elim
   |box ds=>exact .ptrB i o ds b k h1 (h3.trans hh)
  ·exact .undef _
 |mG i x o sh t xs b k n cap h hx hh=>
  simp only[SV.ay];cases hi:mem i T.1
  ·obtain⟨B',h1,h2,h3⟩:=hk.k1 i _ h hi
   cases B' with
   |box cs=>exact h2.elim
   |arr sh' t' ys=>
    obtain⟨hz,hl⟩:=h2;rw[hz];exact .mG i x o sh' t' ys b k n cap h1 (hl▸hx) (h3.trans hh)
  ·exact .undef _
 |inn i x c sh t xs b k n cap v h hx hc hh hok hv h1=>
  simp only[SV.ay];cases hi:(mem i T.1||mem i T.2)
  ·rw[Bool.or_eq_false_iff]at hi;obtain⟨B',g1,g2,g3⟩:=hk.k1 i _ h hi.1
   have g4:=hk.k2 [i] _ v (λj hj=>by
    simp only[mem]at hj;cases hb:Nat.beq i j<;>simp only[hb,cond_true,cond_false]at hj
    ·exact nomatch hj
    ·rw[<-J6 hb];exact hi.2) hok hv
   cases B' with
   |box cs=>exact g2.elim
   |arr sh' t' ys=>
    obtain⟨hz,hl⟩:=g2;rw[hz]at g4 hc;exact .inn i x c sh' t' ys b k n cap v g1 (hl▸hx) hc (g3.trans hh) g4.1 g4.2 h1
  ·exact .undef _
 |fU d cs b o vs hc hr=>
  simp only[SV.ay];cases hd:hit T.2 d
  ·exact .fU d cs b o vs (λj r hj=>hk.k2 d _ _ (cD T.2 d hd) (hc j r hj).1 (hc j r hj).2)
    λj r hj=>(hr j r hj).frame λp u hp hu=>hk.k2 d p u (cD T.2 d hd) hp hu
  ·exact .undef _
 |agg cs vs hl h1 h ih=>
  refine .agg _ vs (by rw[dm,hl]) h1 λj x v hx hv=>?_;rw[iZ]at hx;obtain⟨y,hy,rfl⟩:=J9.1 hx
  exact ih j y v hy hv
 |tup cs vs hl h ih=>
  refine .tup _ vs (by rw[dm,hl]) λj x v hx hv=>?_;rw[iZ]at hx;obtain⟨y,hy,rfl⟩:=J9.1 hx
  exact ih j y v hy hv
 |fn f as bs us vs hl h hl' h' ih ih'=>
  refine .fn f _ _ us vs (by rw[dm,hl]) (λj x v hx hv=>?_) (by rw[dm,hl']) λj x v hx hv=>?_
  ·rw[iZ]at hx;obtain⟨y,hy,rfl⟩:=J9.1 hx;exact ih j y v hy hv
  ·rw[iZ]at hx;obtain⟨y,hy,rfl⟩:=J9.1 hx
   exact ih' j y v hy hv
 |undef v=>exact .undef _
theorem tS (d:List Nat):hit [] d=false:=by
 induction d with
 |nil=>rfl
 |cons k l ih=>simpa[hit,mem]using ih
mutual
theorem bB:(v:SV)->v.ay ([],[])=v
 |.r d x=>by simp[SV.ay,tS]
 |.own j=>by simp[SV.ay,mem]
 |.sub j o n=>by simp[SV.ay,mem]
 |.bsl j n=>by simp[SV.ay,mem]
 |.ptr j x o=>by simp[SV.ay,mem]
 |.inn j x c=>by simp[SV.ay,mem]
 |.fU d cs=>by simp[SV.ay,tS]
 |.agg cs=>by simp[SV.ay,fc cs]
 |.tup cs=>by simp[SV.ay,fc cs]
 |.fn f a b=>by simp[SV.ay,fc a,fc b]
 |.bq=>by simp[SV.ay]
 |.kK=>by simp[SV.ay]
 |.undef=>by simp[SV.ay]
theorem fc:(l:List SV)->eg ([],[]) l=l
 |[]=>rfl
 |v::l=>by simp[eg,bB v,fc l]
end
theorem SVRep.oH {w w':World} {H H':Heap} {pl pl':Pl} (hk:fV ([],[]) w H pl w' H' pl') {v:SV} {u:Value} (h:SVRep w H pl v u):
  SVRep w' H' pl' v u:=by have:=h.bK hk;rwa [bB]at this
end
section
variable [Tok]
section
variable {w:World} {H:Heap} {pl:Pl}
theorem eC.scalar {ok:Cell->Prop} {x:R} {v:Value} (h:eC w ok x v) (ok':Cell->Prop) (hs:∀t xs,x≠.sl t xs):eC w ok' x v:=by
 cases h with
 |int=>exact .int _ _
 |bool=>exact .bool _
 |str=>exact .str _
 |tok=>exact .tok _
 |jI v h=>exact .jI v h
 |sl t xs=>exact(hs t xs rfl).elim
theorem qz {d:List Nat} {x:R} {v:Value} (h:eC w (okd H pl d) x v):SVRep w H pl (mkR d x) v:=by
 cases x with
 |sl t xs=>exact .r _ _ _ h
 |_=>exact .r _ _ _ (h.scalar _ (λ_ _ e=>nomatch e))
theorem eC.isOne {ok:Cell->Prop} {x:R} {v:Value} (h:eC w ok x v):one v=true:=by cases h<;>first|rfl|exact Tok.Cu _|assumption
def cY (w:World) (H:Heap) (pl:Pl) (s:List (Nat× SV)) (a:Act):Prop:=∀t v,look s t=some v->SVRep w H pl v (a.tmps.getD t undef)
theorem qA {v:Value} {x:SV} (h:oB v=some x):SVRep w H pl x v:=by
 unfold oB at h
 split at h<;>first|(cases h)|skip
 ·exact .r _ _ _ (.bool _)
 ·exact .r _ _ _ (.int _ _)
 ·exact .r _ _ _ (.str _)
 ·exact .bq
 ·exact .kK
theorem sF:∀{vs:List Value} {l:List SV},sB vs=some l->l.length=vs.length/\∀(j:Nat) (x:SV) (v:Value),l[j]? =some x->vs[j]? =some v->SVRep w H pl x v
 |[],l,h=>by cases h;exact⟨rfl,λj x v hx _=>by simp at hx⟩
 |v::vs,l,h=>by
  simp only[sB,An,It]at h;obtain⟨x,hx,xs,hxs,rfl⟩:=h;obtain⟨h1,h2⟩:=sF hxs;refine⟨by simp[h1],λj y u hy hu=>?_⟩
  cases j with
  |zero=>simp at hy hu;subst hy hu;exact qA hx
  |succ j=>exact h2 j y u (by simpa using hy) (by simpa using hu)
theorem xP {v:Value} {x:SV} (h:oB v=some x):one v=true:=by
 unfold oB at h
 split at h<;>first|rfl|(cases h)
theorem sG:∀{vs:List Value} {l:List SV},sB vs=some l->∀(j:Nat) (v:Value),vs[j]? =some v->one v=true
 |[],l,_,j,v,hv=>by simp at hv
 |u::vs,l,h,j,v,hv=>by
  simp only[sB,An,It]at h;obtain⟨x,hx,xs,hxs,rfl⟩:=h
  cases j with
  |zero=>simp at hv;subst hv;exact xP hx
  |succ j=>exact sG hxs j v (by simpa using hv)
theorem oI {v:Value} {x:SV} (h:zD v=some x):SVRep w H pl x v:=by
 unfold zD at h;split at h
 ·simp only[An,It]at h;obtain⟨l,hl,rfl⟩:=h;obtain⟨h1,h2⟩:=sF (w:=w) (H:=H) (pl:=pl) hl;refine .agg _ _ (by simpa using h1) (λj v hv=>?_) λj x v hx hv=>h2 j x v hx (by simpa using hv);exact sG hl j v (by simpa using hv)
 ·exact qA h
theorem aF {s:List (Nat× SV)} {a:Act} (hs:cY w H pl s a) {o:Operand} {x:SV} (h:opd s o=some x):SVRep w H pl x (a.eval o):=by
 cases o with
 |tmp t=>exact hs t x h
 |const v=>exact oI h
 |func f=>
  simp only[opd,It]at h;subst h
  exact .fn _ _ _ _ _ rfl (λj x v hx _=>by simp at hx) rfl (λj x v hx _=>by simp at hx)
 |global g=>exact nomatch h
theorem bT {P:Program} {T:TypeId} {i:TypeInfo} (h:P.info? T=some i) (w:World):(sizeOf T).run P w=.ok i.size w:=by
 simp[sizeOf,typeInfo,h]
theorem bm {P:Program} {T:TypeId} {d:TypeDesc} (h:P.underlying T=some d) (w:World):(underlying T).run P w=.ok d w:=by
 simp[underlying,h]
theorem gA {P:Program} {T:TypeId} {d:TypeDesc} (h:P.underlying T=some d) (w:World):(isAgg T).run P w=.ok (qq P T) w:=by
 simp only[isAgg,Sem.run_bind,bm h,Result.andThen_ok,qq,h];cases d<;>rfl
theorem qB (hr:bj H pl w) {p:SV} {u:Value} (hp:SVRep w H pl p u) {cs:List SV} (h:gK H p=some cs):
  ∃b o,u=.pointer (some ⟨b,o,none⟩)/\∀(j:Nat) (x:SV),cs[j]? =some x->∃y,w.at? (b,o+j)=some y/\one y=true/\SVRep w H pl x y:=by
 cases hp with
 |fU d cs' b o vs hc hr'=>
  simp only[gK,It]at h;subst h;refine⟨b,o,rfl,λj x hx=>?_⟩;rw[KB]at hx;obtain⟨r,hj,rfl⟩:=J9.1 hx
  exact⟨vs j,(hc j r hj).2,(hr' j r hj).isOne,qz (hr' j r hj)⟩
 |ptrB i o cs' b k hl hh=>
  simp only[gK,hl,It]at h;subst h;obtain⟨b',o',e,_,hc⟩:=hr.blk i _ hl;rw[hh]at e;cases e;refine⟨b,k+o,rfl,λj x hx=>?_⟩;rw[Kn]at hx;obtain⟨y,h1,_,h3,h4⟩:=hc _ _ hx
  exact⟨y,by rw[KY];exact h1,h3,h4⟩
 |mG i x o sh t xs b k n cap hl hx hh=>
  simp only[gK,hl,An,It]at h;obtain⟨e,he,rfl⟩:=h;have hb:=hr.blk i _ hl;refine⟨b,k+(x*t.sz+o),rfl,λj y hy=>?_⟩;rw[Kn,KB]at hy;obtain⟨r,hj,rfl⟩:=J9.1 hy;have hcell:aq t xs x (o+j) r:=⟨e,he,hj⟩
  cases sh with
  |none=>
   obtain⟨R⟩:=hb;obtain⟨a',er,b',o',vs,fs,h1,h2,h3,h4,h5,h6,h7,h8,h9⟩:=R;rw[hh]at h1;cases h1
   have hne:cap≠0:=by omega
   have h3:=h3.resolve_left hne;cases h3;refine⟨vs x (o+j),by rw[show k+(x*t.sz+o)+j=k+(x*t.sz+(o+j))from by omega];exact h5 _ _ _ hcell,?_,?_⟩
   ·exact((h6 _ _ _ hcell).Cw (ok:=λ_=>True) (λ_ _=>trivial)).isOne
   ·refine qz ((h6 _ _ _ hcell).Cw λp hp=>⟨hr.ob i _ p hl ((h9 p).2 (.inr ⟨_,_,_,hcell,hp⟩)),λi' B hB hm hf=>?_⟩);have hp':pl.fp i p:=(h9 p).2 (.inr ⟨_,_,_,hcell,hp⟩);have:=hr.dis i' i _ _ p hB hl hf hp';subst this;have hbx:=hm (by simp[Ch,mem]);rw[hl]at hB;cases hB
    simp[Blk.gO]at hbx
  |some d=>
   obtain⟨R⟩:=hb;obtain⟨a',er,b',o',vs,fs,h1,h2,h3,h4,h5,h6,h7,h8,h9⟩:=R;rw[hh]at h1;cases h1
   have hne:cap≠0:=by omega
   have h3:=h3.resolve_left hne;cases h3
   exact⟨vs x (o+j),by rw[show k+(x*t.sz+o)+j=k+(x*t.sz+(o+j))from by omega];exact h5 _ _ _ hcell,(h6 _ _ _ hcell).1.isOne,qz (h6 _ _ _ hcell).1⟩
 |_=>exact nomatch h
theorem sH {α:Type} {n:Nat} {l m:List α} (h:takeN n l=some m):m.length=n/\∀j,j<n->m[j]? =l[j]? :=by
 unfold takeN at h;cases hn:Nat.ble n l.length
 ·simp[hn]at h
 ·simp only[hn,cond_true,It]at h;subst h;have:=Kg hn;exact⟨by simp[this],λj hj=>by simp[hj]⟩
theorem tT {P:Program} {T:TypeId} {cs:List SV} {v:SV} (h:eA P T cs=some v) (b o:Nat)
  (hc:∀(j:Nat) (x:SV),cs[j]? =some x->∃y,w.at? (b,o+j)=some y/\one y=true/\SVRep w H pl x y):
  ∃u,(loadVar T ⟨b,o,none⟩).run P w=.ok u w/\SVRep w H pl v u:=by
 simp only[eA,An]at h;obtain⟨d,hd,i,hi,l,hl,h⟩:=h;obtain⟨h1,h2⟩:=sH hl
 have hy:∀j,j<i.size->∃y x,l[j]? =some x/\w.at? (b,o+j)=some y/\SVRep w H pl x y:=λj hj=>by
  have hx:l[j]? =some (l[j]'(by omega)):=J7 (by omega);obtain⟨y,h3,_,h5⟩:=hc j _ ((h2 j hj)▸hx);exact⟨y,_,hx,h3,h5⟩
 cases ha:qq P T
 ·simp only[ha,cond_false]at h
  match l,h1,hl,h,hy,h2 with
  |[x],h1,hl,h,hy,h2=>
   simp only[It]at h;subst h;have h1:i.size=1:=h1.symm;obtain⟨y,x',h3,h4,h5⟩:=hy 0 (by omega);simp at h3;subst h3;refine⟨y,?_,h5⟩;have h4:w.cell? ⟨b,o,none⟩=some y:=h4;simp[loadVar,gA hd,ha,h4]
 ·simp only[ha,cond_true,It]at h;subst h
  let f:Nat->Value:=λj=>(w.at? (b,o+j)).getD undef
  have hf:∀j,j<i.size->w.cell? (Addr.add ⟨b,o,none⟩ j)=some (f j):=λj hj=>by
   obtain⟨y,x,_,h4,_⟩:=hy j hj
   have e:Addr.add ⟨b,o,none⟩ j=⟨b,o+j,none⟩:=by
    unfold Addr.add;split
    ·rename_i h0;subst h0;rfl
    ·rfl
   rw[e];show w.at? (b,o+j)=some (f j);simp only[f,h4];rfl
  have sI:∀j,j<i.size->one (f j)=true:=λj hj=>by
   have hx:l[j]? =some (l[j]'(by omega)):=J7 (by omega);obtain⟨y,h3,h4,_⟩:=hc j _ ((h2 j hj)▸hx);simp only[f,h3];exact h4
  refine⟨.agg ((List.range i.size).map f).toArray,?_,?_⟩
  ·simp[loadVar,gA hd,ha,bT hi,run_loadCells (P:=P) w ⟨b,o,none⟩ i.size f hf]
  ·refine .agg _ _ (by simp[h1]) (λj v hv=>by
    by_cases hj:j<i.size
    ·have:v=f j:=by simp[hj]at hv;exact hv.symm
     rw[this];exact sI j hj
    ·simp[hj]at hv) λj x v hx hv=>?_
   have hj:j<i.size:=by have:=(J5.1 hx).1;omega
   obtain⟨y,x',h3,h4,h5⟩:=hy j hj;rw[h3]at hx;cases hx
   have:v=f j:=by simp[hj]at hv;exact hv.symm
   subst this;simp only[f,h4];exact h5
end
end
end Go.Proofs.Ev
