/- The evaluator over the model's code, and that it is sound: part 1. -/
import Derived.Calls
import Derived.Laws.IdiomCopy
import Derived.Laws.Cells
import Derived.Laws.Sem
set_option linter.unusedVariables false
set_option linter.unusedSimpArgs false
set_option linter.unusedSectionVars false
namespace Go.Proofs.Ev
theorem An:type_of% @Option.bind_eq_some_iff:=@Option.bind_eq_some_iff
theorem AP:type_of% @Option.some.injEq:=@Option.some.injEq
theorem AQ:type_of% @List.getElem?_eq_some_iff:=@List.getElem?_eq_some_iff
theorem AR:type_of% @Nat.eq_of_beq_eq_true:=@Nat.eq_of_beq_eq_true
theorem AU:type_of% @List.getElem?_eq_getElem:=@List.getElem?_eq_getElem
theorem AV:type_of% @Option.map_eq_some_iff:=@Option.map_eq_some_iff
theorem AW:type_of% @Bool.and_eq_true:=@Bool.and_eq_true
theorem AX:type_of% @List.getElem?_append_right:=@List.getElem?_append_right
theorem AY:type_of% @Nat.zero_add:=@Nat.zero_add
theorem AZ:type_of% @Nat.le_of_ble_eq_true:=@Nat.le_of_ble_eq_true
theorem A0:type_of% @Array.getElem?_eq_getElem:=@Array.getElem?_eq_getElem
theorem A1:type_of% @List.getElem?_append_left:=@List.getElem?_append_left
theorem A2:type_of% @Array.getElem?_eq_some_iff:=@Array.getElem?_eq_some_iff
theorem A4:type_of% @Prod.mk.injEq:=@Prod.mk.injEq
theorem A5:type_of% @Option.bind_some:=@Option.bind_some
theorem A6:type_of% @List.mem_of_getElem?:=@List.mem_of_getElem?
theorem A7:type_of% @Array.getD_eq_getD_getElem?:=@Array.getD_eq_getD_getElem?
theorem A8:type_of% @List.getElem?_drop:=@List.getElem?_drop
theorem A9:type_of% @List.append_assoc:=@List.append_assoc
theorem Ba:type_of% @Option.bind_assoc:=@Option.bind_assoc
theorem Bb:type_of% @List.mem_cons:=@List.mem_cons
theorem Bc:type_of% @Nat.add_zero:=@Nat.add_zero
theorem Bd:type_of% @List.getElem?_take:=@List.getElem?_take
theorem Be:type_of% @List.append_nil:=@List.append_nil
theorem Bf:type_of% @Nat.mul_le_mul_right:=@Nat.mul_le_mul_right
theorem Bg:type_of% @Nat.mul_comm:=@Nat.mul_comm
theorem Bh:type_of% @Nat.le_refl:=@Nat.le_refl
theorem Bi:type_of% @List.length_eq_zero_iff:=@List.length_eq_zero_iff
theorem Bj:type_of% @List.length_take:=@List.length_take
theorem Bl:type_of% @Nat.add_sub_cancel_left:=@Nat.add_sub_cancel_left
theorem Bm:type_of% @Nat.add_mul:=@Nat.add_mul
theorem Bn:type_of% @List.getElem?_of_mem:=@List.getElem?_of_mem
theorem Bo:type_of% @Nat.zero_le:=@Nat.zero_le
theorem Bp:type_of% @List.mem_cons_self:=@List.mem_cons_self
theorem Bq:type_of% @Option.or_none:=@Option.or_none
theorem Br:type_of% @Option.bind_none:=@Option.bind_none
theorem Bs:type_of% @Array.getElem?_toList:=@Array.getElem?_toList
theorem Bt:type_of% @List.getElem?_eq_none:=@List.getElem?_eq_none
theorem Bu:type_of% @List.getElem?_map:=@List.getElem?_map
theorem Bv:type_of% @Nat.sub_zero:=@Nat.sub_zero
theorem Bw:type_of% @List.cons.injEq:=@List.cons.injEq
theorem Bx:type_of% @Nat.add_assoc:=@Nat.add_assoc
theorem Bz:type_of% @Nat.mod_eq_of_lt:=@Nat.mod_eq_of_lt
theorem BA:type_of% @List.map_cons:=@List.map_cons
theorem BB:type_of% @Array.getElem?_append_left:=@Array.getElem?_append_left
theorem BC:type_of% @Nat.mul_add_mod:=@Nat.mul_add_mod
theorem BD:type_of% @List.take_append_drop:=@List.take_append_drop
theorem BF:type_of% @Bool.false_eq_true:=@Bool.false_eq_true
theorem BG:type_of% @Nat.succ_mul:=@Nat.succ_mul
theorem BH:type_of% @List.mem_cons_of_mem:=@List.mem_cons_of_mem
theorem BI:type_of% @Array.ext':=@Array.ext'
theorem BJ:type_of% @List.nodup_cons:=@List.nodup_cons
theorem BK:type_of% @List.map_nil:=@List.map_nil
theorem BL:type_of% @Option.getD_some:=@Option.getD_some
theorem BM:type_of% @List.length_replicate:=@List.length_replicate
theorem BN:type_of% @Nat.ble_eq_true_of_le:=@Nat.ble_eq_true_of_le
theorem BO:type_of% @Option.map_some:=@Option.map_some
theorem BP:type_of% @Bool.or_true:=@Bool.or_true
theorem BQ:type_of% @Nat.div_eq_of_lt:=@Nat.div_eq_of_lt
theorem BR:type_of% @List.length_append:=@List.length_append
theorem BS:type_of% @Option.some.inj:=@Option.some.inj
theorem BT:type_of% @Nat.mul_add_div:=@Nat.mul_add_div
theorem BU:type_of% @List.length_set:=@List.length_set
theorem BV:type_of% @Bool.or_eq_true:=@Bool.or_eq_true
theorem BW:type_of% @Nat.div_lt_iff_lt_mul:=@Nat.div_lt_iff_lt_mul
theorem BZ:type_of% @Nat.le_trans:=@Nat.le_trans
theorem B4:type_of% @List.drop_length:=@List.drop_length
theorem B6:type_of% @Option.isSome_none:=@Option.isSome_none
theorem Cn:type_of% @Iff.rfl:=@Iff.rfl
theorem Cr:type_of% @Nat.mod_lt:=@Nat.mod_lt
section
structure Shape where
 h:Int
 w:Int
 c:Int
 deriving DecidableEq
structure aG where
 sh:Shape
 data:List Int
 deriving DecidableEq
structure jf where
 kind:Int
 out:Int
 size:Int
 step:Int
 mult:Int
 shift:Int
 zero:Int
 weights:List Int
 zq:List Int
 deriving DecidableEq
structure Model where
 inp:Shape
 jy:List jf
 deriving DecidableEq
structure Job where
 model:Model
 at_:Int
 act:aG
 uw:Int
 deriving DecidableEq
structure Task where
 id:Int
 sk:List Int
 at_:Int
 due:Int
 born:Int
 deriving DecidableEq
structure sm where
 now:Int
 zr:Int
 age:Int
 tasks:List Task
 run:Int
 left:Int
 turns:Int
 next:Int
 deriving DecidableEq
structure Request where
 id:Int
 model:Int
 job:Job
 due:Int
 deriving DecidableEq
structure Runtime where
 sched:sm
 vH:List Model
 vI:List Bool
 p5:List Request
 deriving DecidableEq
structure Step where
 kind:Int
 a:Int
 b:Int
 data:List Int
 input:aG
 deriving DecidableEq
structure Event where
 kind:Int
 a:Int
 b:Int
 out:aG
 deriving DecidableEq
structure Entry where
 id:Int
 model:Model
 input:aG
 at_:Int
 due:Int
 end_:Int
 done:Bool
 deriving DecidableEq
structure wj where
 id:Int
 model:Int
 due:Int
 deriving DecidableEq
structure sn where
 id:Int
 sk:Nat
 at_:Int
 due:Int
 born:Int
 deriving DecidableEq
structure gB where
 id:Int
 model:Int
 mh:Int
 mw:Int
 mc:Int
 jy:Nat
 jat:Int
 ah:Int
 aw:Int
 ac:Int
 data:Nat
 uw:Int
 due:Int
 deriving DecidableEq
inductive S where
 |shape|bY|eN|model|task|request|step|event|entry|uk|jz|bZ
 deriving DecidableEq
inductive Ty where
 |int (k:IntKind)|bool|str|sl (t:Ty)|st (s:S)|tok
 |ho (s:S)|hl (t:Ty)
 deriving DecidableEq
def S.E:S->Type
 |.shape=>Shape|.bY=>aG|.eN=>jf|.model=>Model|.task=>Task|.request=>Request
 |.step=>Step|.event=>Event|.entry=>Entry|.uk=>wj|.jz=>sn|.bZ=>gB
def Ty.El:Ty->Type
 |.int _=>Int
 |.bool=>Bool
 |.str=>List UInt8
 |.sl t=>List t.El
 |.st s=>s.E
 |.tok=>Nat
 |.ho s=>Option s.E
 |.hl t=>Option (List t.El)
inductive R where
 |int (k:IntKind) (n:Int)
 |bool (b:Bool)
 |str (l:List UInt8)
 |sl (t:Ty) (xs:List t.El)
 |tok (n:Nat)
 |dX
abbrev R.i (n:Int):R:=.int .i64 n
abbrev R.ints (xs:List Int):R:=.sl (.int .i64) xs
abbrev R.bytes (xs:List Int):R:=.sl (.int .u8) xs
def sq (x:Shape):List R:=[.i x.h,.i x.w,.i x.c]
def sr (x:aG):List R:=[.i x.sh.h,.i x.sh.w,.i x.sh.c,.ints x.data]
def vJ (x:jf):List R:=[.i x.kind,.i x.out,.i x.size,.i x.step,.i x.mult,.i x.shift,.i x.zero,.ints x.weights,.ints x.zq]
def vK (x:Model):List R:=[.i x.inp.h,.i x.inp.w,.i x.inp.c,.sl (.st .eN) x.jy]
def xD (x:Task):List R:=[.i x.id,.ints x.sk,.i x.at_,.i x.due,.i x.born]
def p6 (x:Request):List R:=[.i x.id,.i x.model,.i x.job.model.inp.h,.i x.job.model.inp.w,.i x.job.model.inp.c,.sl (.st .eN) x.job.model.jy,.i x.job.at_,.i x.job.act.sh.h,.i x.job.act.sh.w,.i x.job.act.sh.c,.ints x.job.act.data,.i x.job.uw,.i x.due]
def uy (x:Step):List R:=[.i x.kind,.i x.a,.i x.b,.bytes x.data,.i x.input.sh.h,.i x.input.sh.w,.i x.input.sh.c,.ints x.input.data]
def vL (x:Event):List R:=[.i x.kind,.i x.a,.i x.b,.i x.out.sh.h,.i x.out.sh.w,.i x.out.sh.c,.ints x.out.data]
def vM (x:Entry):List R:=[.i x.id,.i x.model.inp.h,.i x.model.inp.w,.i x.model.inp.c,.sl (.st .eN) x.model.jy,.i x.input.sh.h,.i x.input.sh.w,.i x.input.sh.c,.ints x.input.data,.i x.at_,.i x.due,.i x.end_,.bool x.done]
def wm (x:wj):List R:=[.i x.id,.i x.model,.i x.due]
def su (x:sn):List R:=[.i x.id,.tok x.sk,.i x.at_,.i x.due,.i x.born]
def jA (x:gB):List R:=[.i x.id,.i x.model,.i x.mh,.i x.mw,.i x.mc,.tok x.jy,.i x.jat,.i x.ah,.i x.aw,.i x.ac,.tok x.data,.i x.uw,.i x.due]
def S.sz:S->Nat
 |.shape=>3|.bY=>4|.eN=>9|.model=>4|.task=>5|.request=>13|.step=>8|.event=>7|.entry=>13|.uk=>3|.jz=>5|.bZ=>13
def S.cells:(s:S)->s.E->List R
 |.shape=>sq|.bY=>sr|.eN=>vJ|.model=>vK|.task=>xD|.request=>p6
 |.step=>uy|.event=>vL|.entry=>vM|.uk=>wm|.jz=>su|.bZ=>jA
def Ty.sz:Ty->Nat
 |.st s=>s.sz
 |.ho s=>s.sz
 |_=>1
def Ty.cells:(t:Ty)->t.El->List R
 |.int k,n=>[.int k n]
 |.bool,b=>[.bool b]
 |.str,l=>[.str l]
 |.sl t,xs=>[.sl t xs]
 |.st s,x=>s.cells x
 |.tok,n=>[.tok n]
 |.ho s,x=>match x with
  |some x=>s.cells x
  |none=>List.replicate s.sz .dX
 |.hl t,x=>match x with
  |some xs=>[.sl t xs]
  |none=>[.dX]
theorem S.aH (s:S) (x:s.E):(s.cells x).length=s.sz:=by cases s<;>rfl
theorem Ty.aH (t:Ty) (x:t.El):(t.cells x).length=t.sz:=by
 cases t with
 |st s=>exact s.aH x
 |ho s=>cases x with
  |none=>simp[Ty.cells,Ty.sz]
  |some x=>exact s.aH x
 |hl t=>cases x<;>rfl
 |_=>rfl
theorem Ty.b4 (t:Ty):0<t.sz:=by
 cases t with
 |st s=>cases s<;>simp[Ty.sz,S.sz]
 |ho s=>cases s<;>simp[Ty.sz,S.sz]
 |_=>simp[Ty.sz]
def R.asI:R->Option Int
 |.int .i64 n=>some n
 |_=>none
def R.asB:R->Option Bool
 |.bool b=>some b
 |_=>none
def R.asL (t:Ty):R->Option (List t.El)
 |.sl t' xs=>if h:t'=t then some (h▸xs)else none
 |_=>none
def R.asT:R->Option Nat
 |.tok n=>some n
 |_=>none
theorem R.lQ {r:R} {n:Nat} (h:r.asT=some n):r=.tok n:=by
 unfold R.asT at h;split at h
 ·cases h;rfl
 ·cases h
theorem R.ab {r:R} {n:Int} (h:r.asI=some n):r=.int .i64 n:=by
 unfold R.asI at h;split at h
 ·cases h;rfl
 ·cases h
theorem R.uz {r:R} {n:Bool} (h:r.asB=some n):r=.bool n:=by
 unfold R.asB at h;split at h
 ·cases h;rfl
 ·cases h
theorem R.bq {t:Ty} {r:R} {n:List t.El} (h:r.asL t=some n):r=.sl t n:=by
 unfold R.asL at h;split at h
 ·split at h
  ·rename_i e;subst e;cases h;rfl
  ·cases h
 ·cases h
def mU:List R->Option Shape
 |[a',b',c']=>(a'.asI).bind λa=>(b'.asI).bind λb=>(c'.asI).bind λc=>some ⟨a,b,c⟩
 |_=>none
theorem oo (cs:List R) (x:Shape) (h:mU cs=some x):sq x=cs:=by
 unfold mU at h;split at h
 ·simp only[An]at h;obtain⟨a,ha,b,hb,c,hc,h⟩:=h;cases h;rw[R.ab ha,R.ab hb,R.ab hc];rfl
 ·cases h
def jB:List R->Option aG
 |[a',b',c',d']=>(a'.asI).bind λa=>(b'.asI).bind λb=>(c'.asI).bind λc=>(d'.asL (.int .i64)).bind λd=>some ⟨⟨a,b,c⟩,d⟩
 |_=>none
theorem mV (cs:List R) (x:aG) (h:jB cs=some x):sr x=cs:=by
 unfold jB at h;split at h
 ·simp only[An]at h;obtain⟨a,ha,b,hb,c,hc,d,hd,h⟩:=h;cases h;rw[R.ab ha,R.ab hb,R.ab hc,R.bq hd];rfl
 ·cases h
def mW:List R->Option jf
 |[a',b',c',d',e',f',g',h',i']=>(a'.asI).bind λa=>(b'.asI).bind λb=>(c'.asI).bind λc=>(d'.asI).bind λd=>(e'.asI).bind λe=>(f'.asI).bind λf=>(g'.asI).bind λg=>(h'.asL (.int .i64)).bind λh=>(i'.asL (.int .i64)).bind λi=>some ⟨a,b,c,d,e,f,g,h,i⟩
 |_=>none
theorem oq (cs:List R) (x:jf) (h:mW cs=some x):vJ x=cs:=by
 unfold mW at h;split at h
 ·simp only[An]at h;obtain⟨a,ha,b,hb,c,hc,d,hd,e,he,f,hf,g,hg,h,hh,i,hi,h⟩:=h;cases h;rw[R.ab ha,R.ab hb,R.ab hc,R.ab hd,R.ab he,R.ab hf,R.ab hg,R.bq hh,R.bq hi];rfl
 ·cases h
def mX:List R->Option Model
 |[a',b',c',d']=>(a'.asI).bind λa=>(b'.asI).bind λb=>(c'.asI).bind λc=>(d'.asL (.st .eN)).bind λd=>some ⟨⟨a,b,c⟩,d⟩
 |_=>none
theorem ot (cs:List R) (x:Model) (h:mX cs=some x):vK x=cs:=by
 unfold mX at h;split at h
 ·simp only[An]at h;obtain⟨a,ha,b,hb,c,hc,d,hd,h⟩:=h;cases h;rw[R.ab ha,R.ab hb,R.ab hc,R.bq hd];rfl
 ·cases h
def sw:List R->Option Task
 |[a',b',c',d',e']=>(a'.asI).bind λa=>(b'.asL (.int .i64)).bind λb=>(c'.asI).bind λc=>(d'.asI).bind λd=>(e'.asI).bind λe=>some ⟨a,b,c,d,e⟩
 |_=>none
theorem qT (cs:List R) (x:Task) (h:sw cs=some x):xD x=cs:=by
 unfold sw at h;split at h
 ·simp only[An]at h;obtain⟨a,ha,b,hb,c,hc,d,hd,e,he,h⟩:=h;cases h;rw[R.ab ha,R.bq hb,R.ab hc,R.ab hd,R.ab he];rfl
 ·cases h
def gC:List R->Option Request
 |[a',b',c',d',e',f',g',h',i',j',k',l',m']=>(a'.asI).bind λa=>(b'.asI).bind λb=>(c'.asI).bind λc=>(d'.asI).bind λd=>(e'.asI).bind λe=>(f'.asL (.st .eN)).bind λf=>(g'.asI).bind λg=>(h'.asI).bind λh=>(i'.asI).bind λi=>(j'.asI).bind λj=>(k'.asL (.int .i64)).bind λk=>(l'.asI).bind λl=>(m'.asI).bind λm=>some ⟨a,b,⟨⟨⟨c,d,e⟩,f⟩,g,⟨⟨h,i,j⟩,k⟩,l⟩,m⟩
 |_=>none
theorem lR (cs:List R) (x:Request) (h:gC cs=some x):p6 x=cs:=by
 unfold gC at h;split at h
 ·simp only[An]at h;obtain⟨a,ha,b,hb,c,hc,d,hd,e,he,f,hf,g,hg,h,hh,i,hi,j,hj,k,hk,l,hl,m,hm,h⟩:=h;cases h;rw[R.ab ha,R.ab hb,R.ab hc,R.ab hd,R.ab he,R.bq hf,R.ab hg,R.ab hh,R.ab hi,R.ab hj,R.bq hk,R.ab hl,R.ab hm];rfl
 ·cases h
def sx:List R->Option Step
 |[a',b',c',d',e',f',g',h']=>(a'.asI).bind λa=>(b'.asI).bind λb=>(c'.asI).bind λc=>(d'.asL (.int .u8)).bind λd=>(e'.asI).bind λe=>(f'.asI).bind λf=>(g'.asI).bind λg=>(h'.asL (.int .i64)).bind λh=>some ⟨a,b,c,d,⟨⟨e,f,g⟩,h⟩⟩
 |_=>none
theorem qU (cs:List R) (x:Step) (h:sx cs=some x):uy x=cs:=by
 unfold sx at h;split at h
 ·simp only[An]at h;obtain⟨a,ha,b,hb,c,hc,d,hd,e,he,f,hf,g,hg,h,hh,h⟩:=h;cases h;rw[R.ab ha,R.ab hb,R.ab hc,R.bq hd,R.ab he,R.ab hf,R.ab hg,R.bq hh];rfl
 ·cases h
def mY:List R->Option Event
 |[a',b',c',d',e',f',g']=>(a'.asI).bind λa=>(b'.asI).bind λb=>(c'.asI).bind λc=>(d'.asI).bind λd=>(e'.asI).bind λe=>(f'.asI).bind λf=>(g'.asL (.int .i64)).bind λg=>some ⟨a,b,c,⟨⟨d,e,f⟩,g⟩⟩
 |_=>none
theorem ou (cs:List R) (x:Event) (h:mY cs=some x):vL x=cs:=by
 unfold mY at h;split at h
 ·simp only[An]at h;obtain⟨a,ha,b,hb,c,hc,d,hd,e,he,f,hf,g,hg,h⟩:=h;cases h;rw[R.ab ha,R.ab hb,R.ab hc,R.ab hd,R.ab he,R.ab hf,R.bq hg];rfl
 ·cases h
def mZ:List R->Option Entry
 |[a',b',c',d',e',f',g',h',i',j',k',l',m']=>(a'.asI).bind λa=>(b'.asI).bind λb=>(c'.asI).bind λc=>(d'.asI).bind λd=>(e'.asL (.st .eN)).bind λe=>(f'.asI).bind λf=>(g'.asI).bind λg=>(h'.asI).bind λh=>(i'.asL (.int .i64)).bind λi=>(j'.asI).bind λj=>(k'.asI).bind λk=>(l'.asI).bind λl=>(m'.asB).bind λm=>some ⟨a,⟨⟨b,c,d⟩,e⟩,⟨⟨f,g,h⟩,i⟩,j,k,l,m⟩
 |_=>none
theorem ov (cs:List R) (x:Entry) (h:mZ cs=some x):vM x=cs:=by
 unfold mZ at h;split at h
 ·simp only[An]at h;obtain⟨a,ha,b,hb,c,hc,d,hd,e,he,f,hf,g,hg,h,hh,i,hi,j,hj,k,hk,l,hl,m,hm,h⟩:=h;cases h;rw[R.ab ha,R.ab hb,R.ab hc,R.ab hd,R.bq he,R.ab hf,R.ab hg,R.ab hh,R.bq hi,R.ab hj,R.ab hk,R.ab hl,R.uz hm];rfl
 ·cases h
def sy:List R->Option wj
 |[a',b',c']=>(a'.asI).bind λa=>(b'.asI).bind λb=>(c'.asI).bind λc=>some ⟨a,b,c⟩
 |_=>none
theorem qV (cs:List R) (x:wj) (h:sy cs=some x):wm x=cs:=by
 unfold sy at h;split at h
 ·simp only[An]at h;obtain⟨a,ha,b,hb,c,hc,h⟩:=h;cases h;rw[R.ab ha,R.ab hb,R.ab hc];rfl
 ·cases h
def p7:List R->Option sn
 |[a',b',c',d',e']=>(a'.asI).bind λa=>(b'.asT).bind λb=>(c'.asI).bind λc=>(d'.asI).bind λd=>(e'.asI).bind λe=>some ⟨a,b,c,d,e⟩
 |_=>none
theorem ow (cs:List R) (x:sn) (hq:p7 cs=some x):su x=cs:=by
 unfold p7 at hq;split at hq
 ·simp only[An]at hq;obtain⟨a,ha,b,hb,c,hc,d,hd,e,he,hq⟩:=hq;cases hq;rw[R.ab ha,R.lQ hb,R.ab hc,R.ab hd,R.ab he];rfl
 ·cases hq
def gD:List R->Option gB
 |[a',b',c',d',e',f',g',h',i',j',k',l',m']=>(a'.asI).bind λa=>(b'.asI).bind λb=>(c'.asI).bind λc=>(d'.asI).bind λd=>(e'.asI).bind λe=>(f'.asT).bind λf=>(g'.asI).bind λg=>(h'.asI).bind λh=>(i'.asI).bind λi=>(j'.asI).bind λj=>(k'.asT).bind λk=>(l'.asI).bind λl=>(m'.asI).bind λm=>some ⟨a,b,c,d,e,f,g,h,i,j,k,l,m⟩
 |_=>none
theorem kH (cs:List R) (x:gB) (hq:gD cs=some x):jA x=cs:=by
 unfold gD at hq;split at hq
 ·simp only[An]at hq;obtain⟨a,ha,b,hb,c,hc,d,hd,e,he,f,hf,g,hg,h0,hh,i,hi,j,hj,k,hk,l,hl,m,hm,hq⟩:=hq;cases hq;rw[R.ab ha,R.ab hb,R.ab hc,R.ab hd,R.ab he,R.lQ hf,R.ab hg,R.ab hh,R.ab hi,R.ab hj,R.lQ hk,R.ab hl,R.ab hm];rfl
 ·cases hq
def S.bw:(s:S)->List R->Option s.E
 |.shape=>mU
 |.bY=>jB
 |.eN=>mW
 |.model=>mX
 |.task=>sw
 |.request=>gC
 |.step=>sx
 |.event=>mY
 |.entry=>mZ
 |.uk=>sy
 |.jz=>p7
 |.bZ=>gD
def Ty.iT:(t:Ty)->R->Option t.El
 |.int k,.int k' n=>if k'=k then some n else none
 |.bool,.bool b=>some b
 |.str,.str l=>some l
 |.sl t,.sl t' xs=>if h:t'=t then some (h▸xs)else none
 |.tok,.tok n=>some n
 |.hl t,.sl t' xs=>if h:t'=t then some (some (h▸xs))else none
 |_,_=>none
def Ty.bw:(t:Ty)->List R->Option t.El
 |.st s,cs=>s.bw cs
 |.ho s,cs=>(s.bw cs).bind λx=>some (some x)
 |t,[r]=>t.iT r
 |_,_=>none
theorem Ty.oz (t:Ty) (r:R) (x:t.El) (h:t.iT r=some x):t.cells x=[r]:=by
 cases t with
 |st s=>cases r<;>exact nomatch h
 |int k=>
  cases r with
  |int k' n=>
   replace h:(if k'=k then some n else none)=some x:=h
   split at h
   ·rename_i e;subst e;cases h;rfl
   ·cases h
  |_=>exact nomatch h
 |bool=>
  cases r with
  |bool b=>cases h;rfl
  |_=>exact nomatch h
 |str=>
  cases r with
  |str b=>cases h;rfl
  |_=>exact nomatch h
 |sl t=>
  cases r with
  |sl t' xs=>
   replace h:(if h:t'=t then some (h▸xs)else none)=some x:=h
   split at h
   ·rename_i e;subst e;cases h;rfl
   ·cases h
  |_=>exact nomatch h
 |tok=>
  cases r with
  |tok n=>cases h;rfl
  |_=>exact nomatch h
 |ho s=>cases r<;>exact nomatch h
 |hl t=>
  cases r with
  |sl t' xs=>
   replace h:(if h:t'=t then some (some (h▸xs))else none)=some x:=h
   split at h
   ·rename_i e;subst e;cases h;rfl
   ·cases h
  |_=>exact nomatch h
theorem S.aI (s:S) (cs:List R) (x:s.E) (h:s.bw cs=some x):s.cells x=cs:=by
 cases s
 ·exact oo cs x h
 ·exact mV cs x h
 ·exact oq cs x h
 ·exact ot cs x h
 ·exact qT cs x h
 ·exact lR cs x h
 ·exact qU cs x h
 ·exact ou cs x h
 ·exact ov cs x h
 ·exact qV cs x h
 ·exact ow cs x h
 ·exact kH cs x h
theorem Ty.aI (t:Ty) (cs:List R) (x:t.El) (h:t.bw cs=some x):t.cells x=cs:=by
 cases t with
 |st s=>exact S.aI s cs x h
 |ho s=>
  replace h:(s.bw cs).bind (λx=>some (some x))=some x:=h
  obtain⟨y,hy,e⟩:=An.1 h;cases e
  exact S.aI s cs y hy
 |_=>
  match cs,h with
  |[r],h=>exact Ty.oz _ r x h
end
section
inductive SV where
 |r (d:List Nat) (x:R)
 |br
 |fK
 |own (i:Nat)
 |sub (i off len:Nat)
 |bsl (i n:Nat)
 |ptr (i idx off:Nat)
 |inn (i x c:Nat)
 |cY (d:List Nat) (cs:List R)
 |agg (cs:List SV)
 |tup (vs:List SV)
 |fn (f:Fn) (first cap:List SV)
 |undef
abbrev SV.i (n:Int):SV:=.r [] (.int .i64 n)
abbrev SV.b (b:Bool):SV:=.r [] (.bool b)
inductive Blk where
 |box (cs:List SV)
 |arr (sh:Option (List Nat)) (t:Ty) (xs:List t.El)
abbrev ak:=List (Nat× Blk)
structure St where
 aE:List (Nat× SV)
 heap:ak
 nid:Nat
 n:Nat
 gh:List (Option Nat):=[]
def look {α:Type}:List (Nat× α)->Nat->Option α
 |[],_=>none
 |(k,v)::l,n=>cond (Nat.beq k n) (some v) (look l n)
def put {α:Type}:List (Nat× α)->Nat->α->List (Nat× α)
 |[],n,v=>[(n,v)]
 |(k,u)::l,n,v=>cond (Nat.beq k n) ((k,v)::l) ((k,u)::put l n v)
def idx {α:Type} (xs:List α) (i:Int):Option α:=cond (decide (0<=i)) xs[i.toNat]? none
def mem (i:Nat):List Nat->Bool
 |[]=>false
 |k::l=>cond (Nat.beq k i) true (mem i l)
def hit (T:List Nat):List Nat->Bool
 |[]=>false
 |k::l=>cond (mem k T) true (hit T l)
abbrev Kil:=List Nat× List Nat
mutual
def SV.al (T:Kil):SV->SV
 |.r d x=>cond (hit T.2 d) .undef (.r d x)
 |.own j=>cond (mem j T.1) .undef (.own j)
 |.sub j o n=>cond (mem j T.1) .undef (.sub j o n)
 |.bsl j n=>cond (mem j T.1) .undef (.bsl j n)
 |.ptr j x o=>cond (mem j T.1) .undef (.ptr j x o)
 |.inn j x c=>cond (mem j T.1||mem j T.2) .undef (.inn j x c)
 |.cY d cs=>cond (hit T.2 d) .undef (.cY d cs)
 |.agg cs=>.agg (bV T cs)
 |.tup cs=>.tup (bV T cs)
 |.fn f a b=>.fn f (bV T a) (bV T b)
 |.br=>.br
 |.fK=>.fK
 |.undef=>.undef
def bV (T:Kil):List SV->List SV
 |[]=>[]
 |v::l=>v.al T::bV T l
end
def Blk.al (T:Kil):Blk->Option Blk
 |.box cs=>some (.box (bV T cs))
 |.arr none t xs=>some (.arr none t xs)
 |.arr (some d) t xs=>cond (hit T.2 d) none (some (.arr (some d) t xs))
def jC (T:Kil):ak->Option ak
 |[]=>some []
 |(k,b)::l=>cond (mem k T.1) (jC T l) ((b.al T).bind λb=>(jC T l).bind λl=>some ((k,b)::l))
def p8 (T:Kil):List (Nat× SV)->List (Nat× SV)
 |[]=>[]
 |(k,v)::l=>(k,v.al T)::p8 T l
def b5 (T:Kil) (h:ak):Option ak:=
 match T.2 with
 |[]=>some h
 |_=>jC T h
def dZ (T:Kil) (s:List (Nat× SV)):List (Nat× SV):=
 match T.2 with
 |[]=>s
 |_=>p8 T s
def SV.list (h:ak) (t:Ty):SV->Option (List Nat× List t.El)
 |.r d x=>(x.asL t).bind λxs=>some (d,xs)
 |.br=>some ([],[])
 |.own i=>match look h i with
  |some (.arr sh t' xs)=>if e:t'=t then some (i::sh.getD [],e▸xs)else none
  |_=>none
 |.sub i o n=>match look h i with
  |some (.arr sh t' xs)=>if e:t'=t then some (i::sh.getD [],((e▸xs).drop o).take n)else none
  |_=>none
 |_=>none
def SV.asInt (k:IntKind):SV->Option Int
 |.r _ (.int k' n)=>cond (decide (k'=k)) (some n) none
 |_=>none
def SV.asI:SV->Option Int
 |.r _ (.int _ n)=>some n
 |_=>none
def SV.asB:SV->Option Bool
 |.r _ (.bool b)=>some b
 |_=>none
def SV.asR (h:ak) (t:Ty) (v:SV):Option (List Nat× R):=
 match t with
 |.sl t'=>(v.list h t').bind λp=>some (p.1,.sl t' p.2)
 |.st _=>none
 |.tok=>match v with
  |.r d (.tok n)=>some (d,.tok n)
  |.br=>some ([],.tok 0)
  |_=>none
 |_=>match v with
  |.r d x=>some (d,x)
  |_=>none
def S.tys:S->List Ty
 |.shape=>[.int .i64,.int .i64,.int .i64]
 |.bY=>[.int .i64,.int .i64,.int .i64,.sl (.int .i64)]
 |.eN=>[.int .i64,.int .i64,.int .i64,.int .i64,.int .i64,.int .i64,.int .i64,.sl (.int .i64),.sl (.int .i64)]
 |.model=>[.int .i64,.int .i64,.int .i64,.sl (.st .eN)]
 |.task=>[.int .i64,.sl (.int .i64),.int .i64,.int .i64,.int .i64]
 |.request=>[.int .i64,.int .i64,.int .i64,.int .i64,.int .i64,.sl (.st .eN),.int .i64,.int .i64,.int .i64,.int .i64,.sl (.int .i64),.int .i64,.int .i64]
 |.step=>[.int .i64,.int .i64,.int .i64,.sl (.int .u8),.int .i64,.int .i64,.int .i64,.sl (.int .i64)]
 |.event=>[.int .i64,.int .i64,.int .i64,.int .i64,.int .i64,.int .i64,.sl (.int .i64)]
 |.entry=>[.int .i64,.int .i64,.int .i64,.int .i64,.sl (.st .eN),.int .i64,.int .i64,.int .i64,.sl (.int .i64),.int .i64,.int .i64,.int .i64,.bool]
 |.uk=>[.int .i64,.int .i64,.int .i64]
 |.jz=>[.int .i64,.tok,.int .i64,.int .i64,.int .i64]
 |.bZ=>[.int .i64,.int .i64,.int .i64,.int .i64,.int .i64,.tok,.int .i64,.int .i64,.int .i64,.int .i64,.tok,.int .i64,.int .i64]
def Ty.tys:Ty->List Ty
 |.st s=>s.tys
 |.ho s=>s.tys
 |.hl t=>[.sl t]
 |t=>[t]
def sf (h:ak):List Ty->List SV->Option (List Nat× List R)
 |[],[]=>some ([],[])
 |t::ts,v::vs=>(v.asR h t).bind λp=>(sf h ts vs).bind λq=>some (p.1++q.1,p.2::q.2)
 |_,_=>none
def yZ (h:ak) (t:Ty) (vs:List SV):Option (List Nat× t.El):=
 (sf h t.tys vs).bind λp=>(t.bw p.2).bind λx=>some (p.1,x)
def SV.cells:SV->Option (List SV)
 |.agg cs=>some cs
 |.tup _=>none
 |.undef=>none
 |v=>some [v]
mutual
def SV.ids:SV->List Nat
 |.own i=>[i]
 |.sub i _ _=>[i]
 |.bsl i _=>[i]
 |.ptr i _ _=>[i]
 |.agg cs=>uo cs
 |.tup cs=>uo cs
 |.fn _ a b=>uo a++uo b
 |_=>[]
def uo:List SV->List Nat
 |[]=>[]
 |v::l=>v.ids++uo l
end
def gE:List Nat->List Nat->List Nat
 |acc,[]=>acc
 |acc,i::l=>cond (mem i acc) (gE acc l) (gE (acc++[i]) l)
def vN (h:ak):List Nat->List Nat
 |[]=>[]
 |i::l=>(match look h i with
  |some (.box cs)=>uo cs
  |_=>[])++vN h l
def reach (h:ak):Nat->List Nat->List Nat
 |0,L=>L
 |n+1,L=>reach h n (gE L (vN h L))
def ie:Value->Option SV
 |.bool b=>some (.b b)
 |.int k n=>some (.r [] (.int k n))
 |.string s=>some (.r [] (.str s.data.toList))
 |.slice none 0 0=>some .br
 |.pointer none=>some .fK
 |_=>none
def kY:List Value->Option (List SV)
 |[]=>some []
 |v::l=>(ie v).bind λx=>(kY l).bind λxs=>some (x::xs)
def p9:Value->Option SV
 |.agg cs=>(kY cs.toList).bind λl=>some (.agg l)
 |v=>ie v
def opd (aE:List (Nat× SV)):Operand->Option SV
 |.tmp t=>look aE t
 |.const v=>p9 v
 |.func f=>some (.fn (.func f) [] [])
 |.global _=>none
def fX (aE:List (Nat× SV)):List Operand->Option (List SV)
 |[]=>some []
 |x::l=>(opd aE x).bind λv=>(fX aE l).bind λvs=>some (v::vs)
end
section
abbrev TT:=TypeId->Option Ty
def bO:Nat:=2^38
def jD (P:Program) (T:TypeId):Bool:=
 match P.underlying T with
 |some (.struct _)=>true
 |some (.array _ _)=>true
 |_=>false
def dc (P:Program) (T:TypeId):Option TypeId:=
 match P.underlying T with
 |some (.slice e)=>some e
 |_=>none
def ig (P:Program) (T:TypeId) (f:Nat):Option Field:=
 match P.underlying T with
 |some (.struct fs)=>(fs[f]?).bind λf=>(P.info? f.type).bind λi=>cond (Nat.beq i.size 0) none (some f)
 |_=>none
def b6 (P:Program) (T:TypeId):Option Nat:=(P.info? T).bind λi=>some i.size
def gF (P:Program):List Field->Option (List (Nat× Nat))
 |[]=>some []
 |f::fs=>(b6 P f.type).bind λs=>(gF P fs).bind λl=>some ((f.offset,s)::l)
def takeN {α:Type} (n:Nat) (l:List α):Option (List α):=cond (Nat.ble n l.length) (some (l.take n)) none
def b7 (P:Program) (T:TypeId) (cs:List SV):Option SV:=
  (P.underlying T).bind λ_=>(P.info? T).bind λi=>(takeN i.size cs).bind λl=>
    cond (jD P T) (some (.agg l)) (match l with|[v]=>some v|_=>none)
def mkR (d:List Nat):R->SV
 |.sl t xs=>.r d (.sl t xs)
 |x=>.r [] x
def sA (i:Nat):Option (List Nat)->List Nat
 |none=>[i]
 |some d=>d
def dd (h:ak):SV->Option (List SV)
 |.cY d cs=>some (cs.map (mkR d))
 |.ptr i x o=>match look h i with
  |some (.box cs)=>some (cs.drop o)
  |some (.arr sh t xs)=>(xs[x]?).bind λe=>some (((t.cells e).map (mkR (sA i sh))).drop o)
  |_=>none
 |_=>none
def bz (P:Program) (T:TypeId):Option (List SV):=
 (P.info? T).bind λi=>i.zero.bind λz=>(p9 z).bind λv=>v.cells
def eG (place:Nat->Option (Nat× Nat)):List SV->List (Nat× SV)->Option (List SV)
 |cs,[]=>some cs
 |cs,(k,v)::l=>(place k).bind λp=>v.cells.bind λvs=>
   cond (Nat.beq vs.length p.2) (cond (Nat.ble (p.1+vs.length) cs.length) (eG place (cs.take p.1++vs++cs.drop (p.1+vs.length)) l) none) none
def xt (op:BinOp) (k:IntKind) (a b:Int):Option R:=
 match op with
 |.add=>some (.int k (k.wrap (a+b)))
 |.sub=>some (.int k (k.wrap (a-b)))
 |.mul=>some (.int k (k.wrap (a*b)))
 |.quo=>cond (decide (b=0)) none (some (.int k (k.wrap (a.tdiv b))))
 |.rem=>cond (decide (b=0)) none (some (.int k (a.tmod b)))
 |.and=>some (.int k (k.wrap (BitVec.ofInt k.bits a&&& BitVec.ofInt k.bits b).toNat))
 |.or=>some (.int k (k.wrap (BitVec.ofInt k.bits a||| BitVec.ofInt k.bits b).toNat))
 |.xor=>some (.int k (k.wrap (BitVec.ofInt k.bits a^^^ BitVec.ofInt k.bits b).toNat))
 |.eql=>some (.bool (a==b))
 |.neq=>some (.bool (a !=b))
 |.lss=>some (.bool (decide (a<b)))
 |.leq=>some (.bool (decide (a<=b)))
 |.gtr=>some (.bool (decide (a>b)))
 |.geq=>some (.bool (decide (a>=b)))
 |_=>none
def m3 (op:BinOp) (k:IntKind) (a b:Int):Option R:=
  cond (decide (b<0)) none
    (match op with
     |.shl=>some (.int k (k.wrap (a*2^(min b.toNat k.bits))))
     |.shr=>some (.int k (a.fdiv (2^(min b.toNat k.bits))))
     |_=>none)
def xE (op:BinOp) (a b:List UInt8):Option R:=
 match op with
 |.add=>cond (decide (a.length+b.length<=bO)) (some (.str (a++b))) none
 |.eql=>some (.bool (a==b))
 |.neq=>some (.bool (!(a==b)))
 |.lss=>some (.bool (Op.bytesLess a b))
 |.leq=>some (.bool (Op.bytesLess a b||a==b))
 |.gtr=>some (.bool (!(Op.bytesLess a b||a==b)))
 |.geq=>some (.bool (!(Op.bytesLess a b)))
 |_=>none
def uA (P:Program) (xs ys:List SV):List Field->Option Bool
 |[]=>some true
 |f::fs=>cond (decide (f.name= "_")) none (match P.underlying f.type,xs[f.offset]?,ys[f.offset]? with
  |some (.int _),some (.r _ (.int k a)),some (.r _ (.int l b))=>cond (decide (k=l)) ((uA P xs ys fs).bind λt=>some (cond (a==b) t false)) none
  |_,_,_=>none)
def xF (P:Program) (T:TypeId) (xs ys:List SV):Option Bool:=
 cond (P.stoodInHeld T) none (cond (P.eqGuardType P.depth T) none (match P.underlying T with
  |some (.struct fs)=>uA P xs ys fs.toList
  |_=>none))
def sB:BinOp->Bool
 |.shl|.shr=>true
 |_=>false
def isEq:BinOp->Option Bool
 |.eql=>some true
 |.neq=>some false
 |_=>none
def bin (P:Program) (T:TypeId) (op:BinOp) (x y:SV):Option SV:=
 match x,y with
 |.r _ (.int k a),.r _ (.int l b)=>cond (sB op) ((m3 op k a b).bind λr=>some (.r [] r)) (cond (decide (k=l)) ((xt op k a b).bind λr=>some (.r [] r)) none)
 |.r _ (.str a),.r _ (.str b)=>(xE op a b).bind λr=>some (.r [] r)
 |.r _ (.bool a),.r _ (.bool b)=>match P.underlying T with
  |some .bool=>(isEq op).bind λe=>some (.b (cond e (a==b) (!(a==b))))
  |_=>none
 |.agg a,.agg b=>(isEq op).bind λe=>(xF P T a b).bind λt=>some (.b (cond e t (!t)))
 |_,_=>none
def un (op:UnOp) (x:SV):Option SV:=
 match op,x with
 |.neg,.r _ (.int k n)=>some (.r [] (.int k (k.wrap (0-n))))
 |.not,.r _ (.bool b)=>some (.b (!b))
 |_,_=>none
def lenOf (h:ak):SV->Option Nat
 |.r _ (.str l)=>some l.length
 |.r _ (.sl _ xs)=>some xs.length
 |.br=>some 0
 |.own i=>match look h i with
  |some (.arr _ _ xs)=>some xs.length
  |_=>none
 |.sub _ _ n=>some n
 |.bsl _ n=>some n
 |_=>none
def za (P:Program) (T:TypeId):SV->Bool
 |.r _ (.str _)=>match P.underlying T with
  |some .string=>true
  |_=>false
 |_=>match P.underlying T with
  |some (.slice _)=>true
  |_=>false
def bounds (n:Nat) (lo hi:Option SV):Option (Nat× Nat):=
  (match hi with
   |none=>some n
   |some v=>v.asI.bind λx=>cond (decide (0<=x/\x<=(n:Int))) (some x.toNat) none).bind λh=>
  (match lo with
   |none=>some 0
   |some v=>v.asI.bind λx=>cond (decide (0<=x/\x<=(h:Int))) (some x.toNat) none).bind λl=>some (l,h)
def slT (P:Program) (T:TypeId) (t:Ty):Bool:=
 match P.underlying T with
 |some (.slice e)=>match b6 P e with
  |some n=>Nat.beq n t.sz
  |none=>false
 |_=>false
def qa (P:Program) (T:TypeId):Bool:=
 match P.underlying T with
 |some (.slice e)=>(b6 P e).isSome
 |_=>false
def isStr (P:Program) (T:TypeId):Bool:=
 match P.underlying T with
 |some .string=>true
 |_=>false
def zt (n m:Nat):Option SV->Nat
 |none=>n
 |some _=>m
def cq (P:Program) (T:TypeId) (h:ak) (x:SV) (lo hi:Option SV):Option SV:=
 match x with
 |.r d (.str l)=>cond (isStr P T) ((bounds l.length lo hi).bind λb=>some (.r d (.str ((l.take b.2).drop b.1)))) none
 |.r d (.sl t xs)=>cond (slT P T t) ((bounds xs.length lo hi).bind λb=>some (.r d (.sl t ((xs.take b.2).drop b.1)))) none
 |.br=>cond (qa P T) ((bounds 0 lo hi).bind λ_=>some .br) none
 |.own i=>match look h i with
  |some (.arr _ t xs)=>cond (slT P T t) ((bounds xs.length lo hi).bind λb=>some (.sub i b.1 (b.2-b.1))) none
  |_=>none
 |.sub i o n=>match look h i with
  |some (.arr _ t xs)=>cond (slT P T t) ((bounds (zt n (xs.length-o) hi) lo hi).bind λb=>some (.sub i (o+b.1) (b.2-b.1))) none
  |_=>none
 |_=>none
def slN (P:Program) (T:TypeId) (h:ak) (x:SV):Option Nat:=
 match x with
 |.r _ (.sl t xs)=>cond (slT P T t) (some xs.length) none
 |.own i=>match look h i with
  |some (.arr _ t xs)=>cond (slT P T t) (some xs.length) none
  |_=>none
 |_=>none
def jl (P:Program) (T:TypeId) (h:ak) (x:SV) (lo:Option SV) (hi m:SV):Option SV:=
 (slN P T h x).bind λn=>m.asI.bind λz=>cond (decide (0<=z/\z<=(n:Int))) ((bounds z.toNat lo (some hi)).bind λ_=>some .undef) none
def az (P:Program) (T:TypeId) (h:ak) (x:SV) (k:Int):Option SV:=
 match x with
 |.r d (.sl t xs)=>cond (slT P T t) ((idx xs k).bind λe=>some (.cY d (t.cells e))) none
 |.own i=>match look h i with
  |some (.arr _ t xs)=>cond (slT P T t) (cond (decide (0<=k/\k<(xs.length:Int))) (some (.ptr i k.toNat 0)) none) none
  |_=>none
 |.sub i o n=>match look h i with
  |some (.arr _ t _)=>cond (slT P T t) (cond (decide (0<=k/\k<(n:Int))) (some (.ptr i (o+k.toNat) 0)) none) none
  |_=>none
 |.bsl i n=>(dc P T).bind λe=>(b6 P e).bind λsz=>cond (decide (0<=k/\k<(n:Int))) (some (.ptr i 0 (k.toNat*sz))) none
 |_=>none
def sC (P:Program) (src dst:TypeId) (x:SV):Option SV:=
 match P.underlying src,P.underlying dst,x with
 |some (.int _),some (.int k),.r _ (.int _ n)=>some (.r [] (.int k (k.wrap n)))
 |some .string,some .string,.r _ (.str l)=>some (.r [] (.str l))
 |_,_,_=>none
def iU (P:Program) (T:TypeId):Bool:=
 match dc P T with
 |some e=>match P.underlying e with
  |some (.int .u8)=>true
  |_=>false
 |none=>false
def bytesOf (l:List Int):List UInt8:=l.map λn=>UInt8.ofNat n.toNat
def uq (aE:List (Nat× SV)):Option Operand->Option (Option SV)
 |none=>some none
 |some x=>(opd aE x).bind λv=>some (some v)
def eO (aE:List (Nat× SV)):List (Nat× Operand)->Option (List (Nat× SV))
 |[]=>some []
 |(k,x)::l=>(opd aE x).bind λv=>(eO aE l).bind λvs=>some ((k,v)::vs)
def bM (P:Program) (s:List (Nat× SV)) (h:ak) (op:Op):Option SV:=
 match op with
 |.move x|.assign x=>opd s x
 |.pick c a b=>(opd s c).bind λc=>c.asB.bind λc=>cond c (opd s a) (opd s b)
 |.build T parts=>
  match P.underlying T with
  |some (.struct fs)=>(gF P fs.toList).bind λpl=>(bz P T).bind λz=>(eO s parts.toList).bind λps=>
   (eG (λk=>pl[k]?) z ps).bind λcs=>some (.agg cs)
  |_=>none
 |.load T a=>(opd s a).bind λa=>(dd h a).bind λcs=>b7 P T cs
 |.nilCheck x=>(opd s x).bind λv=>match v with
  |.ptr i x o=>some (.ptr i x o)
  |.cY d cs=>some (.cY d cs)
  |_=>none
 |.binOp op T x y _=>(opd s x).bind λx=>(opd s y).bind λy=>bin P T op x y
 |.unOp op _ x=>(opd s x).bind λx=>un op x
 |.convert src dst x=>(opd s x).bind λx=>cond (iU P src&&isStr P dst) ((x.list h (.int .u8)).bind λp=>some (.r [] (.str (bytesOf p.2)))) (sC P src dst x)
 |.makeFunc fn first cap=>(fX s first.toList).bind λa=>(fX s cap.toList).bind λb=>some (.fn fn a b)
 |.slice T x lo hi none=>(opd s x).bind λx=>(uq s lo).bind λlo=>(uq s hi).bind λhi=>cq P T h x lo hi
 |.slice T x lo (some hi) (some m)=>(opd s x).bind λx=>(uq s lo).bind λlo=>(opd s hi).bind λhi=>(opd s m).bind λm=>jl P T h x lo hi m
 |.fieldAddr T x f=>(opd s x).bind λx=>(ig P T f).bind λf=>match x with
  |.cY d cs=>some (.cY d (cs.drop f.offset))
  |.ptr i k o=>some (.ptr i k (o+f.offset))
  |_=>none
 |.field T x f=>(opd s x).bind λx=>(ig P T f).bind λf=>match x with
  |.agg cs=>b7 P f.type (cs.drop f.offset)
  |_=>none
 |.indexAddr T x k=>(opd s x).bind λx=>(opd s k).bind λk=>k.asI.bind λk=>az P T h x k
 |.index T x k=>(opd s x).bind λx=>(opd s k).bind λk=>k.asI.bind λk=>match x with
  |.r _ (.str l)=>cond (isStr P T) ((idx l k).bind λc=>some (.r [] (.int .u8 c.toNat))) none
  |_=>none
 |.extract x k=>(opd s x).bind λx=>match x with
  |.tup vs=>vs[k]?
  |_=>none
 |.call {callee:=.builtin .len,args,argTypes}=>(fX s args.toList).bind λvs=>match vs,argTypes.toList with
  |[v],T::_=>cond (za P T v) ((lenOf h v).bind λn=>some (.i n)) none
  |_,_=>none
 |.call {callee:=.builtin .cap,args,argTypes}=>(fX s args.toList).bind λvs=>match vs,argTypes.toList with
  |[.br],T::_=>cond (qa P T) (some (.i 0)) none
  |_,_=>none
 |.call {callee:=.builtin .min,args,.. }=>(fX s args.toList).bind λvs=>match vs with
  |[.r _ (.int k a),.r _ (.int _ b)]=>some (.r [] (.int k (if b<a then b else a)))
  |[.r _ (.int k a),.r _ (.int _ b),.r _ (.int _ c)]=>some (.r [] (.int k (if c<(if b<a then b else a)then c else(if b<a then b else a))))
  |_=>none
 |.call {callee:=.builtin .max,args,.. }=>(fX s args.toList).bind λvs=>match vs with
  |[.r _ (.int k a),.r _ (.int _ b)]=>some (.r [] (.int k (if b>a then b else a)))
  |_=>none
 |_=>none
def lS {α:Type} (h:ak) (v:SV) (K:List SV->Option α):Option α:=
 match v with
 |.cY d cs=>K (cs.map (mkR d))
 |.ptr i x o=>match look h i with
  |some (.box cs)=>K (cs.drop o)
  |some (.arr sh t xs)=>(xs[x]?).bind λe=>K (((t.cells e).map (mkR (sA i sh))).drop o)
  |_=>none
 |_=>none
def wo {α:Type} (op:BinOp) (k:IntKind) (a b:Int) (K:R->Option α):Option α:=
 match op with
 |.quo=>cond (decide (b=0)) none (K (.int k (k.wrap (a.tdiv b))))
 |.rem=>cond (decide (b=0)) none (K (.int k (a.tmod b)))
 |op=>(xt op k a b).bind K
def oA {α:Type} (op:BinOp) (k:IntKind) (a b:Int) (K:R->Option α):Option α:=
  cond (decide (b<0)) none
    (match op with
     |.shl=>K (.int k (k.wrap (a*2^(min b.toNat k.bits))))
     |.shr=>K (.int k (a.fdiv (2^(min b.toNat k.bits))))
     |_=>none)
def wq {α:Type} (op:BinOp) (a b:List UInt8) (K:R->Option α):Option α:=
 match op with
 |.add=>cond (decide (a.length+b.length<=bO)) (K (.str (a++b))) none
 |op=>(xE op a b).bind K
def zv {α:Type} (P:Program) (T:TypeId) (op:BinOp) (x y:SV) (K:SV->Option α):Option α:=
 match x,y with
 |.r _ (.int k a),.r _ (.int l b)=>cond (sB op) (oA op k a b λr=>K (.r [] r)) (cond (decide (k=l)) (wo op k a b λr=>K (.r [] r)) none)
 |.r _ (.str a),.r _ (.str b)=>wq op a b λr=>K (.r [] r)
 |x,y=>(bin P T op x y).bind K
def eP {α:Type} (n:Nat) (lo hi:Option SV) (K:Nat->Nat->Option α):Option α:=
 let lower (h:Nat):Option α:=match lo with
  |none=>K 0 h
  |some v=>v.asI.bind λx=>cond (decide (0<=x/\x<=(h:Int))) (K x.toNat h) none
 match hi with
 |none=>lower n
 |some v=>v.asI.bind λx=>cond (decide (0<=x/\x<=(n:Int))) (lower x.toNat) none
def sD {α:Type} (P:Program) (T:TypeId) (h:ak) (x:SV) (lo hi:Option SV) (K:SV->Option α):Option α:=
 match x with
 |.r d (.str l)=>cond (isStr P T) (eP l.length lo hi λa b=>K (.r d (.str ((l.take b).drop a)))) none
 |.r d (.sl t xs)=>cond (slT P T t) (eP xs.length lo hi λa b=>K (.r d (.sl t ((xs.take b).drop a)))) none
 |.br=>cond (qa P T) (eP 0 lo hi λ_ _=>K .br) none
 |.own i=>match look h i with
  |some (.arr _ t xs)=>cond (slT P T t) (eP xs.length lo hi λa b=>K (.sub i a (b-a))) none
  |_=>none
 |.sub i o n=>match look h i with
  |some (.arr _ t xs)=>cond (slT P T t) (eP (zt n (xs.length-o) hi) lo hi λa b=>K (.sub i (o+a) (b-a))) none
  |_=>none
 |_=>none
def ij {α:Type} (P:Program) (T:TypeId) (h:ak) (x:SV) (k:Int) (K:SV->Option α):Option α:=
 match x with
 |.r d (.sl t xs)=>cond (slT P T t) ((idx xs k).bind λe=>K (.cY d (t.cells e))) none
 |.own i=>match look h i with
  |some (.arr _ t xs)=>cond (slT P T t) (cond (decide (0<=k/\k<(xs.length:Int))) (K (.ptr i k.toNat 0)) none) none
  |_=>none
 |.sub i o n=>match look h i with
  |some (.arr _ t _)=>cond (slT P T t) (cond (decide (0<=k/\k<(n:Int))) (K (.ptr i (o+k.toNat) 0)) none) none
  |_=>none
 |x=>(az P T h x k).bind K
def m4 {α:Type} (P:Program) (T:TypeId) (h:ak) (x:SV) (lo:Option SV) (hi m:SV) (K:SV->Option α):Option α:=
 (slN P T h x).bind λn=>m.asI.bind λz=>cond (decide (0<=z/\z<=(n:Int))) (eP z.toNat lo (some hi) λ_ _=>K .undef) none
def ea {α:Type} (P:Program) (s:List (Nat× SV)) (h:ak) (op:Op) (K:SV->Option α):Option α:=
 match op with
 |.load T a=>(opd s a).bind λa=>lS h a λcs=>(b7 P T cs).bind K
 |.binOp op T x y _=>(opd s x).bind λx=>(opd s y).bind λy=>zv P T op x y K
 |.slice T x lo hi none=>(opd s x).bind λx=>(uq s lo).bind λlo=>(uq s hi).bind λhi=>sD P T h x lo hi K
 |.slice T x lo (some hi) (some m)=>(opd s x).bind λx=>(uq s lo).bind λlo=>(opd s hi).bind λhi=>(opd s m).bind λm=>m4 P T h x lo hi m K
 |.indexAddr T x k=>(opd s x).bind λx=>(opd s k).bind λk=>k.asI.bind λk=>ij P T h x k K
 |.index T x k=>(opd s x).bind λx=>(opd s k).bind λk=>k.asI.bind λk=>match x with
  |.r _ (.str l)=>cond (isStr P T) ((idx l k).bind λc=>K (.r [] (.int .u8 c.toNat))) none
  |_=>none
 |op=>(bM P s h op).bind K
theorem bn {α β:Type} (b:Bool) (x y:Option α) (K:α->Option β):(cond b x y).bind K=cond b (x.bind K) (y.bind K):=by cases b<;>rfl
theorem oB {α:Type} (h:ak) (v:SV) (K:List SV->Option α):lS h v K=(dd h v).bind K:=by
 unfold lS dd;grind
theorem uB {α:Type} (op:BinOp) (k:IntKind) (a b:Int) (K:R->Option α):wo op k a b K=(xt op k a b).bind K:=by
 unfold wo;split
 ·show _=(cond _ none (some _)).bind K;rw[bn];rfl
 ·show _=(cond _ none (some _)).bind K;rw[bn];rfl
 ·rfl
theorem qW {α:Type} (op:BinOp) (k:IntKind) (a b:Int) (K:R->Option α):oA op k a b K=(m3 op k a b).bind K:=by
 unfold oA m3;grind
theorem uC {α:Type} (op:BinOp) (a b:List UInt8) (K:R->Option α):wq op a b K=(xE op a b).bind K:=by
 unfold wq;split
 ·show _=(cond _ (some _) none).bind K;rw[bn];rfl
 ·rfl
theorem wu {α:Type} (P:Program) (T:TypeId) (op:BinOp) (x y:SV) (K:SV->Option α):zv P T op x y K=(bin P T op x y).bind K:=by
 unfold zv;split
 ·simp only[bin,bn,qW,uB,Ba,A5,Br]
 ·simp only[bin,uC,Ba,A5]
 ·rfl
theorem cZ {α:Type} (n:Nat) (lo hi:Option SV) (K:Nat->Nat->Option α):eP n lo hi K=(bounds n lo hi).bind λb=>K b.1 b.2:=by
 unfold eP bounds;cases hi<;>cases lo<;>simp only[Ba,A5,bn,Br]
theorem sE {α:Type} (P:Program) (T:TypeId) (h:ak) (x:SV) (lo hi:Option SV) (K:SV->Option α):sD P T h x lo hi K=(cq P T h x lo hi).bind K:=by
 unfold sD cq;split
 ·simp only[bn,cZ,Ba,A5,Br]
 ·simp only[bn,cZ,Ba,A5,Br]
 ·simp only[bn,cZ,Ba,A5,Br]
 ·split
  ·simp only[bn,cZ,Ba,A5,Br]
  ·rfl
 ·split
  ·simp only[bn,cZ,Ba,A5,Br]
  ·rfl
 ·rfl
theorem lT {α:Type} (P:Program) (T:TypeId) (h:ak) (x:SV) (k:Int) (K:SV->Option α):ij P T h x k K=(az P T h x k).bind K:=by
 unfold ij;split
 ·simp only[az,bn,Ba,A5,Br]
 ·simp only[az];grind
 ·simp only[az];grind
 ·rfl
theorem eb {α:Type} (P:Program) (s:List (Nat× SV)) (h:ak) (op:Op) (K:SV->Option α):ea P s h op K=(bM P s h op).bind K:=by
 unfold ea;split
 ·simp only[bM,oB,Ba]
 ·simp only[bM,wu,Ba]
 ·simp only[bM,sE,Ba]
 ·simp only[bM,m4,jl,cZ,Ba,bn,A5,Br]
 ·simp only[bM,lT,Ba]
 ·simp only[bM,Ba];grind
 ·rfl
structure CR where
 v:SV
 news:List Blk:=[]
 upd:ak:=[]
 gone:List Nat:=[]
 du:List Nat:=[]
def CR.kil (c:CR):Kil:=(c.gone,c.gone++c.du)
abbrev Out:=SV× List Blk
abbrev Orc:=(ρ:Type)->Nat->List SV->ak->(CR->Option ρ)->Option ρ
def xG:Orc:=λ_ _ _ _ _=>none
def au:Nat->List Blk->ak
 |_,[]=>[]
 |n,b::l=>(n,b)::au (n+1) l
inductive Co where
 |sF (sh:Bool) (t:Ty)
 |ro (t:Ty)
 |drop
 |dep (j:Nat)
 |wv (t j:Nat)
inductive bP where
 |slot (t:Nat)
 |cell (t j:Nat)
 |box (i j:Nat)
 |zZ (t j:Nat)
 |gh (k:Nat)
def coV (n:Nat) (h:ak):Co->SV->SV× List Blk
 |.sF sh t,.br=>(.own n,[.arr (cond sh (some []) none) t []])
 |.ro t,v=>match v.list h t with
  |some p=>(.r p.1 (.sl t p.2),[])
  |none=>(v,[])
 |.drop,_=>(.undef,[])
 |.dep j,.r d x=>(.r (cond (mem j d) d (d++[j])) x,[])
 |_,v=>(v,[])
def uD (st:St) (i j:Nat) (c:Co):St:=
 match look st.heap i with
 |some (.box cs)=>match cs[j]? with
  |some v=>{st with heap:=put (st.heap++au st.nid (coV st.nid st.heap c v).2) i (.box (cs.set j (coV st.nid st.heap c v).1)),nid:=st.nid+(coV st.nid st.heap c v).2.length}
  |none=>st
 |_=>st
def m5 (st:St):bP× Co->St
  | (.slot t, c) => match look st.aE t with
    |some v=>{st with aE:=put st.aE t (coV st.nid st.heap c v).1,heap:=st.heap++au st.nid (coV st.nid st.heap c v).2,nid:=st.nid+(coV st.nid st.heap c v).2.length}
    |none=>st
  | (.cell t j, c) => match look st.aE t with
    | some (.agg cs) => match cs[j]? with
      |some v=>{st with aE:=put st.aE t (.agg (cs.set j (coV st.nid st.heap c v).1)),heap:=st.heap++au st.nid (coV st.nid st.heap c v).2,nid:=st.nid+(coV st.nid st.heap c v).2.length}
      |none=>st
    |_=>st
  |(.box i j,c)=>uD st i j c
  | (.zZ t j, c) => match look st.aE t with
    |some (.ptr i _ _)=>uD st i j c
    |_=>st
  |(.gh k,_)=>{st with gh:=st.gh.set k none}
def zw (st:St):Co->Co
 |.wv t j=>match look st.aE t with
  |some (.ptr i _ _)=>match look st.heap i with
   |some (.box cs)=>match cs[j]? with
    |some (.own k)=>.dep k
    |_=>.dep 0
   |_=>.dep 0
  |_=>.dep 0
 |c=>c
def xH (st:St) (x:bP× Co):St:=m5 st (x.1,zw st x.2)
def sG:List (bP× Co)->St->St
 |[],st=>st
 |x::l,st=>sG l (xH st x)
structure Env where
 P:Program
 tt:TT
 orc:FuncId->Orc
 wr:FuncId->Bool:=λ_=>false
 wt:Bool:=false
 inn:Bool:=false
 fz:Nat->List (Bool× Nat× List Nat):=λ_=>[]
 wk:Nat->List (bP× Co):=λ_=>[]
 lit:Bool:=false
 tak:Bool:=false
 tkt:List Nat:=[]
 swp:Bool:=false
def fP:ak->ak->ak
 |[],h=>h
 |(k,b)::l,h=>fP l (put h k b)
def xI (s:List (Nat× SV)) (n:Nat) (dst:Option Tmp) (v:SV):Option (List (Nat× SV)):=
 match dst with
 |some t=>cond (Nat.ble (t+1) n) (some (put s t v)) none
 |none=>some s
def St.take (st:St) (dst:Option Tmp) (c:CR):Option St:=
  (b5 c.kil (fP c.upd st.heap)).bind λh=>(xI (dZ c.kil st.aE) st.n dst c.v).bind λs=>
    some {st with aE:=s,heap:=h++au st.nid c.news,nid:=st.nid+c.news.length}
def setCells (cs:List SV) (o:Nat) (vs:List SV):Option (List SV):=
 cond (Nat.ble (o+vs.length) cs.length) (some (cs.take o++vs++cs.drop (o+vs.length))) none
def eQ:Ty->Bool
 |.sl _=>false
 |.ho _|.hl _=>false
 |.st .shape|.st .uk|.st .jz|.st .bZ=>true
 |.st _=>false
 |_=>true
def isNil {α:Type}:List α->Bool
 |[]=>true
 |_=>false
def qX (h:ak) (t:Ty):Nat->List SV->Option (List Nat× List t.El)
 |0,_=>some ([],[])
 |n+1,cs=>(yZ h t (cs.take t.sz)).bind λp=>(qX h t n (cs.drop t.sz)).bind λq=>some (p.1++q.1,p.2::q.2)
def SV.sg (h:ak) (t:Ty) (v:SV):Option (List Nat× R):=
 match t with
 |.sl t'=>match v with
  |.br=>some ([],.sl t' [])
  |.own i=>match look h i with
   |some (.arr none t1 xs)=>if e:t1=t' then some ([i],.sl t' (e▸xs))else none
   |_=>none
  |_=>none
 |.st _=>none
 |.tok=>match v with
  |.r _ (.tok n)=>some ([],.tok n)
  |.br=>some ([],.tok 0)
  |_=>none
 |_=>match v with
  |.r _ (.int k n)=>some ([],.int k n)
  |.r _ (.bool b)=>some ([],.bool b)
  |.r _ (.str l)=>some ([],.str l)
  |_=>none
def oC (h:ak):List Ty->List SV->Option (List Nat× List R)
 |[],[]=>some ([],[])
 |t::ts,v::vs=>(v.sg h t).bind λp=>(oC h ts vs).bind λq=>some (p.1++q.1,p.2::q.2)
 |_,_=>none
def b8 (h:ak) (t:Ty):Nat->List SV->Option (List Nat× List t.El)
 |0,_=>some ([],[])
 |n+1,cs=>(oC h t.tys (cs.take t.sz)).bind λp=>(t.bw p.2).bind λx=>(b8 h t n (cs.drop t.sz)).bind λq=>some (p.1++q.1,x::q.2)
def eH:List Nat->Bool
 |[]=>true
 |i::l=>cond (mem i l) false (eH l)
def m6 (h:ak):List SV->Option Bool
 |[]=>some true
 |.own i::l=>(look h i).bind λb=>match b with
  |.arr none _ _=>m6 h l
  |.arr (some _) _ _=>some false
  |.box _=>none
 |.r _ (.sl _ _)::_=>some false
 |.sub _ _ _::_=>some false
 |.bsl _ _::_=>some false
 |_::l=>m6 h l
def qb (h:ak) (t:Ty) (n:Nat) (cs:List SV):Option (Option (List Nat)× List Nat× List t.El):=
 (m6 h cs).bind λb=>cond b ((b8 h t n cs).bind λq=>cond (eH q.1) (some (none,q.1,q.2)) none) ((qX h t n cs).bind λq=>some (some q.1,[],q.2))
def eI (h:ak):SV->List Nat->List Nat
 |.own i,d=>match look h i with
  |some (.arr (some d') _ _)=>d'
  |_=>d
 |_,d=>d
def fY (h:ak) (t:Ty) (v:SV):Option (Option (List Nat)× List Nat× List t.El):=
 match v with
 |.bsl i n=>match look h i with
  |some (.box cs)=>(qb h t n cs).bind λq=>some (q.1,i::q.2.1,q.2.2)
  |_=>none
 |_=>(v.list h t).bind λp=>cond (eQ t) (some (none,[],p.2)) (some (some (eI h v p.1),[],p.2))
def qc (a b:Option (List Nat)):Option (Option (List Nat)):=
 match a,b with
 |none,none=>some none
 |some d,some d'=>some (some (d++d'))
 |some d,none=>some (some d)
 |none,some d=>some (some d)
def eR (P:Program) (T:TypeId):Bool:=
 match P.info? T with
 |some i=>Nat.ble i.bytes 512
 |none=>false
def xJ (E:Env) (s:List (Nat× SV)) (h:ak) (T:TypeId) (a:Operand):Option SV:=
 cond E.inn (cond (qa E.P T) (match opd s a with
  |some (.ptr i x o)=>match look h i with
   |some (.arr none t _)=>cond (Nat.ble (o+1) t.sz) (some (.inn i x o)) none
   |_=>none
  |_=>none) none) none
def xK {α:Type} (xs:List α) (x:Nat):List (Option α):=(xs.map some).set x none
def m7 {α:Type}:List (Option α)->Option (List α)
 |[]=>some []
 |none::_=>none
 |some x::l=>(m7 l).bind λl=>some (x::l)
def gG (n:Nat):List R->List SV
 |[]=>[]
 |.sl _ _::l=>.own n::gG (n+1) l
 |r::l=>.r [] r::gG n l
def dv:List R->List Blk
 |[]=>[]
 |.sl t ys::l=>.arr none t ys::dv l
 |_::l=>dv l
def xL (P:Program) (s:List (Nat× SV)) (h:ak) (src dst:TypeId) (x:Operand):Option Nat:=
 cond (Nat.beq src dst&&iU P src) (match opd s x with
  |some (.own i)=>match look h i with
   |some (.arr _ _ (_::_))=>some i
   |_=>none
  |_=>none) none
def oD (h:ak):SV->Option (Nat× Nat× Nat)
 |.sub i o n=>some (i,o,n)
 |.own i=>match look h i with
  |some (.arr _ _ xs)=>some (i,0,xs.length)
  |_=>none
 |_=>none
variable {ρ:Type}
def jm (P:Program) (T:TypeId) (h:ak) (i:Nat) (sh:Option (List Nat)) (t:Ty) (ys:List t.El) (k o:Nat) (x:SV) (K:CR->Option ρ):Option ρ:=
 x.cells.bind λxs=>(b6 P T).bind λsz=>cond (Nat.beq sz xs.length&&Nat.ble (o+sz) t.sz) (
  match sh with
  |none=>(oC h ((t.tys.drop o).take sz) xs).bind λp=>cond (eH (i::p.1)) (
    cond (Nat.beq sz t.sz)
     ((t.bw p.2).bind λy=>K {v:=.undef,upd:=[(i,.arr none t (ys.set k y))],gone:=p.1,du:=[i]})
     ((ys[k]?).bind λe=>(t.bw ((t.cells e).take o++p.2++(t.cells e).drop (o+sz))).bind λy=>K {v:=.undef,upd:=[(i,.arr none t (ys.set k y))],gone:=p.1,du:=[i]})) none
  |some d=>(sf h ((t.tys.drop o).take sz) xs).bind λp=>cond (mem i p.1) none (
    cond (Nat.beq sz t.sz)
     ((t.bw p.2).bind λy=>K {v:=.undef,upd:=[(i,.arr (some (d++p.1)) t (ys.set k y))],du:=[i]})
     ((ys[k]?).bind λe=>(t.bw ((t.cells e).take o++p.2++(t.cells e).drop (o+sz))).bind λy=>K {v:=.undef,upd:=[(i,.arr (some (d++p.1)) t (ys.set k y))],du:=[i]}))) none
def xM (P:Program) (T:TypeId):Bool:=
 match P.underlying T with
 |some (.int _)=>true
 |_=>false
def z6 (E:Env) (h:ak) (nid n sz:Nat) (t:Ty) (cs:List SV) (K:CR->Option ρ):Option ρ:=
 cond (E.lit&&Nat.beq t.sz sz) (match b8 h t n cs with
  |some ([],xs)=>K {v:=.own nid,news:=[.arr none t xs]}
  |_=>K {v:=.bsl nid n,news:=[.box cs]}) (K {v:=.bsl nid n,news:=[.box cs]})
def z7 (E:Env) (nid:Nat) (t:Ty) (xs:List t.El) (K:CR->Option ρ):Option ρ:=
 cond (!isNil E.tkt&&!isNil xs) (K {v:=.r [] (.sl t xs)}) (K {v:=.own nid,news:=[.arr none t xs]})
def oE (E:Env) (h:ak) (nid:Nat) (e:TypeId) (sz:Nat) (t:Ty) (T':TypeId) (b x:SV) (K:CR->Option ρ):Option ρ:=
 match b with
 |.br=>cond (xM E.P T'&&(eR E.P e&&Nat.beq t.sz sz)) (x.asI.bind λl=>(bz E.P e).bind λz=>(b8 h t 1 z).bind λq=>cond (isNil q.1&&Nat.beq z.length sz) (match q.2 with
   |[y]=>cond (decide (1<=l/\l<=(bO:Int))) (K {v:=.own nid,news:=[.arr none t (List.replicate l.toNat y)]}) none
   |_=>none) none) none
 |_=>none
def oF (h:ak) (t:Ty) (b x:SV) (K:CR->Option ρ):Option ρ:=
 match b,x with
 |.sub i 0 a,.sub i' o n=>cond (Nat.beq i i') (match look h i with
  |some (.arr (some d) t' xs)=>if he:t'=t then cond (mem i d) none (cond (Nat.ble (a+n) xs.length&&(Nat.ble (o+n) xs.length&&Nat.ble 1 xs.length))
    (K {v:=.sub i 0 (a+n),upd:=[(i,.arr (some d) t ((he▸xs).take a++((he▸xs).drop o).take n++(he▸xs).drop (a+n)))],du:=[i]}) none)else none
  |_=>none) none
 |_,_=>none
def xN (E:Env) (s:List (Nat× SV)) (h:ak) (nid:Nat) (T:TypeId) (a:Operand) (K:CR->Option ρ) (D:Option ρ):Option ρ:=
 cond E.tak (match opd s a with
  |some (.ptr i x 0)=>match look h i with
   |some (.arr none (.st st) xs)=>cond (eQ (.st st)) D ((xs[x]?).bind λe=>(b7 E.P T (gG nid (st.cells e))).bind λv=>
     K {v:=v,news:=dv (st.cells e),upd:=[(i,.arr none (.ho st) (xK xs x))],du:=[i]})
   |_=>D
  |_=>D) D
def taken (E:Env):Operand->Bool
 |.tmp t=>mem t E.tkt
 |_=>false
def xO (E:Env) (s:List (Nat× SV)) (h:ak) (nid:Nat) (T:TypeId) (a:Operand) (K:CR->Option ρ) (D:Option ρ):Option ρ:=
  cond (taken E a) (match opd s a with
    | some (.ptr i x 0) => match look h i with
      |some (.arr none (.sl t) xs)=>(xs[x]?).bind λe=>(b7 E.P T (gG nid ((Ty.sl t).cells e))).bind λv=>
          K {v:=v,news:=dv ((Ty.sl t).cells e),upd:=[(i,.arr none (.hl t) (xK xs x))],du:=[i]}
      |_=>none
    |_=>none) D
def lU (E:Env) (s:List (Nat× SV)) (h:ak) (nid:Nat) (op:Op) (K:CR->Option ρ):Option ρ:=
  match op with
  |.alloc T=>(bz E.P T).bind λz=>K {v:=.ptr nid 0 0,news:=[.box z]}
  |.box _ x=>(opd s x).bind λv=>v.cells.bind λcs=>K {v:=.ptr nid 0 0,news:=[.box cs]}
  | .buildSlice T n parts =>
    (dc E.P T).bind λe=>(b6 E.P e).bind λsz=>(eO s parts.toList).bind λps=>(bz E.P e).bind λz=>
      cond (Nat.ble (n*sz) 16777216&&Nat.beq z.length sz) ((eG (λi=>some (i*sz,sz)) (List.replicate (n*sz) .undef) ps).bind λcs=>
        match E.tt e with
        |none=>K {v:=.bsl nid n,news:=[.box cs]}
        |some t=>cond ((eQ t||Nat.beq n 0)&&Nat.beq t.sz sz) ((b8 h t n cs).bind λx=>cond (isNil x.1) (z7 E nid t x.2 K) none) (z6 E h nid n sz t cs K)) none
  | .makeSlice T l c =>
    (dc E.P T).bind λe=>(b6 E.P e).bind λsz=>(E.tt e).bind λt=>(bz E.P e).bind λz=>(opd s l).bind λl=>(opd s c).bind λc=>l.asI.bind λl=>c.asI.bind λc=>
      cond (eR E.P e&&Nat.beq t.sz sz) ((b8 h t 1 z).bind λx=>cond (isNil x.1&&Nat.beq z.length sz) (match x.2 with
        |[y]=>cond (decide (0<=l/\l<=c/\c<=(bO:Int))) (K {v:=.own nid,news:=[.arr none t (List.replicate l.toNat y)]}) none
        |_=>none) none) none
  | .call { callee := .builtin .append, args, argTypes } => (fX s args.toList).bind λ vs => match vs, argTypes.toList with
    | [b, x], [T, T'] => (dc E.P T).bind λ e => (b6 E.P e).bind λ sz => (E.tt e).bind λ t => cond (eR E.P e && (Nat.beq t.sz sz && Nat.beq T T')) ((bz E.P e).bind λ z => cond (Nat.beq z.length sz)
      ((fY h t x).bind λy=>match b with
        |.br=>cond (hit y.2.1 (y.1.getD [])) none (cond (Nat.ble y.2.2.length bO) (K {v:=.own nid,news:=[.arr y.1 t y.2.2],gone:=y.2.1}) none)
        | .own i => match look h i with
          | some (.arr sh t' xs) => if he : t' = t then
              (qc sh y.1).bind λsh'=>cond (mem i y.2.1) none (cond (hit (i::y.2.1) (sh'.getD [])) none (cond (Nat.ble (xs.length+y.2.2.length) bO) (K {v:=.own nid,news:=[.arr sh' t ((he▸xs)++y.2.2)],gone:=i::y.2.1}) none))
            else none
          |_=>none
        |b=>oF h t b x K) none) (oE E h nid e sz t T' b x K)
    |_,_=>none
  | .call { callee := .builtin .clear, args, argTypes } => (fX s args.toList).bind λ vs => match vs, argTypes.toList with
    | [v], [T] => (dc E.P T).bind λ e => (bz E.P e).bind λ z => (oD h v).bind λ p => match look h p.1 with
      | some (.arr sh t xs) => cond (Nat.beq z.length t.sz) ((b8 h t 1 z).bind λ x => cond (isNil x.1) (match x.2 with
        |[y]=>K {v:=.undef,upd:=[(p.1,.arr sh t (xs.take p.2.1++List.replicate p.2.2 y++xs.drop (p.2.1+p.2.2)))],du:=[p.1]}
        |_=>none) none) none
      |_=>none
    |_,_=>none
  | .store T a x => (opd s a).bind λ a => (opd s x).bind λ x => match a with
    | .ptr i k o => match look h i with
      |some (.box cs)=>cond (Nat.beq k 0) (x.cells.bind λxs=>(b6 E.P T).bind λsz=>cond (Nat.beq sz xs.length) ((setCells cs o xs).bind λcs=>K {v:=.undef,upd:=[(i,.box cs)]}) none) none
      |some (.arr sh t ys)=>jm E.P T h i sh t ys k o x K
      |_=>none
    |_=>none
  | .call { callee := .value f, args, .. } => (opd s f).bind λ f => (fX s args.toList).bind λ vs => match f with
    |.fn (.func g) first cap=>E.orc g ρ nid (first++vs++cap) h K
    |_=>none
  | .load T a => xO E s h nid T a K (match xJ E s h T a with
    |some v=>K {v:=v}
    |none=>xN E s h nid T a K (ea E.P s h (.load T a) λv=>K {v:=v}))
  | .convert src dst x => match xL E.P s h src dst x with
    |some i=>K {v:=.own i}
    |none=>ea E.P s h (.convert src dst x) λv=>K {v:=v}
  |op=>ea E.P s h op λv=>K {v:=v}
noncomputable def both (x y:Option ρ):Option ρ:=open Classical in if x=y then x else none
def qd:Op->Option (TypeId× Operand× Bool)
 |.binOp .eql T x (.const (.slice none 0 0)) _=>some (T,x,true)
 |.binOp .neq T x (.const (.slice none 0 0)) _=>some (T,x,false)
 |_=>none
noncomputable def zx (h:ak) (v:SV) (K:Bool->Option ρ):Option ρ:=
 match v with
 |.br=>K true
 |.r _ (.sl _ xs)=>cond (isNil xs) (both (K true) (K false)) (K false)
 |.own i=>match look h i with
  |some (.arr _ _ xs)=>cond (isNil xs) (both (K true) (K false)) (K false)
  |_=>none
 |_=>none
noncomputable def xu (E:Env) (o:Oper) (st:St) (K:St->Option ρ):Option ρ:=
 match qd o.op with
 |some (T,x,e)=>cond (qa E.P T) ((opd st.aE x).bind λv=>zx st.heap v λb=>(st.take o.dst {v:=.b (cond b e (!e))}).bind K) none
 |none=>lU E st.aE st.heap st.nid o.op λc=>(st.take o.dst c).bind K
def wx (ops:List Oper) (j:Nat):Option Tmp:=(ops[j]?).bind (·.dst)
def m8 (o:Oper) (st:St) (K:St->Option ρ):Option ρ:=
 (xI st.aE st.n o.dst (.tup [])).bind λs=>K {st with aE:=s}
noncomputable def lV (E:Env) (all:List Oper):List Oper->St->(St->Option ρ)->Option ρ
  |[],st,K=>K st
  | o :: rest, st, K =>
    match o.guard with
    |none=>xu E o st λst=>lV E all rest st K
    | some (j, want) => (wx all j).bind λ t => (look st.aE t).bind λ v => match v with
      |.tup []=>m8 o st λst=>lV E all rest st K
      | v => v.asB.bind λ b =>
        cond b
          (cond want (xu E o {st with aE:=put st.aE t (.b true)} λst=>lV E all rest st K)
            (m8 o {st with aE:=put st.aE t (.b true)} λst=>lV E all rest st K))
          (cond want (m8 o {st with aE:=put st.aE t (.b false)} λst=>lV E all rest st K)
            (xu E o {st with aE:=put st.aE t (.b false)} λst=>lV E all rest st K))
def after (H:ak) (nid:Nat) (c:CR):Option ak:=
 (b5 c.kil (fP c.upd H)).bind λh=>some (h++au nid c.news)
structure DR where
 dst:Option Tmp
 n0:Nat
 c:CR
 see:List Nat
 uE:List SV:=[]
 len:Bool:=false
abbrev SH:=List (Nat× SV)× ak
def qe (s:List (Nat× SV)) (dst:Option Tmp) (v:SV):List (Nat× SV):=
 match dst with
 |some t=>put s t v
 |none=>s
def qY:ak->Nat->Blk->ak
 |[],_,_=>[]
 |(k,u)::l,n,b=>cond (Nat.beq k n) ((k,b)::l) ((k,u)::qY l n b)
def cr:ak->ak->ak
 |[],h=>h
 |(k,b)::l,h=>cr l (qY h k b)
def DR.app (r:DR) (x:SH):Option SH:=
 (b5 r.c.kil (cr r.c.upd x.2)).bind λh=>some (qe (dZ r.c.kil x.1) r.dst r.c.v,h++au r.n0 r.c.news)
def replay (p:Nat->Bool):Nat->List DR->SH->Option SH
 |_,[],x=>some x
 |j,r::l,x=>cond (p j) ((r.app x).bind λx=>replay p (j+1) l x) (replay p (j+1) l x)
def ik (n:Nat):List Edge->Bool
 |[]=>true
 |e::l=>cond (Region.binds .any e) (cond (Nat.ble (e.on+1) n) (ik n l) false) (ik n l)
def m9 (ai:List Nat):List Edge->Nat
 |[]=>0
 |e::l=>cond (Region.binds .any e) ((ai.getD e.on 0||| 2^e.on)||| m9 ai l) (m9 ai l)
def jE:List Nat->List Oper->Option (List Nat)
 |acc,[]=>some acc
 |acc,o::l=>cond (ik acc.length o.after.toList) (jE (acc++[m9 acc o.after.toList]) l) none
def cn:List Oper->List Nat
 |[]=>[]
 |o::l=>match o.dst with
  |some t=>t::cn l
  |none=>cn l
def uF (ai:List Nat) (i:Nat):Nat->List Oper->List Nat
 |_,[]=>[]
 |j,o::l=>cond ((ai.getD j 0).testBit i) (uF ai i (j+1) l) (match o.dst with
  |some t=>t::uF ai i (j+1) l
  |none=>uF ai i (j+1) l)
def qZ (n:Nat):List Nat->Bool
 |[]=>true
 |i::l=>cond (Nat.ble (i+1) n) (qZ n l) false
def bg:List Operand->List Nat
 |[]=>[]
 |.tmp t::l=>t::bg l
 |_::l=>bg l
def dO (T:List Nat) (s:List (Nat× SV)):List Nat->List (Nat× SV)
 |[]=>[]
 |t::l=>cond (mem t T) (dO T s l) (match look s t with
  |some v=>(t,v)::dO T s l
  |none=>dO T s l)
def dw (E:Env):Op->Bool
 |.store _ _ _=>true
 |.load _ _=>E.tak
 |.call {callee:=.builtin .len,.. }|.call {callee:=.builtin .cap,.. }|.call {callee:=.builtin .min,.. }|.call {callee:=.builtin .max,.. }=>false
 |.call {callee:=.builtin _,.. }=>true
 |.call {callee:=.value (.func g),.. }=>E.wr g
 |.call {callee:=.value _,.. }=>E.wt
 |.call _=>false
 |_=>false
def xP (ai:List Nat) (i j:Nat):Bool:=Nat.beq i j||((ai.getD i 0).testBit j||(ai.getD j 0).testBit i)
def iV (E:Env) (ai:List Nat) (i:Nat):Nat->List Oper->Bool
 |_,[]=>false
 |j,o::l=>cond (dw E o.op) (cond (xP ai i j) (iV E ai i (j+1) l) true) (iV E ai i (j+1) l)
def lW (s:List (Nat× SV)):List Nat->List SV
 |[]=>[]
 |t::l=>match look s t with
  |some v=>v::lW s l
  |none=>lW s l
def iW (h:ak):List Nat->ak
 |[]=>[]
 |i::l=>match look h i with
  |some b=>(i,b)::iW h l
  |none=>iW h l
def wy:Op->Bool
 |.move _=>true
 |.assign _=>true
 |.extract _ _=>true
 |.nilCheck _=>true
 |.fieldAddr _ _ _=>true
 |_=>false
def xQ:Op->Bool
 |.load _ _=>true
 |_=>false
def zy (E:Env) (ai:List Nat) (i:Nat) (ops:List Oper) (x:SH) (o:Oper):List Nat:=
 cond (iV E ai i 0 ops&&!wy o.op) (reach x.2 (cond (xQ o.op) 0 3) (gE [] (uo (lW x.1 (bg o.op.operands.toList))))) []
def q0 (E:Env) (ai:List Nat) (i:Nat) (ops:List Oper) (x:SH) (o:Oper):ak:=
 cond (iV E ai i 0 ops) (iW x.2 (zy E ai i ops x o)) x.2
def uG (L:List Nat):ak->Bool
 |[]=>false
 |(k,_)::l=>cond (mem k L) true (uG L l)
def okW (E:Env) (op:Op) (c:CR):Bool:=cond (dw E op) true (isNil c.kil.2&&isNil c.upd)
mutual
def SV.si (T:Kil):SV->Bool
 |.r d _=>!hit T.2 d
 |.own i=>!mem i T.1
 |.sub i _ _=>!mem i T.1
 |.bsl i _=>!mem i T.1
 |.ptr i _ _=>!mem i T.1
 |.inn i _ _=>!(mem i T.1||mem i T.2)
 |.cY d _=>!hit T.2 d
 |.agg cs=>jF T cs
 |.tup cs=>jF T cs
 |.fn _ a b=>jF T a&&jF T b
 |.br=>true
 |.fK=>true
 |.undef=>true
def jF (T:Kil):List SV->Bool
 |[]=>true
 |v::l=>v.si T&&jF T l
end
def Blk.si (T:Kil):Blk->Bool
 |.box cs=>jF T cs
 |.arr (some d) _ _=>!hit T.2 d
 |.arr none _ _=>true
def sH (k:Nat) (B:Blk):List DR->Bool
 |[]=>true
 |r::l=>cond ((look r.c.upd k).isNone&&(!mem k r.c.kil.1&&B.si r.c.kil)) (sH k B l) false
def zb (h:ak) (rs:List DR):List Nat->Bool
 |[]=>true
 |k::l=>match look h k with
  |some B=>cond (sH k B rs) (zb h rs l) false
  |none=>false
def bA (cm:DR->Bool) (r:DR):Bool:=isNil r.c.kil.2&&(isNil r.c.upd&&(isNil r.c.news&&cm r))
def ra (b a:DR):Bool:=a.c.v.si b.c.kil&&jF b.c.kil a.uE
def xR (b:DR):ak->Bool
 |[]=>true
 |(k,_)::l=>cond (Nat.ble (k+1) b.n0||Nat.ble (b.n0+b.c.news.length) k) (xR b l) false
def oG (a b:DR):Bool:=(isNil a.c.kil.2&&isNil b.c.kil.2)&&((isNil b.c.upd&&xR b a.c.upd)||(isNil a.c.upd&&xR a b.c.upd))&&(!(uG b.see a.c.upd)&&!(uG a.see b.c.upd))
def fL (cm:DR->Bool) (a b:DR):Bool:=oG a b||((ra b a&&bA cm a)||(ra a b&&bA cm b))
def jG (cm:DR->Bool) (ai:List Nat) (i:Nat) (r:DR):Nat->List DR->Bool
 |_,[]=>true
 |j,b::l=>cond ((ai.getD j 0).testBit i) (jG cm ai i r (j+1) l) (cond (fL cm r b) (jG cm ai i r (j+1) l) false)
def kZ (cm:DR->Bool) (ai:List Nat):Nat->List DR->Bool
 |_,[]=>true
 |i,r::l=>cond (jG cm ai i r (i+1) l) (kZ cm ai (i+1) l) false
def wz:List DR->Nat->SV->List DR
 |[],_,_=>[]
 |r::l,0,v=>{r with c:={r.c with v:=v}}::l
 |r::l,n+1,v=>r::wz l n v
def xS:Op->Bool
 |.indexAddr _ _ _=>true
 |_=>false
def xT (h:ak):List Nat->Bool
 |[]=>true
 |i::l=>cond (look h i).isSome (xT h l) false
def na (x:SH) (o:Oper):List Nat:=gE [] (uo (lW x.1 (bg o.op.operands.toList)))
def sI (E:Env) (h0:ak) (x:SH) (o:Oper):Bool:=E.swp&&(xS o.op&&xT h0 (na x o))
def sJ (E:Env) (ai:List Nat) (i:Nat) (ops:List Oper) (h0:ak) (x:SH) (o:Oper):ak:=cond (sI E h0 x o) (iW h0 (na x o)) (q0 E ai i ops x o)
def zc (E:Env) (ai:List Nat) (i:Nat) (ops:List Oper) (h0:ak) (x:SH) (o:Oper):List Nat:=cond (sI E h0 x o) (na x o) (zy E ai i ops x o)
def wA (E:Env) (ai:List Nat) (i:Nat) (ops:List Oper) (h0:ak) (x:SH) (o:Oper) (nid:Nat) (c:CR):DR:=⟨o.dst,nid,c,zc E ai i ops h0 x o,lW x.1 (bg o.op.operands.toList),sI E h0 x o⟩
def eJ (E:Env) (ops:List Oper) (ai dsts:List Nat) (s0:List (Nat× SV)) (h0:ak):Nat->List Oper->Nat->List DR->(List DR->Nat->Option ρ)->Option ρ
  |_,[],nid,rs,K=>K rs nid
  | i, o :: rest, nid, rs, K =>
    (replay (Nat.testBit (ai.getD i 0)) 0 rs (dO (uF ai i 0 ops) s0 (bg o.op.operands.toList),h0)).bind λx=>
    match o.guard with
    |none=>lU E (dO [] x.1 (bg o.op.operands.toList)) (sJ E ai i ops h0 x o) nid o.op λc=>cond (okW E o.op c) (eJ E ops ai dsts s0 h0 (i+1) rest (nid+c.news.length) (rs++[wA E ai i ops h0 x o nid c]) K) none
    | some (g, want) => cond (Nat.testBit (ai.getD i 0) g) ((rs[g]?).bind λ r => r.dst.bind λ _ => match r.c.v with
      |.tup []=>eJ E ops ai dsts s0 h0 (i+1) rest nid (rs++[⟨o.dst,nid,{v:=.tup []},[],[],false⟩]) K
      | .r [] (.bool b) => cond b
        (cond want
          (lU E (dO [] x.1 (bg o.op.operands.toList)) (sJ E ai i ops h0 x o) nid o.op λc=>cond (okW E o.op c) (eJ E ops ai dsts s0 h0 (i+1) rest (nid+c.news.length) (wz rs g (.b true)++[wA E ai i ops h0 x o nid c]) K) none)
          (eJ E ops ai dsts s0 h0 (i+1) rest nid (wz rs g (.b true)++[⟨o.dst,nid,{v:=.tup []},[],[],false⟩]) K))
        (cond want
          (eJ E ops ai dsts s0 h0 (i+1) rest nid (wz rs g (.b false)++[⟨o.dst,nid,{v:=.tup []},[],[],false⟩]) K)
          (lU E (dO [] x.1 (bg o.op.operands.toList)) (sJ E ai i ops h0 x o) nid o.op λc=>cond (okW E o.op c) (eJ E ops ai dsts s0 h0 (i+1) rest (nid+c.news.length) (wz rs g (.b false)++[wA E ai i ops h0 x o nid c]) K) none))
      |_=>none) none
def jH:List Nat->List Nat->Bool
 |[],_=>true
 |i::l,T=>cond (mem i T) false (jH l T)
def lX (L:List Nat):List DR->Bool
 |[]=>true
 |r::l=>cond (jH L r.c.kil.1) (lX L l) false
def kG (h:ak) (rs:List DR) (r:DR):Bool:=cond r.len (lX r.see rs) (zb h rs r.see)
def k5 (cm:DR->Bool):List DR->Bool
 |[]=>true
 |r::l=>cond (!r.len||bA cm r) (k5 cm l) false
def lY (E:Env) (ops:List Oper) (st:St) (K:St->Option ρ):Option ρ:=
  cond (E.P.follows .mixedOrders) ((jE [] ops).bind λai=>
    cond (eH (cn ops)) (cond (qZ st.n (cn ops))
      (eJ E ops ai (cn ops) st.aE st.heap 0 ops st.nid [] λrs nid=>cond (kZ (kG st.heap rs) ai 0 rs&&k5 (kG st.heap rs) rs)
        ((replay (λ_=>true) 0 rs (st.aE,st.heap)).bind λx=>K {st with aE:=x.1,heap:=x.2,nid:=nid}) none) none) none) none
inductive Ex where
 |normal
 |exit (id:Nat)
 |ret
def refine(c:Operand) (b:Bool) (st:St):St:=
 match c with
 |.tmp t=>{st with aE:=put st.aE t (.b b)}
 |_=>st
abbrev Ev (ρ:Type):=St->(Ex->St->Option ρ)->Option ρ
def inBlock (id:Nat) (K:Ex->St->Option ρ):Ex->St->Option ρ
 |.exit j,st=>cond (Nat.beq j id) (K .normal st) (K (.exit j) st)
 |e,st=>K e st
def ur (i:Nat):List Nat->List Nat
 |[]=>[]
 |k::l=>cond (Nat.beq k i) (ur i l) (k::ur i l)
def qf (i:Nat) (t:Ty) (h:ak) (v:SV):SV:=
 match v.list h t with
 |some p=>.r (ur i p.1) (.sl t p.2)
 |none=>.undef
mutual
def SV.frz (i:Nat) (t:Ty) (h:ak):SV->SV
 |.r d x=>.r (ur i d) x
 |.own j=>cond (Nat.beq j i) (qf i t h (.own j)) (.own j)
 |.sub j o n=>cond (Nat.beq j i) (qf i t h (.sub j o n)) (.sub j o n)
 |.bsl j n=>cond (Nat.beq j i) .undef (.bsl j n)
 |.ptr j x o=>cond (Nat.beq j i) .undef (.ptr j x o)
 |.inn j x c=>cond (Nat.beq j i) .undef (.inn j x c)
 |.cY d cs=>.cY (ur i d) cs
 |.agg cs=>.agg (mS i t h cs)
 |.tup cs=>.tup (mS i t h cs)
 |.fn f a b=>.fn f (mS i t h a) (mS i t h b)
 |.br=>.br
 |.fK=>.fK
 |.undef=>.undef
def mS (i:Nat) (t:Ty) (h:ak):List SV->List SV
 |[]=>[]
 |v::l=>v.frz i t h::mS i t h l
end
def Blk.frz (i:Nat) (t:Ty) (h:ak):Blk->Blk
 |.box cs=>.box (mS i t h cs)
 |.arr none t' xs=>.arr none t' xs
 |.arr (some d) t' xs=>.arr (some (ur i d)) t' xs
def oH (i:Nat) (t:Ty) (h:ak):ak->ak
 |[]=>[]
 |(k,b)::l=>cond (Nat.beq k i) (oH i t h l) ((k,b.frz i t h)::oH i t h l)
def rb (i:Nat) (t:Ty) (h:ak):List (Nat× SV)->List (Nat× SV)
 |[]=>[]
 |(k,v)::l=>(k,v.frz i t h)::rb i t h l
def zz (i:Nat) (st:St):St:=
 match look st.heap i with
 |some (.arr _ t _)=>{st with aE:=rb i t st.heap st.aE,heap:=oH i t st.heap st.heap}
 |_=>st
def xU (h:ak):SV->List Nat->Option Nat
 |.own i,[]=>some i
 |.sub i _ _,[]=>some i
 |.agg cs,j::p=>match cs[j]? with
  |some v=>xU h v p
  |none=>none
 |.tup cs,j::p=>match cs[j]? with
  |some v=>xU h v p
  |none=>none
 |.ptr i 0 o,j::p=>match look h i with
  |some (.box cs)=>match cs[o+j]? with
   |some v=>xU h v p
   |none=>none
  |_=>none
 |.bsl i _,j::p=>match look h i with
  |some (.box cs)=>match cs[j]? with
   |some v=>xU h v p
   |none=>none
  |_=>none
 |_,_=>none
termination_by structural _ p=>p
def zA (i:Nat) (st:St):St:=
 match look st.heap i with
 |some (.arr none t xs)=>{st with heap:=put st.heap i (.arr (some []) t xs)}
 |_=>st
def vO (st:St) (x:Bool× Nat× List Nat):St:=
 match look st.aE x.2.1 with
 |some v=>match xU st.heap v x.2.2 with
  |some i=>cond x.1 (zA i st) (zz i st)
  |none=>st
 |none=>st
def qg:List (Bool× Nat× List Nat)->St->St
 |[],st=>st
 |x::l,st=>qg l (vO st x)
def Blk.sK (b:Blk) (K:Blk->Option ρ):Option ρ:=
 match b with
 |.arr none (.ho s) zs=>(m7 zs).bind λxs=>K (.arr none (.st s) xs)
 |.arr none (.hl t) zs=>(m7 zs).bind λxs=>K (.arr none (.sl t) xs)
 |b=>K b
def sL:ak->(ak->Option ρ)->Option ρ
 |[],K=>K []
 |(k,b)::l,K=>b.sK λb=>sL l λl=>K ((k,b)::l)
def qh (E:Env) (K:St->Option ρ) (st:St):Option ρ:=cond E.tak (sL st.heap λh=>K {st with heap:=h}) (K st)
noncomputable def ev (E:Env) (LP:Nat->Ev ρ->Ev ρ) (cb:Nat):Code->Ev ρ
 |.skip,st,K=>K .normal st
 |.label _,st,K=>K .normal st
 |.region id ops false,st,K=>lV E ops.toList ops.toList (sG (E.wk id) (qg (E.fz id) st)) (qh E (K .normal))
 |.region id ops true,st,K=>lY E ops.toList (sG (E.wk id) (qg (E.fz id) st)) (qh E (K .normal))
 |.seq a b,st,K=>ev E LP cb a st λe st=>match e with
  |.normal=>ev E LP cb b st K
  |e=>K e st
 |.cond c t f,st,K=>(opd st.aE c).bind λv=>v.asB.bind λb=>cond b (ev E LP cb t (refine c true st) K) (ev E LP cb f (refine c false st) K)
 |.block id c,st,K=>ev E LP id c st (inBlock id K)
 |.loop c,st,K=>LP cb (λst K=>ev E LP cb c st K) st K
 |.exit id,st,K=>K (.exit id) st
 |.scope c,st,K=>ev E LP cb c st K
 |.ret,st,K=>K .ret st
 |_,_,_=>none
end
section
def Ext {α:Type} (s s':List (Nat× α)):Prop:=∀t v,look s t=some v->look s' t=some v
theorem Ext.rfl' {α:Type} {s:List (Nat× α)}:Ext s s:=λ_ _ h=>h
def Le {α:Type} (x y:Option α):Prop:=∀a,x=some a->y=some a
theorem Le.refl {α:Type} (x:Option α):Le x x:=λ_ h=>h
theorem Le.bind {α β:Type} {x y:Option α} {f g:α->Option β} (h:Le x y) (hf:∀a,Le (f a) (g a)):Le (x.bind f) (y.bind g):=by
 intro b hb;rw[An]at hb⊢;obtain⟨a,h1,h2⟩:=hb;exact⟨a,h a h1,hf a b h2⟩
theorem Le.cond {α:Type} {b:Bool} {x y x' y':Option α} (h:Le x x') (h':Le y y'):Le (cond b x y) (cond b x' y'):=by cases b<;>assumption
theorem Le.none {α:Type} {y:Option α}:Le Option.none y:=λ_ h=>nomatch h
section
variable {s s':List (Nat× SV)} {h h':ak} {P:Program}
theorem wB (hh:Ext h h') (i:Nat):Le (look h i) (look h' i):=λ_=>hh i _
theorem aL (hs:Ext s s') (x:Operand):Le (opd s x) (opd s' x):=by
 cases x with
 |tmp t=>exactλv hv=>hs t v hv
 |_=>exact Le.refl _
theorem ct (hs:Ext s s'):(l:List Operand)->Le (fX s l) (fX s' l)
 |[]=>Le.refl _
 |x::l=>(aL hs x).bind λ_=>(ct hs l).bind λ_=>Le.refl _
theorem oI (hs:Ext s s') (x:Option Operand):Le (uq s x) (uq s' x):=by
 cases x with
 |none=>exact Le.refl _
 |some x=>exact(aL hs x).bind λ_=>Le.refl _
theorem dP (hs:Ext s s'):(l:List (Nat× Operand))->Le (eO s l) (eO s' l)
 |[]=>Le.refl _
 |(_,x)::l=>(aL hs x).bind λ_=>(dP hs l).bind λ_=>Le.refl _
theorem re (hh:Ext h h') (v:SV):Le (dd h v) (dd h' v):=by
 cases v<;>try exact Le.refl _
 rename_i i x o;intro cs hcs;simp only[dd]at hcs⊢
 cases hl:look h i with
 |none=>rw[hl]at hcs;exact nomatch hcs
 |some B=>rw[hl]at hcs;rw[hh i B hl];exact hcs
theorem uH (hh:Ext h h') (v:SV):Le (lenOf h v) (lenOf h' v):=by
 intro n hn
 cases v with
 |own i=>
  simp only[lenOf]at hn⊢
  cases hl:look h i with
  |none=>rw[hl]at hn;exact nomatch hn
  |some B=>rw[hl]at hn;rw[hh i B hl];exact hn
 |r d x=>cases x<;>exact hn
 |_=>exact hn
theorem rf (hh:Ext h h') (T:TypeId) (v:SV) (lo hi:Option SV):Le (cq P T h v lo hi) (cq P T h' v lo hi):=by
 intro cs hcs
 cases v with
 |own i=>
  simp only[cq]at hcs⊢
  cases hl:look h i with
  |none=>rw[hl]at hcs;exact nomatch hcs
  |some B=>rw[hl]at hcs;rw[hh i B hl];exact hcs
 |sub i o n=>
  simp only[cq]at hcs⊢
  cases hl:look h i with
  |none=>rw[hl]at hcs;exact nomatch hcs
  |some B=>rw[hl]at hcs;rw[hh i B hl];exact hcs
 |r d x=>cases x<;>exact hcs
 |_=>exact hcs
theorem kI (hh:Ext h h') (T:TypeId) (v:SV) (k:Int):Le (az P T h v k) (az P T h' v k):=by
 intro cs hcs
 cases v with
 |own i=>
  simp only[az]at hcs⊢
  cases hl:look h i with
  |none=>rw[hl]at hcs;exact nomatch hcs
  |some B=>rw[hl]at hcs;rw[hh i B hl];exact hcs
 |sub i o n=>
  simp only[az]at hcs⊢
  cases hl:look h i with
  |none=>rw[hl]at hcs;exact nomatch hcs
  |some B=>rw[hl]at hcs;rw[hh i B hl];exact hcs
 |r d x=>cases x<;>exact hcs
 |_=>exact hcs
theorem oJ (hh:Ext h h') (t:Ty) (v:SV):Le (v.list h t) (v.list h' t):=by
 intro p hp
 cases v<;>try exact hp
 all_goals
  simp only[SV.list]at hp⊢;split at hp
  ·rename_i hl;rw[hh _ _ hl];exact hp
  ·exact nomatch hp
theorem xV (hh:Ext h h') (T:TypeId) (x:SV):Le (slN P T h x) (slN P T h' x):=by
 intro n hn
 cases x with
 |own i=>
  simp only[slN]at hn⊢
  cases hl:look h i with
  |none=>rw[hl]at hn;exact nomatch hn
  |some B=>rw[hl]at hn;rw[hh i B hl];exact hn
 |r d x=>cases x<;>exact hn
 |_=>exact hn
theorem il (hs:Ext s s') (hh:Ext h h') (op:Op):Le (bM P s h op) (bM P s' h' op):=by
 intro v hv;unfold bM at hv;split at hv<;>simp only[bM]
 ·exact aL hs _ v hv
 ·exact aL hs _ v hv
 ·revert hv;exact((aL hs _).bind λc=>(Le.refl _).bind λb=>Le.cond (aL hs _) (aL hs _)) v
 ·revert hv
  split
  ·exact((Le.refl _).bind λ_=>(Le.refl _).bind λ_=>(dP hs _).bind λ_=>Le.refl _) v
  ·exactλh=>nomatch h
 ·exact((aL hs _).bind λa=>(re hh a).bind λ_=>Le.refl _) v hv
 ·exact((aL hs _).bind λa=>Le.refl _) v hv
 ·exact((aL hs _).bind λa=>(aL hs _).bind λ_=>Le.refl _) v hv
 ·exact((aL hs _).bind λa=>Le.refl _) v hv
 ·exact((aL hs _).bind λa=>Le.cond ((oJ hh _ _).bind λ_=>Le.refl _) (Le.refl _)) v hv
 ·exact((ct hs _).bind λa=>(ct hs _).bind λ_=>Le.refl _) v hv
 ·exact((aL hs _).bind λa=>(oI hs _).bind λ_=>(oI hs _).bind λ_=>rf hh _ _ _ _) v hv
 ·exact((aL hs _).bind λa=>(oI hs _).bind λ_=>(aL hs _).bind λ_=>(aL hs _).bind λ_=>(xV hh _ _).bind λ_=>Le.refl _) v hv
 ·exact((aL hs _).bind λa=>Le.refl _) v hv
 ·exact((aL hs _).bind λa=>Le.refl _) v hv
 ·exact((aL hs _).bind λa=>(aL hs _).bind λ_=>(Le.refl _).bind λ_=>kI hh _ _ _) v hv
 ·exact((aL hs _).bind λa=>(aL hs _).bind λ_=>Le.refl _) v hv
 ·exact((aL hs _).bind λa=>Le.refl _) v hv
 ·refine((ct hs _).bind λvs=>?_) v hv;split
  ·exact Le.cond ((uH hh _).bind λ_=>Le.refl _) (Le.refl _)
  ·exact Le.refl _
 ·exact((ct hs _).bind λa=>Le.refl _) v hv
 ·exact((ct hs _).bind λa=>Le.refl _) v hv
 ·exact((ct hs _).bind λa=>Le.refl _) v hv
 ·exact nomatch hv
theorem sM (hh:Ext h h') (t:Ty) (v:SV):Le (v.asR h t) (v.asR h' t):=by
 cases t with
 |sl t=>exact(oJ hh t v).bind λ_=>Le.refl _
 |_=>exact Le.refl _
theorem oK (hh:Ext h h'):(ts:List Ty)->(vs:List SV)->Le (sf h ts vs) (sf h' ts vs)
 |[],[]=>Le.refl _
 |t::ts,v::vs=>(sM hh t v).bind λ_=>(oK hh ts vs).bind λ_=>Le.refl _
 |[],_::_=>Le.refl _
 |_::_,[]=>Le.refl _
theorem wC (hh:Ext h h') (t:Ty) (vs:List SV):Le (yZ h t vs) (yZ h' t vs):=(oK hh _ _).bind λ_=>Le.refl _
theorem qi (hh:Ext h h') (t:Ty):(n:Nat)->(c:List SV)->Le (qX h t n c) (qX h' t n c)
 |0,_=>Le.refl _
 |n+1,_=>(wC hh t _).bind λ_=>(qi hh t n _).bind λ_=>Le.refl _
theorem lZ (hh:Ext h h') (t:Ty) (v:SV):Le (v.sg h t) (v.sg h' t):=by
 intro p hp
 cases t with
 |sl t=>
  cases v with
  |own i=>
   simp only[SV.sg]at hp⊢
   cases hl:look h i with
   |none=>rw[hl]at hp;exact nomatch hp
   |some B=>rw[hl]at hp;rw[hh i B hl];exact hp
  |_=>exact hp
 |_=>exact hp
theorem qj (hh:Ext h h'):(ts:List Ty)->(vs:List SV)->Le (oC h ts vs) (oC h' ts vs)
 |[],[]=>Le.refl _
 |t::ts,v::vs=>(lZ hh t v).bind λ_=>(qj hh ts vs).bind λ_=>Le.refl _
 |[],_::_=>Le.refl _
 |_::_,[]=>Le.refl _
theorem cG (hh:Ext h h') (t:Ty):(n:Nat)->(c:List SV)->Le (b8 h t n c) (b8 h' t n c)
 |0,_=>Le.refl _
 |n+1,_=>(qj hh _ _).bind λ_=>(Le.refl _).bind λ_=>(cG hh t n _).bind λ_=>Le.refl _
theorem nc (hh:Ext h h'):(c:List SV)->Le (m6 h c) (m6 h' c)
 |[]=>Le.refl _
 |v::l=>by
  have ih:=nc hh l
  cases v with
  |own i=>
   refine(wB hh i).bind λb=>?_
   cases b with
   |box _=>exact Le.refl _
   |arr sh _ _=>cases sh with
    |none=>exact ih
    |some _=>exact Le.refl _
  |r d x=>cases x with
   |sl _ _=>exact Le.refl _
   |_=>exact ih
  |sub _ _ _=>exact Le.refl _
  |bsl _ _=>exact Le.refl _
  |_=>exact ih
theorem sN (hh:Ext h h') (t:Ty) (n:Nat) (c:List SV):Le (qb h t n c) (qb h' t n c):=
 (nc hh c).bind λb=>Le.cond ((cG hh t n c).bind λ_=>Le.refl _) ((qi hh t n c).bind λ_=>Le.refl _)
theorem k6 (hh:Ext h h') (t:Ty) (v:SV):Le (fY h t v) (fY h' t v):=by
 have ind:∀(v:SV) (p:List Nat× List t.El),v.list h t=some p->eI h' v p.1=eI h v p.1:=λv p hp=>by
  cases v with
  |own i=>
   simp only[SV.list]at hp
   cases hl:look h i with
   |none=>rw[hl]at hp;exact nomatch hp
   |some B=>simp only[eI,hl,hh i B hl]
  |_=>rfl
 have lst:∀v:SV,Le ((v.list h t).bind λp=>cond (eQ t) (some (none,[],p.2)) (some (some (eI h v p.1),[],p.2)):Option (Option (List Nat)× List Nat× List t.El)) ((v.list h' t).bind λp=>cond (eQ t) (some (none,[],p.2)) (some (some (eI h' v p.1),[],p.2))):=λv q hq=>by
  rw[An]at hq⊢;obtain⟨p,hp,hq⟩:=hq;exact⟨p,oJ hh t v p hp,by rw[ind v p hp];exact hq⟩
 cases v with
 |bsl i n=>
  intro p hp;simp only[fY]at hp⊢
  cases hl:look h i with
  |none=>rw[hl]at hp;exact nomatch hp
  |some B=>
   rw[hl]at hp;rw[hh i B hl]
   cases B with
   |box cs=>exact((sN hh t n cs).bind λ_=>Le.refl _) p hp
   |arr _ _ _=>exact nomatch hp
 |r d x=>exact lst (.r d x)
 |br=>exact lst .br
 |fK=>exact lst .fK
 |own i=>exact lst (.own i)
 |sub i o n=>exact lst (.sub i o n)
 |ptr i x o=>exact lst (.ptr i x o)
 |inn i x o=>exact lst (.inn i x o)
 |cY d x=>exact lst (.cY d x)
 |agg x=>exact lst (.agg x)
 |tup x=>exact lst (.tup x)
 |fn f a b=>exact lst (.fn f a b)
 |undef=>exact lst .undef
end
end
section
abbrev Cell:=Nat× Nat
def _root_.Go.World.at? (w:World) (p:Cell):Option Value:=w.cell? ⟨p.1,p.2,none⟩
def _root_.Go.World.bc (w:World) (p:Cell):Nat× Nat× Nat:=
 match w.heap[p.1]? with
 |some (.cells c _ fr)=>(fr.1,fr.2,c.size)
 |_=>(0,0,0)
def calm (r:Nat× Nat× Nat):Bool:=decide (r.1=r.2.1\/r.2.2<=r.1)
def whole (r:Nat× Nat× Nat) (o n:Nat):Bool:=calm r&&decide (o=0/\r.2.2=n)
theorem fo {r:Nat× Nat× Nat} {o n:Nat} (h:whole r o n=true):calm r=true:=by
 unfold whole at h;rw[AW]at h;exact h.1
theorem qk {n:Nat}:whole (0,0,n) 0 n=true:=by simp[whole,calm]
theorem de {w:World} {b o:Nat} {u:Value} (h:w.at? (b,o)=some u) (hc:calm (w.bc (b,o))=true):w.frozen? ⟨b,o,none⟩=false:=by
 unfold World.at? World.cell? at h;unfold calm World.bc at hc;unfold World.frozen?
 cases hb:w.heap[b]? with
 |none=>rfl
 |some ob=>
  cases ob with
  |cells c t fr=>
   simp only[hb,B6,BF,if_false]at h;simp only[hb,decide_eq_true_eq]at hc;have:=(A2.1 h).1;obtain⟨lo,hi⟩:=fr;simp only at hc⊢;rw[Bool.and_eq_false_iff,decide_eq_false_iff_not,decide_eq_false_iff_not]
   omega
  |_=>rfl
theorem nd (w:World) (a:Addr) (v:Value) (p:Cell):(w.setCell a v).bc p=w.bc p:=by
 unfold World.bc World.setCell;simp only[Array.getElem?_modify];by_cases e:a.block=p.1
 ·rw[if_pos e]
  cases hb:w.heap[p.1]? with
  |none=>rfl
  |some ob=>
   cases ob with
   |cells c t fr=>simp only[BO];split<;>simp
   |_=>rfl
 ·rw[if_neg e]
theorem bF (b:Nat):∀(vs:List Value) (o:Nat) (w:World) (p:Cell),(w.setCells b o vs).bc p=w.bc p
 |[],_,_,_=>rfl
 |v::vs,o,w,p=>(bF b vs (o+1) (w.setCell ⟨b,o,none⟩ v) p).trans (nd w _ v p)
def one:Value->Bool
 |.agg _|.tuple _=>false
 |_=>true
class Tok where
 env:Nat->Value
 sO:∀n,one (env n)=true
 sP:env 0=.slice none 0 0
variable [Tok]
def reg (b o n:Nat) (p:Cell):Prop:=p.1=b/\o<=p.2/\p.2<o+n
def af (t:Ty) (xs:List t.El) (i j:Nat) (r:R):Prop:=∃x,xs[i]? =some x/\(t.cells x)[j]? =some r
theorem ao {t:Ty} {xs:List t.El} {i j:Nat} {r:R} (h:af t xs i j r):i<xs.length/\j<t.sz:=by
 obtain⟨x,hx,hr⟩:=h;refine⟨(AQ.1 hx).1,?_⟩;have:=(AQ.1 hr).1;rwa [Ty.aH]at this
theorem aX {t:Ty} {xs:List t.El} {i j:Nat} (hi:i<xs.length) (hj:j<t.sz):∃r,af t xs i j r:=by
 refine⟨(t.cells xs[i])[j]'(by rw[Ty.aH];exact hj),xs[i],?_,?_⟩<;>simp
theorem eS {i j n s c:Nat} (hi:i<n) (hj:j<s) (h:n<=c):i*s+j<c*s:=by
 have h1:(i+1)*s<=c*s:=Bf s (by omega);have:(i+1)*s=i*s+s:=BG i s;omega
inductive RepR (w:World) (ok:Cell->Prop):R->Value->Prop
 |int (k:IntKind) (n:Int):RepR w ok (.int k n) (.int k n)
 |bool (b:Bool):RepR w ok (.bool b) (.bool b)
 |str (l:List UInt8):RepR w ok (.str l) (.string ⟨l.toArray⟩)
 |sl (t:Ty) (xs:List t.El) (a:Option Addr) (cap b o:Nat) (vs:Nat->Nat->Value)
   (hcap:xs.length<=cap) (ha:xs=[]\/a=some ⟨b,o,none⟩)
   (hc:∀i j r,af t xs i j r->ok (b,o+(i*t.sz+j))/\w.at? (b,o+(i*t.sz+j))=some (vs i j))
   (hr:∀i j r,af t xs i j r->RepR w ok r (vs i j)):RepR w ok (.sl t xs) (.slice a xs.length cap)
 |tok (n:Nat):RepR w ok (.tok n) (Tok.env n)
 |dX (v:Value) (h:one v=true):RepR w ok .dX v
theorem RepR.frame {w w':World} {ok ok':Cell->Prop} {r:R} {v:Value} (h:RepR w ok r v)
  (hf:∀p u,ok p->w.at? p=some u->ok' p/\w'.at? p=some u):RepR w' ok' r v:=by
 induction h with
 |int=>exact .int _ _
 |bool=>exact .bool _
 |str=>exact .str _
 |tok=>exact .tok _
 |dX v h=>exact .dX v h
 |sl t xs a cap b o vs hcap ha hc _ ih=>
  exact .sl t xs a cap b o vs hcap ha (λi j r hr=>hf _ _ (hc i j r hr).1 (hc i j r hr).2) ih
structure Row (w:World) (inner:R->Value->(Cell->Prop)->Prop) (t:Ty) (xs:List t.El) (hdr:Value) (fp:Cell->Prop) where
 a:Option Addr
 cap:Nat
 b:Nat
 o:Nat
 vs:Nat->Nat->Value
 fs:Nat->Nat->Cell->Prop
 ng:hdr=.slice a xs.length cap
 hcap:xs.length<=cap
 ha:cap=0\/a=some ⟨b,o,none⟩
 dx:∀j,j<cap*t.sz->(∃v,w.at? (b,o+j)=some v)/\whole (w.bc (b,o+j)) o (cap*t.sz)=true
 hc:∀i j r,af t xs i j r->w.at? (b,o+(i*t.sz+j))=some (vs i j)
 hr:∀i j r,af t xs i j r->inner r (vs i j) (fs i j)
 hd1:∀i j r p,af t xs i j r->fs i j p->¬reg b o (cap*t.sz) p
 hd2:∀i j r i' j' r' p,af t xs i j r->af t xs i' j' r'->fs i j p->fs i' j' p->i=i'/\j=j'
 hfp:∀p,fp p↔reg b o (cap*t.sz) p\/∃i j r,af t xs i j r/\fs i j p
inductive bG (w:World):R->Value->(Cell->Prop)->Prop
 |int (k:IntKind) (n:Int):bG w (.int k n) (.int k n) (λ_=>False)
 |bool (b:Bool):bG w (.bool b) (.bool b) (λ_=>False)
 |str (l:List UInt8):bG w (.str l) (.string ⟨l.toArray⟩) (λ_=>False)
 |sl (t:Ty) (xs:List t.El) (a:Option Addr) (cap b o:Nat) (vs:Nat->Nat->Value) (fs:Nat->Nat->Cell->Prop) (fp:Cell->Prop)
   (hcap:xs.length<=cap) (ha:cap=0\/a=some ⟨b,o,none⟩)
   (dx:∀j,j<cap*t.sz->(∃v,w.at? (b,o+j)=some v)/\whole (w.bc (b,o+j)) o (cap*t.sz)=true)
   (hc:∀i j r,af t xs i j r->w.at? (b,o+(i*t.sz+j))=some (vs i j))
   (hr:∀i j r,af t xs i j r->bG w r (vs i j) (fs i j))
   (hd1:∀i j r p,af t xs i j r->fs i j p->¬reg b o (cap*t.sz) p)
   (hd2:∀i j r i' j' r' p,af t xs i j r->af t xs i' j' r'->fs i j p->fs i' j' p->i=i'/\j=j')
   (hfp:∀p,fp p↔reg b o (cap*t.sz) p\/∃i j r,af t xs i j r/\fs i j p):bG w (.sl t xs) (.slice a xs.length cap) fp
 |tok (n:Nat):bG w (.tok n) (Tok.env n) (λ_=>False)
 |dX (v:Value) (h:one v=true):bG w .dX v (λ_=>False)
theorem bG.row {w:World} {t:Ty} {xs:List t.El} {v:Value} {fp:Cell->Prop} (h:bG w (.sl t xs) v fp):Nonempty (Row w (bG w) t xs v fp):=by
 cases h with
 |sl t xs a cap b o vs fs fp hcap ha dx hc hr hd1 hd2 hfp=>exact⟨⟨a,cap,b,o,vs,fs,rfl,hcap,ha,dx,hc,hr,hd1,hd2,hfp⟩⟩
theorem Row.zd {w:World} {t:Ty} {xs:List t.El} {v:Value} {fp:Cell->Prop} (h:Row w (bG w) t xs v fp):bG w (.sl t xs) v fp:=by
 obtain⟨a,cap,b,o,vs,fs,rfl,hcap,ha,dx,hc,hr,hd1,hd2,hfp⟩:=h;exact .sl t xs a cap b o vs fs fp hcap ha dx hc hr hd1 hd2 hfp
theorem bG.frame {w w':World} {r:R} {v:Value} {fp:Cell->Prop} (h:bG w r v fp)
  (hf:∀p u,fp p->w.at? p=some u->w'.at? p=some u/\w'.bc p=w.bc p):bG w' r v fp:=by
 induction h with
 |int=>exact .int _ _
 |bool=>exact .bool _
 |str=>exact .str _
 |tok=>exact .tok _
 |dX v h=>exact .dX v h
 |sl t xs a cap b o vs fs fp hcap ha dx hc _ hd1 hd2 hfp ih=>
  have hin:∀i j r,af t xs i j r->fp (b,o+(i*t.sz+j)):=λi j r hr=>(hfp _).2 (.inl ⟨rfl,by simp,by
   have:=eS (ao hr).1 (ao hr).2 hcap;simp;omega⟩)
  refine .sl t xs a cap b o vs fs fp hcap ha (λj hj=>?_) (λi j r hr=>(hf _ _ (hin i j r hr) (hc i j r hr)).1)
   (λi j r hr=>ih i j r hr λp u hp=>hf p u ((hfp p).2 (.inr ⟨i,j,r,hr,hp⟩))) hd1 hd2 hfp
  obtain⟨⟨v,hv⟩,hi⟩:=dx j hj;have:=hf (b,o+j) v ((hfp _).2 (.inl ⟨rfl,by simp,by simp;omega⟩)) hv;exact⟨⟨v,this.1⟩,by rw[this.2];exact hi⟩
theorem bG.sQ {w:World} {r:R} {v:Value} {fp:Cell->Prop} {ok:Cell->Prop} (h:bG w r v fp) (hok:∀p,fp p->ok p):RepR w ok r v:=by
 induction h with
 |int=>exact .int _ _
 |bool=>exact .bool _
 |str=>exact .str _
 |tok=>exact .tok _
 |dX v h=>exact .dX v h
 |sl t xs a cap b o vs fs fp hcap ha dx hc _ hd1 hd2 hfp ih=>
  refine .sl t xs a cap b o vs hcap ?_ (λi j r hr=>⟨hok _ ((hfp _).2 (.inl ⟨rfl,by simp,by
   have:=eS (ao hr).1 (ao hr).2 hcap;simp;omega⟩)),hc i j r hr⟩)
   (λi j r hr=>ih i j r hr λp hp=>hok p ((hfp p).2 (.inr ⟨i,j,r,hr,hp⟩)))
  rcases ha with rfl|h
  ·exact .inl (Bi.1 (by omega))
  ·exact .inr h
theorem bG.there {w:World} {r:R} {v:Value} {fp:Cell->Prop} (h:bG w r v fp):∀p,fp p->∃u,w.at? p=some u:=by
 induction h with
 |int=>exactλ_ h=>h.elim
 |bool=>exactλ_ h=>h.elim
 |str=>exactλ_ h=>h.elim
 |tok=>exactλ_ h=>h.elim
 |dX=>exactλ_ h=>h.elim
 |sl t xs a cap b o vs fs fp hcap ha dx hc _ hd1 hd2 hfp ih=>
  intro p hp
  rcases(hfp p).1 hp with⟨h1,h2,h3⟩|⟨i,j,r,hr,hp⟩
  ·obtain⟨p1,p2⟩:=p;have h1:p1=b:=h1;simp only at h1 h2 h3;subst h1;have:=(dx (p2-o) (by omega)).1;rwa [show o+(p2-o)=p2 from by omega]at this
  ·exact ih i j r hr p hp
structure Pl where
 hdr:Nat->Value
 fp:Nat->Cell->Prop
 base:Cell->Prop
def Blk.dg:Blk->Bool
 |.box _=>true
 |.arr _ _ _=>false
def okd (H:ak) (pl:Pl) (d:List Nat) (p:Cell):Prop:=pl.base p/\∀i B,look H i=some B->(mem i d=true->B.dg=true)->¬pl.fp i p
inductive aa (w:World) (H:ak) (pl:Pl):SV->Value->Prop
 |r (d:List Nat) (x:R) (v:Value) (h:RepR w (okd H pl d) x v):aa w H pl (.r d x) v
 |br:aa w H pl .br (.slice none 0 0)
 |fK:aa w H pl .fK (.pointer none)
 |own (i:Nat) (sh:Option (List Nat)) (t:Ty) (xs:List t.El) (h:look H i=some (.arr sh t xs)):aa w H pl (.own i) (pl.hdr i)
 |sub (i o n:Nat) (sh:Option (List Nat)) (t:Ty) (xs:List t.El) (a a':Option Addr) (cap cp:Nat) (h:look H i=some (.arr sh t xs))
   (hh:pl.hdr i=.slice a xs.length cap) (hn:o+n<=xs.length) (hc:n<=cp) (hc':o+cp=cap) (ha:cp=0\/a'=a.map (·.add (o*t.sz))):
   aa w H pl (.sub i o n) (.slice a' n cp)
 |bsl (i n:Nat) (cs:List SV) (a:Addr) (h:look H i=some (.box cs)) (hh:pl.hdr i=.pointer (some a)):aa w H pl (.bsl i n) (.slice (some a) n n)
 |jI (i o:Nat) (cs:List SV) (b k:Nat) (h:look H i=some (.box cs)) (hh:pl.hdr i=.pointer (some ⟨b,k,none⟩)):aa w H pl (.ptr i 0 o) (.pointer (some ⟨b,k+o,none⟩))
 |jn (i x o:Nat) (sh:Option (List Nat)) (t:Ty) (xs:List t.El) (b k n cap:Nat) (h:look H i=some (.arr sh t xs)) (hx:x<xs.length)
   (hh:pl.hdr i=.slice (some ⟨b,k,none⟩) n cap):aa w H pl (.ptr i x o) (.pointer (some ⟨b,k+(x*t.sz+o),none⟩))
 |inn (i x c:Nat) (sh:Option (List Nat)) (t:Ty) (xs:List t.El) (b k n cap:Nat) (v:Value) (h:look H i=some (.arr sh t xs)) (hx:x<xs.length) (hc:c<t.sz)
   (hh:pl.hdr i=.slice (some ⟨b,k,none⟩) n cap) (hok:okd H pl [i] (b,k+(x*t.sz+c))) (hv:w.at? (b,k+(x*t.sz+c))=some v) (h1:one v=true):aa w H pl (.inn i x c) v
 |cY (d:List Nat) (cs:List R) (b o:Nat) (vs:Nat->Value) (hc:∀j r,cs[j]? =some r->okd H pl d (b,o+j)/\w.at? (b,o+j)=some (vs j))
   (hr:∀j r,cs[j]? =some r->RepR w (okd H pl d) r (vs j)):aa w H pl (.cY d cs) (.pointer (some ⟨b,o,none⟩))
 |agg (cs:List SV) (vs:Array Value) (hl:cs.length=vs.size) (h1:∀(j:Nat) (v:Value),vs[j]? =some v->one v=true) (h:∀(j:Nat) (x:SV) (v:Value),cs[j]? =some x->vs[j]? =some v->aa w H pl x v):aa w H pl (.agg cs) (.agg vs)
 |tup (cs:List SV) (vs:Array Value) (hl:cs.length=vs.size) (h:∀(j:Nat) (x:SV) (v:Value),cs[j]? =some x->vs[j]? =some v->aa w H pl x v):aa w H pl (.tup cs) (.tuple vs)
 |fn (f:Fn) (as bs:List SV) (us vs:Array Value) (hl:as.length=us.size) (h:∀(j:Nat) (x:SV) (v:Value),as[j]? =some x->us[j]? =some v->aa w H pl x v)
   (hl':bs.length=vs.size) (h':∀(j:Nat) (x:SV) (v:Value),bs[j]? =some x->vs[j]? =some v->aa w H pl x v):aa w H pl (.fn f as bs) (.func f us vs)
 |undef (v:Value):aa w H pl .undef v
def bo (w:World) (H:ak) (pl:Pl) (i:Nat):Blk->Prop
 |.box cs=>∃b o,pl.hdr i=.pointer (some ⟨b,o,none⟩)/\(∀p,pl.fp i p↔reg b o cs.length p)/\
   ∀j v,cs[j]? =some v->∃u,w.at? (b,o+j)=some u/\calm (w.bc (b,o+j))=true/\one u=true/\aa w H pl v u
 |.arr none t xs=>Nonempty (Row w (bG w) t xs (pl.hdr i) (pl.fp i))
 |.arr (some d) t xs=>Nonempty (Row w (λr v f=>RepR w (okd H pl d) r v/\∀p,¬f p) t xs (pl.hdr i) (pl.fp i))
structure aR (H:ak) (pl:Pl) (w:World):Prop where
 blk:∀i B,look H i=some B->bo w H pl i B
 dis:∀i j B B' p,look H i=some B->look H j=some B'->pl.fp i p->pl.fp j p->i=j
 ob:∀i B p,look H i=some B->pl.fp i p->pl.base p
 nb:∀p,w.at? p=none->pl.base p
end
section
variable [Tok]
section lists
variable {α:Type}
theorem ae (k:Nat) (v:α) (l:List (Nat× α)) (n:Nat):look ((k,v)::l) n=if k=n then some v else look l n:=by
 simp only[look];cases h:Nat.beq k n
 ·have:¬k=n:=λe=>by subst e;simp at h
  simp[this]
 ·have:k=n:=AR h;simp[this]
theorem bd (l:List (Nat× α)) (n m:Nat) (v:α):look (put l n v) m=if n=m then some v else look l m:=by
 induction l with
 |nil=>rw[put,ae]
 |cons x l ih=>
  obtain⟨k,u⟩:=x;simp only[put];cases hk:Nat.beq k n
  ·simp only[cond_false,look,ih];cases hm:Nat.beq k m
   ·simp
   ·have h1:k=m:=AR hm;subst h1
    have:¬n=k:=λe=>by subst e;simp at hk
    simp[this]
  ·have h1:k=n:=AR hk;subst h1;simp only[cond_true,look];cases hm:Nat.beq k m
   ·have:¬k=m:=λe=>by subst e;simp at hm
    simp[this]
   ·have:k=m:=AR hm;simp[this]
theorem ag (l l':List (Nat× α)) (n:Nat):look (l++l') n=(look l n).or (look l' n):=by
 induction l with
 |nil=>simp[look]
 |cons x l ih=>
  obtain⟨k,u⟩:=x;simp only[List.cons_append,look];cases Nat.beq k n<;>simp[ih]
theorem mem_iff (i:Nat) (l:List Nat):mem i l=true↔i∈l:=by
 induction l with
 |nil=>simp[mem]
 |cons k l ih=>
  simp only[mem];cases h:Nat.beq k i
  ·have:¬i=k:=λe=>by subst e;simp at h
   simp[ih,this]
  ·have:k=i:=AR h;simp[this]
theorem bB (T d:List Nat) (h:hit T d=false):∀i,mem i d=true->mem i T=false:=by
 induction d with
 |nil=>intro i hi;simp[mem]at hi
 |cons k l ih=>
  simp only[hit]at h;cases hk:mem k T
  ·rw[hk]at h;intro i hi;rw[mem_iff]at hi
   rcases Bb.1 hi with rfl|hi
   ·exact hk
   ·exact ih h i ((mem_iff i l).2 hi)
  ·rw[hk]at h;simp at h
theorem ax (n:Nat) (l:List Blk) (i:Nat):look (au n l) i=if n<=i then l[i-n]? else none:=by
 induction l generalizing n with
 |nil=>simp[au,look]
 |cons b l ih=>
  rw[au,ae,ih];by_cases h:n=i
  ·subst h;simp
  ·by_cases h2:n<=i
   ·rw[if_neg h,if_pos (by omega),if_pos h2];rw[show i-n=(i-(n+1))+1 from by omega];rfl
   ·rw[if_neg h,if_neg (by omega),if_neg h2]
theorem nh (u h:ak) (i:Nat):look (fP u h) i=match look u.reverse i with|some b=>some b|none=>look h i:=by
 induction u generalizing h with
 |nil=>simp[fP,look]
 |cons x l ih=>
  obtain⟨k,b⟩:=x;rw[fP,ih,List.reverse_cons,ag,bd,ae]
  cases look l.reverse i with
  |some c=>simp
  |none=>by_cases hk:k=i<;>simp[hk,look]
theorem oL (T:Kil) (s:List (Nat× SV)) (t:Nat):look (p8 T s) t=(look s t).map (SV.al T):=by
 induction s with
 |nil=>rfl
 |cons x l ih=>
  obtain⟨k,v⟩:=x;rw[p8,ae,ae,ih];by_cases h:k=t<;>simp[h]
theorem jJ (T:Kil) (h h':ak) (e:jC T h=some h') (i:Nat):
  look h' i=cond (mem i T.1) none ((look h i).bind (Blk.al T))/\(∀b,look h i=some b->mem i T.1=false->∃b',b.al T=some b'):=by
 induction h generalizing h' with
 |nil=>simp only[jC,AP]at e;subst e;simp[look]
 |cons x l ih=>
  obtain⟨k,b⟩:=x;simp only[jC]at e;cases hk:mem k T.1
  ·simp only[hk,cond_false,An,AP]at e;obtain⟨b',hb,l',hl,rfl⟩:=e;rw[ae,ae];by_cases hi:k=i
   ·subst hi;simp[hk,hb]
   ·simpa[hi]using ih l' hl
  ·simp only[hk,cond_true]at e;have:=ih h' e;rw[ae];by_cases hi:k=i
   ·subst hi;simp[hk]at this⊢;exact this
   ·simpa[hi]using this
theorem bf {α:Type} {l:List α} (h:isNil l=true):l=[]:=by cases l with|nil=>rfl|cons _ _=>exact nomatch h
theorem oM {T:Kil} (h:T.2=[]) (h1:∀i,mem i T.1=true->mem i T.2=true):T=([],[]):=by
 obtain⟨a,b⟩:=T;simp only at h h1;subst h
 cases a with
 |nil=>rfl
 |cons x l=>have:=h1 x (by simp[mem]);exact nomatch this
theorem jK (i:Nat) (a b:List Nat):mem i (a++b)=(mem i a||mem i b):=by
 induction a with
 |nil=>simp[mem]
 |cons x l ih=>simp only[List.cons_append,mem,ih];cases Nat.beq x i<;>simp
theorem CR.bC (c:CR):∀i,mem i c.kil.1=true->mem i c.kil.2=true:=λi h=>by
 show mem i (c.gone++c.du)=true;rw[jK,show mem i c.gone=true from h];rfl
theorem dQ (T:Kil) (l:List SV) (j:Nat):(bV T l)[j]? =(l[j]?).map (SV.al T):=by
 induction l generalizing j with
 |nil=>rfl
 |cons v l ih=>cases j with
  |zero=>rfl
  |succ j=>simpa[bV]using ih j
theorem bH (T:Kil) (l:List SV):(bV T l).length=l.length:=by
 induction l with
 |nil=>rfl
 |cons v l ih=>simp[bV,ih]
end lists
def Blk.ec:Blk->Blk->Prop
 |.box a,.box b=>a.length=b.length
 |.arr _ t xs,.arr _ t' ys=>t.sz=t'.sz/\xs.length=ys.length
 |_,_=>False
theorem Blk.aS (b:Blk):b.ec b:=by cases b<;>simp[Blk.ec]
structure cT (T:Kil) (w:World) (H:ak) (pl:Pl) (w':World) (H':ak) (pl':Pl):Prop where
 k1:∀i B,look H i=some B->mem i T.1=false->∃B',look H' i=some B'/\B.ec B'/\pl'.hdr i=pl.hdr i
 k2:∀d p u,(∀i,mem i d=true->mem i T.2=false)->okd H pl d p->w.at? p=some u->okd H' pl' d p/\w'.at? p=some u
theorem aa.aY {T:Kil} {w w':World} {H H':ak} {pl pl':Pl} (hk:cT T w H pl w' H' pl') {v:SV} {u:Value} (h:aa w H pl v u):
  aa w' H' pl' (v.al T) u:=by
 induction h with
 |r d x v h=>
  simp only[SV.al];cases hd:hit T.2 d
  ·exact .r d x v (h.frame λp u hp hu=>hk.k2 d p u (bB T.2 d hd) hp hu)
  ·exact .undef _
 |br=>exact .br
 |fK=>exact .fK
 |own i sh t xs h=>
  simp only[SV.al];cases hi:mem i T.1
  ·obtain⟨B',h1,h2,h3⟩:=hk.k1 i _ h hi
   cases B' with
   |box cs=>exact h2.elim
   |arr sh' t' ys=>rw[<-h3];exact .own i sh' t' ys h1
  ·exact .undef _
 |sub i o n sh t xs a a' cap cp h hh hn hc hc' ha=>
  simp only[SV.al];cases hi:mem i T.1
  ·obtain⟨B',h1,h2,h3⟩:=hk.k1 i _ h hi
   cases B' with
   |box cs=>exact h2.elim
   |arr sh' t' ys=>
    obtain⟨hz,hl⟩:=h2;exact .sub i o n sh' t' ys a a' cap cp h1 (by rw[h3,hh,hl]) (hl▸hn) hc hc' (by rw[<-hz];exact ha)
  ·exact .undef _
 |bsl i n cs a h hh=>
  simp only[SV.al];cases hi:mem i T.1
  ·obtain⟨B',h1,h2,h3⟩:=hk.k1 i _ h hi
   cases B' with
   |arr _ _ _=>exact h2.elim
   |box ds=>
    exact .bsl i n ds a h1 (h3.trans hh)
  ·exact .undef _
 |jI i o cs b k h hh=>
  simp only[SV.al];cases hi:mem i T.1
  ·obtain⟨B',h1,h2,h3⟩:=hk.k1 i _ h hi
   cases B' with
   |arr _ _ _=>exact h2.elim
   |box ds=>exact .jI i o ds b k h1 (h3.trans hh)
  ·exact .undef _
 |jn i x o sh t xs b k n cap h hx hh=>
  simp only[SV.al];cases hi:mem i T.1
  ·obtain⟨B',h1,h2,h3⟩:=hk.k1 i _ h hi
   cases B' with
   |box cs=>exact h2.elim
   |arr sh' t' ys=>
    obtain⟨hz,hl⟩:=h2;rw[hz];exact .jn i x o sh' t' ys b k n cap h1 (hl▸hx) (h3.trans hh)
  ·exact .undef _
 |inn i x c sh t xs b k n cap v h hx hc hh hok hv h1=>
  simp only[SV.al];cases hi:(mem i T.1||mem i T.2)
  ·rw[Bool.or_eq_false_iff]at hi;obtain⟨B',g1,g2,g3⟩:=hk.k1 i _ h hi.1
   have g4:=hk.k2 [i] _ v (λj hj=>by
    simp only[mem]at hj;cases hb:Nat.beq i j<;>simp only[hb,cond_true,cond_false]at hj
    ·exact nomatch hj
    ·rw[<-AR hb];exact hi.2) hok hv
   cases B' with
   |box cs=>exact g2.elim
   |arr sh' t' ys=>
    obtain⟨hz,hl⟩:=g2;rw[hz]at g4 hc;exact .inn i x c sh' t' ys b k n cap v g1 (hl▸hx) hc (g3.trans hh) g4.1 g4.2 h1
  ·exact .undef _
 |cY d cs b o vs hc hr=>
  simp only[SV.al];cases hd:hit T.2 d
  ·exact .cY d cs b o vs (λj r hj=>hk.k2 d _ _ (bB T.2 d hd) (hc j r hj).1 (hc j r hj).2)
    λj r hj=>(hr j r hj).frame λp u hp hu=>hk.k2 d p u (bB T.2 d hd) hp hu
  ·exact .undef _
 |agg cs vs hl h1 h ih=>
  refine .agg _ vs (by rw[bH,hl]) h1 λj x v hx hv=>?_;rw[dQ]at hx;obtain⟨y,hy,rfl⟩:=AV.1 hx
  exact ih j y v hy hv
 |tup cs vs hl h ih=>
  refine .tup _ vs (by rw[bH,hl]) λj x v hx hv=>?_;rw[dQ]at hx;obtain⟨y,hy,rfl⟩:=AV.1 hx
  exact ih j y v hy hv
 |fn f as bs us vs hl h hl' h' ih ih'=>
  refine .fn f _ _ us vs (by rw[bH,hl]) (λj x v hx hv=>?_) (by rw[bH,hl']) λj x v hx hv=>?_
  ·rw[dQ]at hx;obtain⟨y,hy,rfl⟩:=AV.1 hx;exact ih j y v hy hv
  ·rw[dQ]at hx;obtain⟨y,hy,rfl⟩:=AV.1 hx
   exact ih' j y v hy hv
 |undef v=>exact .undef _
theorem l0 (d:List Nat):hit [] d=false:=by
 induction d with
 |nil=>rfl
 |cons k l ih=>simpa[hit,mem]using ih
mutual
theorem aO:(v:SV)->v.al ([],[])=v
 |.r d x=>by simp[SV.al,l0]
 |.own j=>by simp[SV.al,mem]
 |.sub j o n=>by simp[SV.al,mem]
 |.bsl j n=>by simp[SV.al,mem]
 |.ptr j x o=>by simp[SV.al,mem]
 |.inn j x c=>by simp[SV.al,mem]
 |.cY d cs=>by simp[SV.al,l0]
 |.agg cs=>by simp[SV.al,cu cs]
 |.tup cs=>by simp[SV.al,cu cs]
 |.fn f a b=>by simp[SV.al,cu a,cu b]
 |.br=>by simp[SV.al]
 |.fK=>by simp[SV.al]
 |.undef=>by simp[SV.al]
theorem cu:(l:List SV)->bV ([],[]) l=l
 |[]=>rfl
 |v::l=>by simp[bV,aO v,cu l]
end
theorem aa.jg {w w':World} {H H':ak} {pl pl':Pl} (hk:cT ([],[]) w H pl w' H' pl') {v:SV} {u:Value} (h:aa w H pl v u):
  aa w' H' pl' v u:=by have:=h.aY hk;rwa [aO]at this
end
section
variable [Tok]
section
variable {w:World} {H:ak} {pl:Pl}
theorem RepR.scalar {ok:Cell->Prop} {x:R} {v:Value} (h:RepR w ok x v) (ok':Cell->Prop) (hs:∀t xs,x≠.sl t xs):RepR w ok' x v:=by
 cases h with
 |int=>exact .int _ _
 |bool=>exact .bool _
 |str=>exact .str _
 |tok=>exact .tok _
 |dX v h=>exact .dX v h
 |sl t xs=>exact(hs t xs rfl).elim
theorem jL {d:List Nat} {x:R} {v:Value} (h:RepR w (okd H pl d) x v):aa w H pl (mkR d x) v:=by
 cases x with
 |sl t xs=>exact .r _ _ _ h
 |_=>exact .r _ _ _ (h.scalar _ (λ_ _ e=>nomatch e))
theorem RepR.fZ {ok:Cell->Prop} {x:R} {v:Value} (h:RepR w ok x v):one v=true:=by cases h<;>first|rfl|exact Tok.sO _|assumption
def bI (w:World) (H:ak) (pl:Pl) (s:List (Nat× SV)) (a:Act):Prop:=∀t v,look s t=some v->aa w H pl v (a.tmps.getD t undef)
theorem jM {v:Value} {x:SV} (h:ie v=some x):aa w H pl x v:=by
 unfold ie at h
 split at h<;>first|(cases h)|skip
 ·exact .r _ _ _ (.bool _)
 ·exact .r _ _ _ (.int _ _)
 ·exact .r _ _ _ (.str _)
 ·exact .br
 ·exact .fK
theorem k7:∀{vs:List Value} {l:List SV},kY vs=some l->l.length=vs.length/\∀(j:Nat) (x:SV) (v:Value),l[j]? =some x->vs[j]? =some v->aa w H pl x v
 |[],l,h=>by cases h;exact⟨rfl,λj x v hx _=>by simp at hx⟩
 |v::vs,l,h=>by
  simp only[kY,An,AP]at h;obtain⟨x,hx,xs,hxs,rfl⟩:=h;obtain⟨h1,h2⟩:=k7 hxs;refine⟨by simp[h1],λj y u hy hu=>?_⟩
  cases j with
  |zero=>simp at hy hu;subst hy hu;exact jM hx
  |succ j=>exact h2 j y u (by simpa using hy) (by simpa using hu)
theorem oN {v:Value} {x:SV} (h:ie v=some x):one v=true:=by
 unfold ie at h
 split at h<;>first|rfl|(cases h)
theorem k8:∀{vs:List Value} {l:List SV},kY vs=some l->∀(j:Nat) (v:Value),vs[j]? =some v->one v=true
 |[],l,_,j,v,hv=>by simp at hv
 |u::vs,l,h,j,v,hv=>by
  simp only[kY,An,AP]at h;obtain⟨x,hx,xs,hxs,rfl⟩:=h
  cases j with
  |zero=>simp at hv;subst hv;exact oN hx
  |succ j=>exact k8 hxs j v (by simpa using hv)
theorem im {v:Value} {x:SV} (h:p9 v=some x):aa w H pl x v:=by
 unfold p9 at h;split at h
 ·simp only[An,AP]at h;obtain⟨l,hl,rfl⟩:=h;obtain⟨h1,h2⟩:=k7 (w:=w) (H:=H) (pl:=pl) hl;refine .agg _ _ (by simpa using h1) (λj v hv=>?_) λj x v hx hv=>h2 j x v hx (by simpa using hv);exact k8 hl j v (by simpa using hv)
 ·exact jM h
theorem aq {s:List (Nat× SV)} {a:Act} (hs:bI w H pl s a) {o:Operand} {x:SV} (h:opd s o=some x):aa w H pl x (a.eval o):=by
 cases o with
 |tmp t=>exact hs t x h
 |const v=>exact im h
 |func f=>
  simp only[opd,AP]at h;subst h
  exact .fn _ _ _ _ _ rfl (λj x v hx _=>by simp at hx) rfl (λj x v hx _=>by simp at hx)
 |global g=>exact nomatch h
theorem aW {P:Program} {T:TypeId} {i:TypeInfo} (h:P.info? T=some i) (w:World):(sizeOf T).run P w=.ok i.size w:=by
 simp[sizeOf,typeInfo,h]
theorem aF {P:Program} {T:TypeId} {d:TypeDesc} (h:P.underlying T=some d) (w:World):(underlying T).run P w=.ok d w:=by
 simp[underlying,h]
theorem c5 {P:Program} {T:TypeId} {d:TypeDesc} (h:P.underlying T=some d) (w:World):(isAgg T).run P w=.ok (jD P T) w:=by
 simp only[isAgg,Sem.run_bind,aF h,Result.andThen_ok,jD,h];cases d<;>rfl
theorem jN (hr:aR H pl w) {p:SV} {u:Value} (hp:aa w H pl p u) {cs:List SV} (h:dd H p=some cs):
  ∃b o,u=.pointer (some ⟨b,o,none⟩)/\∀(j:Nat) (x:SV),cs[j]? =some x->∃y,w.at? (b,o+j)=some y/\one y=true/\aa w H pl x y:=by
 cases hp with
 |cY d cs' b o vs hc hr'=>
  simp only[dd,AP]at h;subst h;refine⟨b,o,rfl,λj x hx=>?_⟩;rw[Bu]at hx;obtain⟨r,hj,rfl⟩:=AV.1 hx
  exact⟨vs j,(hc j r hj).2,(hr' j r hj).fZ,jL (hr' j r hj)⟩
 |jI i o cs' b k hl hh=>
  simp only[dd,hl,AP]at h;subst h;obtain⟨b',o',e,_,hc⟩:=hr.blk i _ hl;rw[hh]at e;cases e;refine⟨b,k+o,rfl,λj x hx=>?_⟩;rw[A8]at hx;obtain⟨y,h1,_,h3,h4⟩:=hc _ _ hx
  exact⟨y,by rw[Bx];exact h1,h3,h4⟩
 |jn i x o sh t xs b k n cap hl hx hh=>
  simp only[dd,hl,An,AP]at h;obtain⟨e,he,rfl⟩:=h;have hb:=hr.blk i _ hl;refine⟨b,k+(x*t.sz+o),rfl,λj y hy=>?_⟩;rw[A8,Bu]at hy;obtain⟨r,hj,rfl⟩:=AV.1 hy;have hcell:af t xs x (o+j) r:=⟨e,he,hj⟩
  cases sh with
  |none=>
   obtain⟨R⟩:=hb;obtain⟨a',cp,b',o',vs,fs,h1,h2,h3,h4,h5,h6,h7,h8,h9⟩:=R;rw[hh]at h1;cases h1
   have hne:cap≠0:=by omega
   have h3:=h3.resolve_left hne;cases h3;refine⟨vs x (o+j),by rw[show k+(x*t.sz+o)+j=k+(x*t.sz+(o+j))from by omega];exact h5 _ _ _ hcell,?_,?_⟩
   ·exact((h6 _ _ _ hcell).sQ (ok:=λ_=>True) (λ_ _=>trivial)).fZ
   ·refine jL ((h6 _ _ _ hcell).sQ λp hp=>⟨hr.ob i _ p hl ((h9 p).2 (.inr ⟨_,_,_,hcell,hp⟩)),λi' B hB hm hf=>?_⟩);have hp':pl.fp i p:=(h9 p).2 (.inr ⟨_,_,_,hcell,hp⟩);have:=hr.dis i' i _ _ p hB hl hf hp';subst this;have hbx:=hm (by simp[sA,mem]);rw[hl]at hB;cases hB
    simp[Blk.dg]at hbx
  |some d=>
   obtain⟨R⟩:=hb;obtain⟨a',cp,b',o',vs,fs,h1,h2,h3,h4,h5,h6,h7,h8,h9⟩:=R;rw[hh]at h1;cases h1
   have hne:cap≠0:=by omega
   have h3:=h3.resolve_left hne;cases h3
   exact⟨vs x (o+j),by rw[show k+(x*t.sz+o)+j=k+(x*t.sz+(o+j))from by omega];exact h5 _ _ _ hcell,(h6 _ _ _ hcell).1.fZ,jL (h6 _ _ _ hcell).1⟩
 |_=>exact nomatch h
theorem k9 {α:Type} {n:Nat} {l m:List α} (h:takeN n l=some m):m.length=n/\∀j,j<n->m[j]? =l[j]? :=by
 unfold takeN at h;cases hn:Nat.ble n l.length
 ·simp[hn]at h
 ·simp only[hn,cond_true,AP]at h;subst h;have:=AZ hn;exact⟨by simp[this],λj hj=>by simp[hj]⟩
theorem l3 {P:Program} {T:TypeId} {cs:List SV} {v:SV} (h:b7 P T cs=some v) (b o:Nat)
  (hc:∀(j:Nat) (x:SV),cs[j]? =some x->∃y,w.at? (b,o+j)=some y/\one y=true/\aa w H pl x y):
  ∃u,(loadVar T ⟨b,o,none⟩).run P w=.ok u w/\aa w H pl v u:=by
 simp only[b7,An]at h;obtain⟨d,hd,i,hi,l,hl,h⟩:=h;obtain⟨h1,h2⟩:=k9 hl
 have hy:∀j,j<i.size->∃y x,l[j]? =some x/\w.at? (b,o+j)=some y/\aa w H pl x y:=λj hj=>by
  have hx:l[j]? =some (l[j]'(by omega)):=AU (by omega);obtain⟨y,h3,_,h5⟩:=hc j _ ((h2 j hj)▸hx);exact⟨y,_,hx,h3,h5⟩
 cases ha:jD P T
 ·simp only[ha,cond_false]at h
  match l,h1,hl,h,hy,h2 with
  |[x],h1,hl,h,hy,h2=>
   simp only[AP]at h;subst h;have h1:i.size=1:=h1.symm;obtain⟨y,x',h3,h4,h5⟩:=hy 0 (by omega);simp at h3;subst h3;refine⟨y,?_,h5⟩;have h4:w.cell? ⟨b,o,none⟩=some y:=h4;simp[loadVar,c5 hd,ha,h4]
 ·simp only[ha,cond_true,AP]at h;subst h
  let f:Nat->Value:=λj=>(w.at? (b,o+j)).getD undef
  have hf:∀j,j<i.size->w.cell? (Addr.add ⟨b,o,none⟩ j)=some (f j):=λj hj=>by
   obtain⟨y,x,_,h4,_⟩:=hy j hj
   have e:Addr.add ⟨b,o,none⟩ j=⟨b,o+j,none⟩:=by
    unfold Addr.add;split
    ·rename_i h0;subst h0;rfl
    ·rfl
   rw[e];show w.at? (b,o+j)=some (f j);simp only[f,h4];rfl
  have la:∀j,j<i.size->one (f j)=true:=λj hj=>by
   have hx:l[j]? =some (l[j]'(by omega)):=AU (by omega);obtain⟨y,h3,h4,_⟩:=hc j _ ((h2 j hj)▸hx);simp only[f,h3];exact h4
  refine⟨.agg ((List.range i.size).map f).toArray,?_,?_⟩
  ·simp[loadVar,c5 hd,ha,aW hi,run_loadCells (P:=P) w ⟨b,o,none⟩ i.size f hf]
  ·refine .agg _ _ (by simp[h1]) (λj v hv=>by
    by_cases hj:j<i.size
    ·have:v=f j:=by simp[hj]at hv;exact hv.symm
     rw[this];exact la j hj
    ·simp[hj]at hv) λj x v hx hv=>?_
   have hj:j<i.size:=by have:=(AQ.1 hx).1;omega
   obtain⟨y,x',h3,h4,h5⟩:=hy j hj;rw[h3]at hx;cases hx
   have:v=f j:=by simp[hj]at hv;exact hv.symm
   subst this;simp only[f,h4];exact h5
end
end
end Go.Proofs.Ev
