/- The evaluator over the model's code, and that it is sound: part 1. -/
import Derived.Calls
import Derived.Laws.IdiomCopy
import Derived.Laws.Cells
import Derived.Laws.Sem
set_option linter.unusedVariables false
set_option linter.unusedSimpArgs false
set_option linter.unusedSectionVars false
namespace Go.Proofs.Ev
theorem An:type_of% @Option.bind_eq_some_iff:=@Option.bind_eq_some_iff
theorem EC:type_of% @Option.some.injEq:=@Option.some.injEq
theorem ED:type_of% @List.getElem?_eq_some_iff:=@List.getElem?_eq_some_iff
theorem EE:type_of% @List.getElem?_eq_getElem:=@List.getElem?_eq_getElem
theorem EF:type_of% @Nat.eq_of_beq_eq_true:=@Nat.eq_of_beq_eq_true
theorem EG:type_of% @Bool.and_eq_true:=@Bool.and_eq_true
theorem EH:type_of% @List.getElem?_append_right:=@List.getElem?_append_right
theorem EI:type_of% @Option.map_eq_some_iff:=@Option.map_eq_some_iff
theorem EJ:type_of% @List.getElem?_append_left:=@List.getElem?_append_left
theorem EK:type_of% @List.append_assoc:=@List.append_assoc
theorem EL:type_of% @Nat.zero_add:=@Nat.zero_add
theorem EM:type_of% @List.length_append:=@List.length_append
theorem EN:type_of% @Array.getElem?_eq_getElem:=@Array.getElem?_eq_getElem
theorem EO:type_of% @Nat.le_of_ble_eq_true:=@Nat.le_of_ble_eq_true
theorem EP:type_of% @List.mem_of_getElem?:=@List.mem_of_getElem?
theorem ER:type_of% @Prod.mk.injEq:=@Prod.mk.injEq
theorem ES:type_of% @Array.getElem?_eq_some_iff:=@Array.getElem?_eq_some_iff
theorem ET:type_of% @Option.bind_some:=@Option.bind_some
theorem EU:type_of% @List.length_eq_zero_iff:=@List.length_eq_zero_iff
theorem EV:type_of% @Array.getD_eq_getD_getElem?:=@Array.getD_eq_getD_getElem?
theorem EW:type_of% @List.append_nil:=@List.append_nil
theorem EX:type_of% @Nat.le_refl:=@Nat.le_refl
theorem EY:type_of% @List.getElem?_drop:=@List.getElem?_drop
theorem EZ:type_of% @List.mem_cons:=@List.mem_cons
theorem E0:type_of% @List.length_take:=@List.length_take
theorem E1:type_of% @Nat.add_sub_cancel_left:=@Nat.add_sub_cancel_left
theorem E2:type_of% @List.take_append_drop:=@List.take_append_drop
theorem E3:type_of% @Option.bind_assoc:=@Option.bind_assoc
theorem E4:type_of% @List.getElem?_take:=@List.getElem?_take
theorem E5:type_of% @List.length_cons:=@List.length_cons
theorem E6:type_of% @Nat.add_zero:=@Nat.add_zero
theorem E7:type_of% @List.getElem?_map:=@List.getElem?_map
theorem E8:type_of% @Nat.mul_le_mul_right:=@Nat.mul_le_mul_right
theorem E9:type_of% @Nat.zero_le:=@Nat.zero_le
theorem Fa:type_of% @List.mem_cons_of_mem:=@List.mem_cons_of_mem
theorem Fb:type_of% @List.mem_singleton:=@List.mem_singleton
theorem Fc:type_of% @Nat.mul_comm:=@Nat.mul_comm
theorem Fe:type_of% @List.length_map:=@List.length_map
theorem Ff:type_of% @List.getElem?_of_mem:=@List.getElem?_of_mem
theorem Fg:type_of% @Nat.sub_zero:=@Nat.sub_zero
theorem Fh:type_of% @Int.toNat_natCast:=@Int.toNat_natCast
theorem Fi:type_of% @List.map_cons:=@List.map_cons
theorem Fj:type_of% @Option.bind_none:=@Option.bind_none
theorem Fk:type_of% @Nat.add_mul:=@Nat.add_mul
theorem Fl:type_of% @List.mem_append_left:=@List.mem_append_left
theorem Fm:type_of% @List.mem_cons_self:=@List.mem_cons_self
theorem Fo:type_of% @Option.or_none:=@Option.or_none
theorem Fp:type_of% @Array.getElem?_toList:=@Array.getElem?_toList
theorem Fq:type_of% @List.getElem?_eq_none:=@List.getElem?_eq_none
theorem Fs:type_of% @Nat.add_assoc:=@Nat.add_assoc
theorem Ft:type_of% @List.cons.injEq:=@List.cons.injEq
theorem Fu:type_of% @Option.getD_some:=@Option.getD_some
theorem Fv:type_of% @List.getElem_of_mem:=@List.getElem_of_mem
theorem Fw:type_of% @Nat.ble_eq_true_of_le:=@Nat.ble_eq_true_of_le
theorem Fx:type_of% @List.mem_append_right:=@List.mem_append_right
theorem Fy:type_of% @Option.some.inj:=@Option.some.inj
theorem Fz:type_of% @List.mem_append:=@List.mem_append
theorem FA:type_of% @List.length_set:=@List.length_set
theorem FB:type_of% @Nat.mod_eq_of_lt:=@Nat.mod_eq_of_lt
theorem FC:type_of% @List.getElem_mem:=@List.getElem_mem
theorem FD:type_of% @Array.getElem?_append_left:=@Array.getElem?_append_left
theorem FE:type_of% @List.getD_eq_getElem?_getD:=@List.getD_eq_getElem?_getD
theorem FF:type_of% @Nat.mul_add_mod:=@Nat.mul_add_mod
theorem FG:type_of% @List.drop_eq_getElem_cons:=@List.drop_eq_getElem_cons
theorem FH:type_of% @Bool.false_eq_true:=@Bool.false_eq_true
theorem FI:type_of% @List.cons_append:=@List.cons_append
theorem FJ:type_of% @List.pairwise_cons:=@List.pairwise_cons
theorem FK:type_of% @Nat.succ_mul:=@Nat.succ_mul
theorem FL:type_of% @Bool.not_eq_true':=@Bool.not_eq_true'
theorem FM:type_of% @Array.ext':=@Array.ext'
theorem FN:type_of% @List.nodup_cons:=@List.nodup_cons
theorem FO:type_of% @Bool.or_true:=@Bool.or_true
theorem FQ:type_of% @List.getElem?_set_self:=@List.getElem?_set_self
theorem FR:type_of% @List.map_nil:=@List.map_nil
theorem FT:type_of% @List.drop_length:=@List.drop_length
theorem FU:type_of% @List.length_replicate:=@List.length_replicate
theorem FV:type_of% @Option.map_some:=@Option.map_some
theorem FW:type_of% @List.map_set:=@List.map_set
theorem FX:type_of% @List.pairwise_append:=@List.pairwise_append
theorem FY:type_of% @List.length_drop:=@List.length_drop
theorem FZ:type_of% @Nat.div_eq_of_lt:=@Nat.div_eq_of_lt
theorem F0:type_of% @Nat.mul_add_div:=@Nat.mul_add_div
theorem F1:type_of% @Bool.or_eq_true:=@Bool.or_eq_true
theorem F2:type_of% @List.map_append:=@List.map_append
theorem F3:type_of% @Nat.div_lt_iff_lt_mul:=@Nat.div_lt_iff_lt_mul
theorem F4:type_of% @List.perm_append_comm:=@List.perm_append_comm
theorem F6:type_of% @Bool.and_eq_true_iff:=@Bool.and_eq_true_iff
theorem F7:type_of% @Nat.le_trans:=@Nat.le_trans
theorem F8:type_of% @List.take_length:=@List.take_length
theorem Ga:type_of% @List.length_nil:=@List.length_nil
theorem Gb:type_of% @List.nil_append:=@List.nil_append
theorem Gc:type_of% @Option.isSome_none:=@Option.isSome_none
theorem Gd:type_of% @Nat.add_sub_cancel:=@Nat.add_sub_cancel
theorem Gq:type_of% @Bool.not_true:=@Bool.not_true
theorem Gx:type_of% @Iff.rfl:=@Iff.rfl
theorem GC:type_of% @Nat.mod_lt:=@Nat.mod_lt
section
structure Shape where
 h:Int
 w:Int
 c:Int
 deriving DecidableEq
structure eM where
 sh:Shape
 data:List Int
 deriving DecidableEq
structure oK where
 kind:Int
 out:Int
 size:Int
 step:Int
 mult:Int
 shift:Int
 zero:Int
 weights:List Int
 DT:List Int
 deriving DecidableEq
structure Model where
 inp:Shape
 ny:List oK
 deriving DecidableEq
structure Job where
 model:Model
 at_:Int
 act:eM
 yY:Int
 deriving DecidableEq
structure Task where
 id:Int
 yZ:List Int
 at_:Int
 due:Int
 born:Int
 deriving DecidableEq
structure za where
 now:Int
 Dh:Int
 age:Int
 tasks:List Task
 run:Int
 left:Int
 turns:Int
 next:Int
 deriving DecidableEq
structure Request where
 id:Int
 model:Int
 job:Job
 due:Int
 deriving DecidableEq
structure Runtime where
 sched:za
 BX:List Model
 BZ:List Bool
 zb:List Request
 deriving DecidableEq
structure Step where
 kind:Int
 a:Int
 b:Int
 data:List Int
 input:eM
 deriving DecidableEq
structure Event where
 kind:Int
 a:Int
 b:Int
 out:eM
 deriving DecidableEq
structure Entry where
 id:Int
 model:Model
 input:eM
 at_:Int
 due:Int
 end_:Int
 done:Bool
 deriving DecidableEq
structure Wish where
 id:Int
 model:Int
 due:Int
 deriving DecidableEq
structure vX where
 id:Int
 yZ:Nat
 at_:Int
 due:Int
 born:Int
 deriving DecidableEq
structure jL where
 id:Int
 model:Int
 mh:Int
 mw:Int
 mc:Int
 ny:Nat
 jat:Int
 ah:Int
 aw:Int
 ac:Int
 data:Nat
 yY:Int
 due:Int
 deriving DecidableEq
inductive S where
 |shape|gW|gX|model|task|request|step|event|entry|wish|l6|dv
 deriving DecidableEq
inductive Ty where
 |int (k:IntKind)|bool|str|sl (t:Ty)|st (s:S)|tok
 |ho (s:S)|hl (t:Ty)
 deriving DecidableEq
def S.E:S->Type
 |.shape=>Shape|.gW=>eM|.gX=>oK|.model=>Model|.task=>Task|.request=>Request
 |.step=>Step|.event=>Event|.entry=>Entry|.wish=>Wish|.l6=>vX|.dv=>jL
def Ty.El:Ty->Type
 |.int _=>Int
 |.bool=>Bool
 |.str=>List UInt8
 |.sl t=>List t.El
 |.st s=>s.E
 |.tok=>Nat
 |.ho s=>Option s.E
 |.hl t=>Option (List t.El)
inductive R where
 |int (k:IntKind) (n:Int)
 |bool (b:Bool)
 |str (l:List UInt8)
 |sl (t:Ty) (xs:List t.El)
 |tok (n:Nat)
 |gg
abbrev R.i (n:Int):R:=.int .i64 n
abbrev R.ints (xs:List Int):R:=.sl (.int .i64) xs
abbrev R.bytes (xs:List Int):R:=.sl (.int .u8) xs
def vY (x:Shape):List R:=[.i x.h,.i x.w,.i x.c]
def vZ (x:eM):List R:=[.i x.sh.h,.i x.sh.w,.i x.sh.c,.ints x.data]
def Ag (x:oK):List R:=[.i x.kind,.i x.out,.i x.size,.i x.step,.i x.mult,.i x.shift,.i x.zero,.ints x.weights,.ints x.DT]
def Ah (x:Model):List R:=[.i x.inp.h,.i x.inp.w,.i x.inp.c,.sl (.st .gX) x.ny]
def B5 (x:Task):List R:=[.i x.id,.ints x.yZ,.i x.at_,.i x.due,.i x.born]
def tC (x:Request):List R:=[.i x.id,.i x.model,.i x.job.model.inp.h,.i x.job.model.inp.w,.i x.job.model.inp.c,.sl (.st .gX) x.job.model.ny,.i x.job.at_,.i x.job.act.sh.h,.i x.job.act.sh.w,.i x.job.act.sh.c,.ints x.job.act.data,.i x.job.yY,.i x.due]
def B6 (x:Step):List R:=[.i x.kind,.i x.a,.i x.b,.bytes x.data,.i x.input.sh.h,.i x.input.sh.w,.i x.input.sh.c,.ints x.input.data]
def Ai (x:Event):List R:=[.i x.kind,.i x.a,.i x.b,.i x.out.sh.h,.i x.out.sh.w,.i x.out.sh.c,.ints x.out.data]
def Aj (x:Entry):List R:=[.i x.id,.i x.model.inp.h,.i x.model.inp.w,.i x.model.inp.c,.sl (.st .gX) x.model.ny,.i x.input.sh.h,.i x.input.sh.w,.i x.input.sh.c,.ints x.input.data,.i x.at_,.i x.due,.i x.end_,.bool x.done]
def v3 (x:Wish):List R:=[.i x.id,.i x.model,.i x.due]
def v5 (x:vX):List R:=[.i x.id,.tok x.yZ,.i x.at_,.i x.due,.i x.born]
def l7 (x:jL):List R:=[.i x.id,.i x.model,.i x.mh,.i x.mw,.i x.mc,.tok x.ny,.i x.jat,.i x.ah,.i x.aw,.i x.ac,.tok x.data,.i x.yY,.i x.due]
def S.sz:S->Nat
 |.shape=>3|.gW=>4|.gX=>9|.model=>4|.task=>5|.request=>13|.step=>8|.event=>7|.entry=>13|.wish=>3|.l6=>5|.dv=>13
def S.cells:(s:S)->s.E->List R
 |.shape=>vY|.gW=>vZ|.gX=>Ag|.model=>Ah|.task=>B5|.request=>tC
 |.step=>B6|.event=>Ai|.entry=>Aj|.wish=>v3|.l6=>v5|.dv=>l7
def Ty.sz:Ty->Nat
 |.st s=>s.sz
 |.ho s=>s.sz
 |_=>1
def Ty.cells:(t:Ty)->t.El->List R
 |.int k,n=>[.int k n]
 |.bool,b=>[.bool b]
 |.str,l=>[.str l]
 |.sl t,xs=>[.sl t xs]
 |.st s,x=>s.cells x
 |.tok,n=>[.tok n]
 |.ho s,x=>match x with
  |some x=>s.cells x
  |none=>List.replicate s.sz .gg
 |.hl t,x=>match x with
  |some xs=>[.sl t xs]
  |none=>[.gg]
theorem S.bu (s:S) (x:s.E):(s.cells x).length=s.sz:=by cases s<;>rfl
theorem Ty.bu (t:Ty) (x:t.El):(t.cells x).length=t.sz:=by
 cases t with
 |st s=>exact s.bu x
 |ho s=>cases x with
  |none=>simp[Ty.cells,Ty.sz]
  |some x=>exact s.bu x
 |hl t=>cases x<;>rfl
 |_=>rfl
theorem Ty.dw (t:Ty):0<t.sz:=by
 cases t with
 |st s=>cases s<;>simp[Ty.sz,S.sz]
 |ho s=>cases s<;>simp[Ty.sz,S.sz]
 |_=>simp[Ty.sz]
def R.asI:R->Option Int
 |.int .i64 n=>some n
 |_=>none
def R.asB:R->Option Bool
 |.bool b=>some b
 |_=>none
def R.asL (t:Ty):R->Option (List t.El)
 |.sl t' xs=>if h:t'=t then some (h▸xs)else none
 |_=>none
def R.asT:R->Option Nat
 |.tok n=>some n
 |_=>none
theorem R.oL {r:R} {n:Nat} (h:r.asT=some n):r=.tok n:=by
 unfold R.asT at h;split at h
 ·cases h;rfl
 ·cases h
theorem R.ai {r:R} {n:Int} (h:r.asI=some n):r=.int .i64 n:=by
 unfold R.asI at h;split at h
 ·cases h;rfl
 ·cases h
theorem R.zc {r:R} {n:Bool} (h:r.asB=some n):r=.bool n:=by
 unfold R.asB at h;split at h
 ·cases h;rfl
 ·cases h
theorem R.cO {t:Ty} {r:R} {n:List t.El} (h:r.asL t=some n):r=.sl t n:=by
 unfold R.asL at h;split at h
 ·split at h
  ·rename_i e;subst e;cases h;rfl
  ·cases h
 ·cases h
def pZ:List R->Option Shape
 |[a',b',c']=>(a'.asI).bind λa=>(b'.asI).bind λb=>(c'.asI).bind λc=>some ⟨a,b,c⟩
 |_=>none
theorem rK (cs:List R) (x:Shape) (h:pZ cs=some x):vY x=cs:=by
 unfold pZ at h;split at h
 ·simp only[An]at h;obtain⟨a,ha,b,hb,c,hc,h⟩:=h;cases h;rw[R.ai ha,R.ai hb,R.ai hc];rfl
 ·cases h
def l8:List R->Option eM
 |[a',b',c',d']=>(a'.asI).bind λa=>(b'.asI).bind λb=>(c'.asI).bind λc=>(d'.asL (.int .i64)).bind λd=>some ⟨⟨a,b,c⟩,d⟩
 |_=>none
theorem p4 (cs:List R) (x:eM) (h:l8 cs=some x):vZ x=cs:=by
 unfold l8 at h;split at h
 ·simp only[An]at h;obtain⟨a,ha,b,hb,c,hc,d,hd,h⟩:=h;cases h;rw[R.ai ha,R.ai hb,R.ai hc,R.cO hd];rfl
 ·cases h
def p5:List R->Option oK
 |[a',b',c',d',e',f',g',h',i']=>(a'.asI).bind λa=>(b'.asI).bind λb=>(c'.asI).bind λc=>(d'.asI).bind λd=>(e'.asI).bind λe=>(f'.asI).bind λf=>(g'.asI).bind λg=>(h'.asL (.int .i64)).bind λh=>(i'.asL (.int .i64)).bind λi=>some ⟨a,b,c,d,e,f,g,h,i⟩
 |_=>none
theorem rL (cs:List R) (x:oK) (h:p5 cs=some x):Ag x=cs:=by
 unfold p5 at h;split at h
 ·simp only[An]at h;obtain⟨a,ha,b,hb,c,hc,d,hd,e,he,f,hf,g,hg,h,hh,i,hi,h⟩:=h;cases h;rw[R.ai ha,R.ai hb,R.ai hc,R.ai hd,R.ai he,R.ai hf,R.ai hg,R.cO hh,R.cO hi];rfl
 ·cases h
def p6:List R->Option Model
 |[a',b',c',d']=>(a'.asI).bind λa=>(b'.asI).bind λb=>(c'.asI).bind λc=>(d'.asL (.st .gX)).bind λd=>some ⟨⟨a,b,c⟩,d⟩
 |_=>none
theorem rM (cs:List R) (x:Model) (h:p6 cs=some x):Ah x=cs:=by
 unfold p6 at h;split at h
 ·simp only[An]at h;obtain⟨a,ha,b,hb,c,hc,d,hd,h⟩:=h;cases h;rw[R.ai ha,R.ai hb,R.ai hc,R.cO hd];rfl
 ·cases h
def v7:List R->Option Task
 |[a',b',c',d',e']=>(a'.asI).bind λa=>(b'.asL (.int .i64)).bind λb=>(c'.asI).bind λc=>(d'.asI).bind λd=>(e'.asI).bind λe=>some ⟨a,b,c,d,e⟩
 |_=>none
theorem uL (cs:List R) (x:Task) (h:v7 cs=some x):B5 x=cs:=by
 unfold v7 at h;split at h
 ·simp only[An]at h;obtain⟨a,ha,b,hb,c,hc,d,hd,e,he,h⟩:=h;cases h;rw[R.ai ha,R.cO hb,R.ai hc,R.ai hd,R.ai he];rfl
 ·cases h
def jM:List R->Option Request
 |[a',b',c',d',e',f',g',h',i',j',k',l',m']=>(a'.asI).bind λa=>(b'.asI).bind λb=>(c'.asI).bind λc=>(d'.asI).bind λd=>(e'.asI).bind λe=>(f'.asL (.st .gX)).bind λf=>(g'.asI).bind λg=>(h'.asI).bind λh=>(i'.asI).bind λi=>(j'.asI).bind λj=>(k'.asL (.int .i64)).bind λk=>(l'.asI).bind λl=>(m'.asI).bind λm=>some ⟨a,b,⟨⟨⟨c,d,e⟩,f⟩,g,⟨⟨h,i,j⟩,k⟩,l⟩,m⟩
 |_=>none
theorem oN (cs:List R) (x:Request) (h:jM cs=some x):tC x=cs:=by
 unfold jM at h;split at h
 ·simp only[An]at h;obtain⟨a,ha,b,hb,c,hc,d,hd,e,he,f,hf,g,hg,h,hh,i,hi,j,hj,k,hk,l,hl,m,hm,h⟩:=h;cases h;rw[R.ai ha,R.ai hb,R.ai hc,R.ai hd,R.ai he,R.cO hf,R.ai hg,R.ai hh,R.ai hi,R.ai hj,R.cO hk,R.ai hl,R.ai hm];rfl
 ·cases h
def v8:List R->Option Step
 |[a',b',c',d',e',f',g',h']=>(a'.asI).bind λa=>(b'.asI).bind λb=>(c'.asI).bind λc=>(d'.asL (.int .u8)).bind λd=>(e'.asI).bind λe=>(f'.asI).bind λf=>(g'.asI).bind λg=>(h'.asL (.int .i64)).bind λh=>some ⟨a,b,c,d,⟨⟨e,f,g⟩,h⟩⟩
 |_=>none
theorem uM (cs:List R) (x:Step) (h:v8 cs=some x):B6 x=cs:=by
 unfold v8 at h;split at h
 ·simp only[An]at h;obtain⟨a,ha,b,hb,c,hc,d,hd,e,he,f,hf,g,hg,h,hh,h⟩:=h;cases h;rw[R.ai ha,R.ai hb,R.ai hc,R.cO hd,R.ai he,R.ai hf,R.ai hg,R.cO hh];rfl
 ·cases h
def p7:List R->Option Event
 |[a',b',c',d',e',f',g']=>(a'.asI).bind λa=>(b'.asI).bind λb=>(c'.asI).bind λc=>(d'.asI).bind λd=>(e'.asI).bind λe=>(f'.asI).bind λf=>(g'.asL (.int .i64)).bind λg=>some ⟨a,b,c,⟨⟨d,e,f⟩,g⟩⟩
 |_=>none
theorem rN (cs:List R) (x:Event) (h:p7 cs=some x):Ai x=cs:=by
 unfold p7 at h;split at h
 ·simp only[An]at h;obtain⟨a,ha,b,hb,c,hc,d,hd,e,he,f,hf,g,hg,h⟩:=h;cases h;rw[R.ai ha,R.ai hb,R.ai hc,R.ai hd,R.ai he,R.ai hf,R.cO hg];rfl
 ·cases h
def p8:List R->Option Entry
 |[a',b',c',d',e',f',g',h',i',j',k',l',m']=>(a'.asI).bind λa=>(b'.asI).bind λb=>(c'.asI).bind λc=>(d'.asI).bind λd=>(e'.asL (.st .gX)).bind λe=>(f'.asI).bind λf=>(g'.asI).bind λg=>(h'.asI).bind λh=>(i'.asL (.int .i64)).bind λi=>(j'.asI).bind λj=>(k'.asI).bind λk=>(l'.asI).bind λl=>(m'.asB).bind λm=>some ⟨a,⟨⟨b,c,d⟩,e⟩,⟨⟨f,g,h⟩,i⟩,j,k,l,m⟩
 |_=>none
theorem rO (cs:List R) (x:Entry) (h:p8 cs=some x):Aj x=cs:=by
 unfold p8 at h;split at h
 ·simp only[An]at h;obtain⟨a,ha,b,hb,c,hc,d,hd,e,he,f,hf,g,hg,h,hh,i,hi,j,hj,k,hk,l,hl,m,hm,h⟩:=h;cases h;rw[R.ai ha,R.ai hb,R.ai hc,R.ai hd,R.cO he,R.ai hf,R.ai hg,R.ai hh,R.cO hi,R.ai hj,R.ai hk,R.ai hl,R.zc hm];rfl
 ·cases h
def v9:List R->Option Wish
 |[a',b',c']=>(a'.asI).bind λa=>(b'.asI).bind λb=>(c'.asI).bind λc=>some ⟨a,b,c⟩
 |_=>none
theorem uN (cs:List R) (x:Wish) (h:v9 cs=some x):v3 x=cs:=by
 unfold v9 at h;split at h
 ·simp only[An]at h;obtain⟨a,ha,b,hb,c,hc,h⟩:=h;cases h;rw[R.ai ha,R.ai hb,R.ai hc];rfl
 ·cases h
def tD:List R->Option vX
 |[a',b',c',d',e']=>(a'.asI).bind λa=>(b'.asT).bind λb=>(c'.asI).bind λc=>(d'.asI).bind λd=>(e'.asI).bind λe=>some ⟨a,b,c,d,e⟩
 |_=>none
theorem rP (cs:List R) (x:vX) (hq:tD cs=some x):v5 x=cs:=by
 unfold tD at hq;split at hq
 ·simp only[An]at hq;obtain⟨a,ha,b,hb,c,hc,d,hd,e,he,hq⟩:=hq;cases hq;rw[R.ai ha,R.oL hb,R.ai hc,R.ai hd,R.ai he];rfl
 ·cases hq
def jN:List R->Option jL
 |[a',b',c',d',e',f',g',h',i',j',k',l',m']=>(a'.asI).bind λa=>(b'.asI).bind λb=>(c'.asI).bind λc=>(d'.asI).bind λd=>(e'.asI).bind λe=>(f'.asT).bind λf=>(g'.asI).bind λg=>(h'.asI).bind λh=>(i'.asI).bind λi=>(j'.asI).bind λj=>(k'.asT).bind λk=>(l'.asI).bind λl=>(m'.asI).bind λm=>some ⟨a,b,c,d,e,f,g,h,i,j,k,l,m⟩
 |_=>none
theorem ng (cs:List R) (x:jL) (hq:jN cs=some x):l7 x=cs:=by
 unfold jN at hq;split at hq
 ·simp only[An]at hq;obtain⟨a,ha,b,hb,c,hc,d,hd,e,he,f,hf,g,hg,h0,hh,i,hi,j,hj,k,hk,l,hl,m,hm,hq⟩:=hq;cases hq;rw[R.ai ha,R.ai hb,R.ai hc,R.ai hd,R.ai he,R.oL hf,R.ai hg,R.ai hh,R.ai hi,R.ai hj,R.oL hk,R.ai hl,R.ai hm];rfl
 ·cases hq
def S.cT:(s:S)->List R->Option s.E
 |.shape=>pZ
 |.gW=>l8
 |.gX=>p5
 |.model=>p6
 |.task=>v7
 |.request=>jM
 |.step=>v8
 |.event=>p7
 |.entry=>p8
 |.wish=>v9
 |.l6=>tD
 |.dv=>jN
def Ty.lq:(t:Ty)->R->Option t.El
 |.int k,.int k' n=>if k'=k then some n else none
 |.bool,.bool b=>some b
 |.str,.str l=>some l
 |.sl t,.sl t' xs=>if h:t'=t then some (h▸xs)else none
 |.tok,.tok n=>some n
 |.hl t,.sl t' xs=>if h:t'=t then some (some (h▸xs))else none
 |_,_=>none
def Ty.cT:(t:Ty)->List R->Option t.El
 |.st s,cs=>s.cT cs
 |.ho s,cs=>(s.cT cs).bind λx=>some (some x)
 |t,[r]=>t.lq r
 |_,_=>none
theorem Ty.rQ (t:Ty) (r:R) (x:t.El) (h:t.lq r=some x):t.cells x=[r]:=by
 cases t with
 |st s=>cases r<;>exact nomatch h
 |int k=>
  cases r with
  |int k' n=>
   replace h:(if k'=k then some n else none)=some x:=h
   split at h
   ·rename_i e;subst e;cases h;rfl
   ·cases h
  |_=>exact nomatch h
 |bool=>
  cases r with
  |bool b=>cases h;rfl
  |_=>exact nomatch h
 |str=>
  cases r with
  |str b=>cases h;rfl
  |_=>exact nomatch h
 |sl t=>
  cases r with
  |sl t' xs=>
   replace h:(if h:t'=t then some (h▸xs)else none)=some x:=h
   split at h
   ·rename_i e;subst e;cases h;rfl
   ·cases h
  |_=>exact nomatch h
 |tok=>
  cases r with
  |tok n=>cases h;rfl
  |_=>exact nomatch h
 |ho s=>cases r<;>exact nomatch h
 |hl t=>
  cases r with
  |sl t' xs=>
   replace h:(if h:t'=t then some (some (h▸xs))else none)=some x:=h
   split at h
   ·rename_i e;subst e;cases h;rfl
   ·cases h
  |_=>exact nomatch h
theorem S.bN (s:S) (cs:List R) (x:s.E) (h:s.cT cs=some x):s.cells x=cs:=by
 cases s
 ·exact rK cs x h
 ·exact p4 cs x h
 ·exact rL cs x h
 ·exact rM cs x h
 ·exact uL cs x h
 ·exact oN cs x h
 ·exact uM cs x h
 ·exact rN cs x h
 ·exact rO cs x h
 ·exact uN cs x h
 ·exact rP cs x h
 ·exact ng cs x h
theorem Ty.bN (t:Ty) (cs:List R) (x:t.El) (h:t.cT cs=some x):t.cells x=cs:=by
 cases t with
 |st s=>exact S.bN s cs x h
 |ho s=>
  replace h:(s.cT cs).bind (λx=>some (some x))=some x:=h
  obtain⟨y,hy,e⟩:=An.1 h;cases e
  exact S.bN s cs y hy
 |_=>
  match cs,h with
  |[r],h=>exact Ty.rQ _ r x h
end
section
inductive SV where
 |r (d:List Nat) (x:R)
 |cG
 |gY
 |own (i:Nat)
 |sub (i off len:Nat)
 |bsl (i n:Nat)
 |ptr (i idx off:Nat)
 |inn (i x c:Nat)
 |ew (d:List Nat) (cs:List R)
 |agg (cs:List SV)
 |tup (vs:List SV)
 |fn (f:Fn) (first cap:List SV)
 |undef
abbrev SV.i (n:Int):SV:=.r [] (.int .i64 n)
abbrev SV.b (b:Bool):SV:=.r [] (.bool b)
inductive Blk where
 |box (cs:List SV)
 |arr (sh:Option (List Nat)) (t:Ty) (xs:List t.El)
abbrev ar:=List (Nat× Blk)
structure St where
 aZ:List (Nat× SV)
 heap:ar
 nid:Nat
 n:Nat
 gh:List (Option Nat):=[]
def look {α:Type}:List (Nat× α)->Nat->Option α
 |[],_=>none
 |(k,v)::l,n=>cond (Nat.beq k n) (some v) (look l n)
def put {α:Type}:List (Nat× α)->Nat->α->List (Nat× α)
 |[],n,v=>[(n,v)]
 |(k,u)::l,n,v=>cond (Nat.beq k n) ((k,v)::l) ((k,u)::put l n v)
def idx {α:Type} (xs:List α) (i:Int):Option α:=cond (decide (0<=i)) xs[i.toNat]? none
def mem (i:Nat):List Nat->Bool
 |[]=>false
 |k::l=>cond (Nat.beq k i) true (mem i l)
def hit (T:List Nat):List Nat->Bool
 |[]=>false
 |k::l=>cond (mem k T) true (hit T l)
abbrev Kil:=List Nat× List Nat
mutual
def SV.az (T:Kil):SV->SV
 |.r d x=>cond (hit T.2 d) .undef (.r d x)
 |.own j=>cond (mem j T.1) .undef (.own j)
 |.sub j o n=>cond (mem j T.1) .undef (.sub j o n)
 |.bsl j n=>cond (mem j T.1) .undef (.bsl j n)
 |.ptr j x o=>cond (mem j T.1) .undef (.ptr j x o)
 |.inn j x c=>cond (mem j T.1||mem j T.2) .undef (.inn j x c)
 |.ew d cs=>cond (hit T.2 d) .undef (.ew d cs)
 |.agg cs=>.agg (dr T cs)
 |.tup cs=>.tup (dr T cs)
 |.fn f a b=>.fn f (dr T a) (dr T b)
 |.cG=>.cG
 |.gY=>.gY
 |.undef=>.undef
def dr (T:Kil):List SV->List SV
 |[]=>[]
 |v::l=>v.az T::dr T l
end
def Blk.az (T:Kil):Blk->Option Blk
 |.box cs=>some (.box (dr T cs))
 |.arr none t xs=>some (.arr none t xs)
 |.arr (some d) t xs=>cond (hit T.2 d) none (some (.arr (some d) t xs))
def l9 (T:Kil):ar->Option ar
 |[]=>some []
 |(k,b)::l=>cond (mem k T.1) (l9 T l) ((b.az T).bind λb=>(l9 T l).bind λl=>some ((k,b)::l))
def tE (T:Kil):List (Nat× SV)->List (Nat× SV)
 |[]=>[]
 |(k,v)::l=>(k,v.az T)::tE T l
def dx (T:Kil) (h:ar):Option ar:=
 match T.2 with
 |[]=>some h
 |_=>l9 T h
def gi (T:Kil) (s:List (Nat× SV)):List (Nat× SV):=
 match T.2 with
 |[]=>s
 |_=>tE T s
def SV.list (h:ar) (t:Ty):SV->Option (List Nat× List t.El)
 |.r d x=>(x.asL t).bind λxs=>some (d,xs)
 |.cG=>some ([],[])
 |.own i=>match look h i with
  |some (.arr sh t' xs)=>if e:t'=t then some (i::sh.getD [],e▸xs)else none
  |_=>none
 |.sub i o n=>match look h i with
  |some (.arr sh t' xs)=>if e:t'=t then some (i::sh.getD [],((e▸xs).drop o).take n)else none
  |_=>none
 |_=>none
def SV.asInt (k:IntKind):SV->Option Int
 |.r _ (.int k' n)=>cond (decide (k'=k)) (some n) none
 |_=>none
def SV.asI:SV->Option Int
 |.r _ (.int _ n)=>some n
 |_=>none
def SV.asB:SV->Option Bool
 |.r _ (.bool b)=>some b
 |_=>none
def SV.asR (h:ar) (t:Ty) (v:SV):Option (List Nat× R):=
 match t with
 |.sl t'=>(v.list h t').bind λp=>some (p.1,.sl t' p.2)
 |.st _=>none
 |.tok=>match v with
  |.r d (.tok n)=>some (d,.tok n)
  |.cG=>some ([],.tok 0)
  |_=>none
 |_=>match v with
  |.r d x=>some (d,x)
  |_=>none
def S.tys:S->List Ty
 |.shape=>[.int .i64,.int .i64,.int .i64]
 |.gW=>[.int .i64,.int .i64,.int .i64,.sl (.int .i64)]
 |.gX=>[.int .i64,.int .i64,.int .i64,.int .i64,.int .i64,.int .i64,.int .i64,.sl (.int .i64),.sl (.int .i64)]
 |.model=>[.int .i64,.int .i64,.int .i64,.sl (.st .gX)]
 |.task=>[.int .i64,.sl (.int .i64),.int .i64,.int .i64,.int .i64]
 |.request=>[.int .i64,.int .i64,.int .i64,.int .i64,.int .i64,.sl (.st .gX),.int .i64,.int .i64,.int .i64,.int .i64,.sl (.int .i64),.int .i64,.int .i64]
 |.step=>[.int .i64,.int .i64,.int .i64,.sl (.int .u8),.int .i64,.int .i64,.int .i64,.sl (.int .i64)]
 |.event=>[.int .i64,.int .i64,.int .i64,.int .i64,.int .i64,.int .i64,.sl (.int .i64)]
 |.entry=>[.int .i64,.int .i64,.int .i64,.int .i64,.sl (.st .gX),.int .i64,.int .i64,.int .i64,.sl (.int .i64),.int .i64,.int .i64,.int .i64,.bool]
 |.wish=>[.int .i64,.int .i64,.int .i64]
 |.l6=>[.int .i64,.tok,.int .i64,.int .i64,.int .i64]
 |.dv=>[.int .i64,.int .i64,.int .i64,.int .i64,.int .i64,.tok,.int .i64,.int .i64,.int .i64,.int .i64,.tok,.int .i64,.int .i64]
def Ty.tys:Ty->List Ty
 |.st s=>s.tys
 |.ho s=>s.tys
 |.hl t=>[.sl t]
 |t=>[t]
def vS (h:ar):List Ty->List SV->Option (List Nat× List R)
 |[],[]=>some ([],[])
 |t::ts,v::vs=>(v.asR h t).bind λp=>(vS h ts vs).bind λq=>some (p.1++q.1,p.2::q.2)
 |_,_=>none
def C3 (h:ar) (t:Ty) (vs:List SV):Option (List Nat× t.El):=
 (vS h t.tys vs).bind λp=>(t.cT p.2).bind λx=>some (p.1,x)
def SV.cells:SV->Option (List SV)
 |.agg cs=>some cs
 |.tup _=>none
 |.undef=>none
 |v=>some [v]
mutual
def SV.ids:SV->List Nat
 |.own i=>[i]
 |.sub i _ _=>[i]
 |.bsl i _=>[i]
 |.ptr i _ _=>[i]
 |.agg cs=>vT cs
 |.tup cs=>vT cs
 |.fn _ a b=>vT a++vT b
 |_=>[]
def vT:List SV->List Nat
 |[]=>[]
 |v::l=>v.ids++vT l
end
def gZ:List Nat->List Nat->List Nat
 |acc,[]=>acc
 |acc,i::l=>cond (mem i acc) (gZ acc l) (gZ (acc++[i]) l)
def Ak (h:ar):List Nat->List Nat
 |[]=>[]
 |i::l=>(match look h i with
  |some (.box cs)=>vT cs
  |_=>[])++Ak h l
def reach (h:ar):Nat->List Nat->List Nat
 |0,L=>L
 |n+1,L=>reach h n (gZ L (Ak h L))
def kF:Value->Option SV
 |.bool b=>some (.b b)
 |.int k n=>some (.r [] (.int k n))
 |.string s=>some (.r [] (.str s.data.toList))
 |.slice none 0 0=>some .cG
 |.pointer none=>some .gY
 |_=>none
def nz:List Value->Option (List SV)
 |[]=>some []
 |v::l=>(kF v).bind λx=>(nz l).bind λxs=>some (x::xs)
def tF:Value->Option SV
 |.agg cs=>(nz cs.toList).bind λl=>some (.agg l)
 |v=>kF v
def opd (aZ:List (Nat× SV)):Operand->Option SV
 |.tmp t=>look aZ t
 |.const v=>tF v
 |.func f=>some (.fn (.func f) [] [])
 |.global _=>none
def jn (aZ:List (Nat× SV)):List Operand->Option (List SV)
 |[]=>some []
 |x::l=>(opd aZ x).bind λv=>(jn aZ l).bind λvs=>some (v::vs)
end
section
abbrev TT:=TypeId->Option Ty
def fc:Nat:=2^38
def ma (P:Program) (T:TypeId):Bool:=
 match P.underlying T with
 |some (.struct _)=>true
 |some (.array _ _)=>true
 |_=>false
def eN (P:Program) (T:TypeId):Option TypeId:=
 match P.underlying T with
 |some (.slice e)=>some e
 |_=>none
def kG (P:Program) (T:TypeId) (f:Nat):Option Field:=
 match P.underlying T with
 |some (.struct fs)=>(fs[f]?).bind λf=>(P.info? f.type).bind λi=>cond (Nat.beq i.size 0) none (some f)
 |_=>none
def dy (P:Program) (T:TypeId):Option Nat:=(P.info? T).bind λi=>some i.size
def jO (P:Program):List Field->Option (List (Nat× Nat))
 |[]=>some []
 |f::fs=>(dy P f.type).bind λs=>(jO P fs).bind λl=>some ((f.offset,s)::l)
def takeN {α:Type} (n:Nat) (l:List α):Option (List α):=cond (Nat.ble n l.length) (some (l.take n)) none
def dz (P:Program) (T:TypeId) (cs:List SV):Option SV:=
  (P.underlying T).bind λ_=>(P.info? T).bind λi=>(takeN i.size cs).bind λl=>
    cond (ma P T) (some (.agg l)) (match l with|[v]=>some v|_=>none)
def mkR (d:List Nat):R->SV
 |.sl t xs=>.r d (.sl t xs)
 |x=>.r [] x
def wc (i:Nat):Option (List Nat)->List Nat
 |none=>[i]
 |some d=>d
def eO (h:ar):SV->Option (List SV)
 |.ew d cs=>some (cs.map (mkR d))
 |.ptr i x o=>match look h i with
  |some (.box cs)=>some (cs.drop o)
  |some (.arr sh t xs)=>(xs[x]?).bind λe=>some (((t.cells e).map (mkR (wc i sh))).drop o)
  |_=>none
 |_=>none
def cU (P:Program) (T:TypeId):Option (List SV):=
 (P.info? T).bind λi=>i.zero.bind λz=>(tF z).bind λv=>v.cells
def gQ (place:Nat->Option (Nat× Nat)):List SV->List (Nat× SV)->Option (List SV)
 |cs,[]=>some cs
 |cs,(k,v)::l=>(place k).bind λp=>v.cells.bind λvs=>
   cond (Nat.beq vs.length p.2) (cond (Nat.ble (p.1+vs.length) cs.length) (gQ place (cs.take p.1++vs++cs.drop (p.1+vs.length)) l) none) none
def BP (op:BinOp) (k:IntKind) (a b:Int):Option R:=
 match op with
 |.add=>some (.int k (k.wrap (a+b)))
 |.sub=>some (.int k (k.wrap (a-b)))
 |.mul=>some (.int k (k.wrap (a*b)))
 |.quo=>cond (decide (b=0)) none (some (.int k (k.wrap (a.tdiv b))))
 |.rem=>cond (decide (b=0)) none (some (.int k (a.tmod b)))
 |.and=>some (.int k (k.wrap (BitVec.ofInt k.bits a&&& BitVec.ofInt k.bits b).toNat))
 |.or=>some (.int k (k.wrap (BitVec.ofInt k.bits a||| BitVec.ofInt k.bits b).toNat))
 |.xor=>some (.int k (k.wrap (BitVec.ofInt k.bits a^^^ BitVec.ofInt k.bits b).toNat))
 |.eql=>some (.bool (a==b))
 |.neq=>some (.bool (a !=b))
 |.lss=>some (.bool (decide (a<b)))
 |.leq=>some (.bool (decide (a<=b)))
 |.gtr=>some (.bool (decide (a>b)))
 |.geq=>some (.bool (decide (a>=b)))
 |_=>none
def p9 (op:BinOp) (k:IntKind) (a b:Int):Option R:=
  cond (decide (b<0)) none
    (match op with
     |.shl=>some (.int k (k.wrap (a*2^(min b.toNat k.bits))))
     |.shr=>some (.int k (a.fdiv (2^(min b.toNat k.bits))))
     |_=>none)
def B7 (op:BinOp) (a b:List UInt8):Option R:=
 match op with
 |.add=>cond (decide (a.length+b.length<=fc)) (some (.str (a++b))) none
 |.eql=>some (.bool (a==b))
 |.neq=>some (.bool (!(a==b)))
 |.lss=>some (.bool (Op.bytesLess a b))
 |.leq=>some (.bool (Op.bytesLess a b||a==b))
 |.gtr=>some (.bool (!(Op.bytesLess a b||a==b)))
 |.geq=>some (.bool (!(Op.bytesLess a b)))
 |_=>none
def zd (P:Program) (xs ys:List SV):List Field->Option Bool
 |[]=>some true
 |f::fs=>cond (decide (f.name= "_")) none (match P.underlying f.type,xs[f.offset]?,ys[f.offset]? with
  |some (.int _),some (.r _ (.int k a)),some (.r _ (.int l b))=>cond (decide (k=l)) ((zd P xs ys fs).bind λt=>some (cond (a==b) t false)) none
  |_,_,_=>none)
def B8 (P:Program) (T:TypeId) (xs ys:List SV):Option Bool:=
 cond (P.stoodInHeld T) none (cond (P.eqGuardType P.depth T) none (match P.underlying T with
  |some (.struct fs)=>zd P xs ys fs.toList
  |_=>none))
def we:BinOp->Bool
 |.shl|.shr=>true
 |_=>false
def isEq:BinOp->Option Bool
 |.eql=>some true
 |.neq=>some false
 |_=>none
def bin (P:Program) (T:TypeId) (op:BinOp) (x y:SV):Option SV:=
 match x,y with
 |.r _ (.int k a),.r _ (.int l b)=>cond (we op) ((p9 op k a b).bind λr=>some (.r [] r)) (cond (decide (k=l)) ((BP op k a b).bind λr=>some (.r [] r)) none)
 |.r _ (.str a),.r _ (.str b)=>(B7 op a b).bind λr=>some (.r [] r)
 |.r _ (.bool a),.r _ (.bool b)=>match P.underlying T with
  |some .bool=>(isEq op).bind λe=>some (.b (cond e (a==b) (!(a==b))))
  |_=>none
 |.agg a,.agg b=>(isEq op).bind λe=>(B8 P T a b).bind λt=>some (.b (cond e t (!t)))
 |_,_=>none
def un (op:UnOp) (x:SV):Option SV:=
 match op,x with
 |.neg,.r _ (.int k n)=>some (.r [] (.int k (k.wrap (0-n))))
 |.not,.r _ (.bool b)=>some (.b (!b))
 |_,_=>none
def lenOf (h:ar):SV->Option Nat
 |.r _ (.str l)=>some l.length
 |.r _ (.sl _ xs)=>some xs.length
 |.cG=>some 0
 |.own i=>match look h i with
  |some (.arr _ _ xs)=>some xs.length
  |_=>none
 |.sub _ _ n=>some n
 |.bsl _ n=>some n
 |_=>none
def C4 (P:Program) (T:TypeId):SV->Bool
 |.r _ (.str _)=>match P.underlying T with
  |some .string=>true
  |_=>false
 |_=>match P.underlying T with
  |some (.slice _)=>true
  |_=>false
def bounds (n:Nat) (lo hi:Option SV):Option (Nat× Nat):=
  (match hi with
   |none=>some n
   |some v=>v.asI.bind λx=>cond (decide (0<=x/\x<=(n:Int))) (some x.toNat) none).bind λh=>
  (match lo with
   |none=>some 0
   |some v=>v.asI.bind λx=>cond (decide (0<=x/\x<=(h:Int))) (some x.toNat) none).bind λl=>some (l,h)
def slT (P:Program) (T:TypeId) (t:Ty):Bool:=
 match P.underlying T with
 |some (.slice e)=>match dy P e with
  |some n=>Nat.beq n t.sz
  |none=>false
 |_=>false
def tG (P:Program) (T:TypeId):Bool:=
 match P.underlying T with
 |some (.slice e)=>(dy P e).isSome
 |_=>false
def isStr (P:Program) (T:TypeId):Bool:=
 match P.underlying T with
 |some .string=>true
 |_=>false
def Di (n m:Nat):Option SV->Nat
 |none=>n
 |some _=>m
def dN (P:Program) (T:TypeId) (h:ar) (x:SV) (lo hi:Option SV):Option SV:=
 match x with
 |.r d (.str l)=>cond (isStr P T) ((bounds l.length lo hi).bind λb=>some (.r d (.str ((l.take b.2).drop b.1)))) none
 |.r d (.sl t xs)=>cond (slT P T t) ((bounds xs.length lo hi).bind λb=>some (.r d (.sl t ((xs.take b.2).drop b.1)))) none
 |.cG=>cond (tG P T) ((bounds 0 lo hi).bind λ_=>some .cG) none
 |.own i=>match look h i with
  |some (.arr _ t xs)=>cond (slT P T t) ((bounds xs.length lo hi).bind λb=>some (.sub i b.1 (b.2-b.1))) none
  |_=>none
 |.sub i o n=>match look h i with
  |some (.arr _ t xs)=>cond (slT P T t) ((bounds (Di n (xs.length-o) hi) lo hi).bind λb=>some (.sub i (o+b.1) (b.2-b.1))) none
  |_=>none
 |_=>none
def slN (P:Program) (T:TypeId) (h:ar) (x:SV):Option Nat:=
 match x with
 |.r _ (.sl t xs)=>cond (slT P T t) (some xs.length) none
 |.own i=>match look h i with
  |some (.arr _ t xs)=>cond (slT P T t) (some xs.length) none
  |_=>none
 |_=>none
def lN (P:Program) (T:TypeId) (h:ar) (x:SV) (lo:Option SV) (hi m:SV):Option SV:=
 (slN P T h x).bind λn=>m.asI.bind λz=>cond (decide (0<=z/\z<=(n:Int))) ((bounds z.toNat lo (some hi)).bind λ_=>some .undef) none
def aY (P:Program) (T:TypeId) (h:ar) (x:SV) (k:Int):Option SV:=
 match x with
 |.r d (.sl t xs)=>cond (slT P T t) ((idx xs k).bind λe=>some (.ew d (t.cells e))) none
 |.own i=>match look h i with
  |some (.arr _ t xs)=>cond (slT P T t) (cond (decide (0<=k/\k<(xs.length:Int))) (some (.ptr i k.toNat 0)) none) none
  |_=>none
 |.sub i o n=>match look h i with
  |some (.arr _ t _)=>cond (slT P T t) (cond (decide (0<=k/\k<(n:Int))) (some (.ptr i (o+k.toNat) 0)) none) none
  |_=>none
 |.bsl i n=>(eN P T).bind λe=>(dy P e).bind λsz=>cond (decide (0<=k/\k<(n:Int))) (some (.ptr i 0 (k.toNat*sz))) none
 |_=>none
def wg (P:Program) (src dst:TypeId) (x:SV):Option SV:=
 match P.underlying src,P.underlying dst,x with
 |some (.int _),some (.int k),.r _ (.int _ n)=>some (.r [] (.int k (k.wrap n)))
 |some .string,some .string,.r _ (.str l)=>some (.r [] (.str l))
 |_,_,_=>none
def lr (P:Program) (T:TypeId):Bool:=
 match eN P T with
 |some e=>match P.underlying e with
  |some (.int .u8)=>true
  |_=>false
 |none=>false
def bytesOf (l:List Int):List UInt8:=l.map λn=>UInt8.ofNat n.toNat
def yQ (aZ:List (Nat× SV)):Option Operand->Option (Option SV)
 |none=>some none
 |some x=>(opd aZ x).bind λv=>some (some v)
def hJ (aZ:List (Nat× SV)):List (Nat× Operand)->Option (List (Nat× SV))
 |[]=>some []
 |(k,x)::l=>(opd aZ x).bind λv=>(hJ aZ l).bind λvs=>some ((k,v)::vs)
def dg (P:Program) (s:List (Nat× SV)) (h:ar) (op:Op):Option SV:=
 match op with
 |.move x|.assign x=>opd s x
 |.pick c a b=>(opd s c).bind λc=>c.asB.bind λc=>cond c (opd s a) (opd s b)
 |.build T parts=>
  match P.underlying T with
  |some (.struct fs)=>(jO P fs.toList).bind λpl=>(cU P T).bind λz=>(hJ s parts.toList).bind λps=>
   (gQ (λk=>pl[k]?) z ps).bind λcs=>some (.agg cs)
  |_=>none
 |.load T a=>(opd s a).bind λa=>(eO h a).bind λcs=>dz P T cs
 |.nilCheck x=>(opd s x).bind λv=>match v with
  |.ptr i x o=>some (.ptr i x o)
  |.ew d cs=>some (.ew d cs)
  |_=>none
 |.binOp op T x y _=>(opd s x).bind λx=>(opd s y).bind λy=>bin P T op x y
 |.unOp op _ x=>(opd s x).bind λx=>un op x
 |.convert src dst x=>(opd s x).bind λx=>cond (lr P src&&isStr P dst) ((x.list h (.int .u8)).bind λp=>some (.r [] (.str (bytesOf p.2)))) (wg P src dst x)
 |.makeFunc fn first cap=>(jn s first.toList).bind λa=>(jn s cap.toList).bind λb=>some (.fn fn a b)
 |.slice T x lo hi none=>(opd s x).bind λx=>(yQ s lo).bind λlo=>(yQ s hi).bind λhi=>dN P T h x lo hi
 |.slice T x lo (some hi) (some m)=>(opd s x).bind λx=>(yQ s lo).bind λlo=>(opd s hi).bind λhi=>(opd s m).bind λm=>lN P T h x lo hi m
 |.fieldAddr T x f=>(opd s x).bind λx=>(kG P T f).bind λf=>match x with
  |.ew d cs=>some (.ew d (cs.drop f.offset))
  |.ptr i k o=>some (.ptr i k (o+f.offset))
  |_=>none
 |.field T x f=>(opd s x).bind λx=>(kG P T f).bind λf=>match x with
  |.agg cs=>dz P f.type (cs.drop f.offset)
  |_=>none
 |.indexAddr T x k=>(opd s x).bind λx=>(opd s k).bind λk=>k.asI.bind λk=>aY P T h x k
 |.index T x k=>(opd s x).bind λx=>(opd s k).bind λk=>k.asI.bind λk=>match x with
  |.r _ (.str l)=>cond (isStr P T) ((idx l k).bind λc=>some (.r [] (.int .u8 c.toNat))) none
  |_=>none
 |.extract x k=>(opd s x).bind λx=>match x with
  |.tup vs=>vs[k]?
  |_=>none
 |.call {callee:=.builtin .len,args,argTypes}=>(jn s args.toList).bind λvs=>match vs,argTypes.toList with
  |[v],T::_=>cond (C4 P T v) ((lenOf h v).bind λn=>some (.i n)) none
  |_,_=>none
 |.call {callee:=.builtin .cap,args,argTypes}=>(jn s args.toList).bind λvs=>match vs,argTypes.toList with
  |[.cG],T::_=>cond (tG P T) (some (.i 0)) none
  |_,_=>none
 |.call {callee:=.builtin .min,args,.. }=>(jn s args.toList).bind λvs=>match vs with
  |[.r _ (.int k a),.r _ (.int _ b)]=>some (.r [] (.int k (if b<a then b else a)))
  |[.r _ (.int k a),.r _ (.int _ b),.r _ (.int _ c)]=>some (.r [] (.int k (if c<(if b<a then b else a)then c else(if b<a then b else a))))
  |_=>none
 |.call {callee:=.builtin .max,args,.. }=>(jn s args.toList).bind λvs=>match vs with
  |[.r _ (.int k a),.r _ (.int _ b)]=>some (.r [] (.int k (if b>a then b else a)))
  |_=>none
 |_=>none
def oO {α:Type} (h:ar) (v:SV) (K:List SV->Option α):Option α:=
 match v with
 |.ew d cs=>K (cs.map (mkR d))
 |.ptr i x o=>match look h i with
  |some (.box cs)=>K (cs.drop o)
  |some (.arr sh t xs)=>(xs[x]?).bind λe=>K (((t.cells e).map (mkR (wc i sh))).drop o)
  |_=>none
 |_=>none
def AG {α:Type} (op:BinOp) (k:IntKind) (a b:Int) (K:R->Option α):Option α:=
 match op with
 |.quo=>cond (decide (b=0)) none (K (.int k (k.wrap (a.tdiv b))))
 |.rem=>cond (decide (b=0)) none (K (.int k (a.tmod b)))
 |op=>(BP op k a b).bind K
def rR {α:Type} (op:BinOp) (k:IntKind) (a b:Int) (K:R->Option α):Option α:=
  cond (decide (b<0)) none
    (match op with
     |.shl=>K (.int k (k.wrap (a*2^(min b.toNat k.bits))))
     |.shr=>K (.int k (a.fdiv (2^(min b.toNat k.bits))))
     |_=>none)
def AH {α:Type} (op:BinOp) (a b:List UInt8) (K:R->Option α):Option α:=
 match op with
 |.add=>cond (decide (a.length+b.length<=fc)) (K (.str (a++b))) none
 |op=>(B7 op a b).bind K
def Dj {α:Type} (P:Program) (T:TypeId) (op:BinOp) (x y:SV) (K:SV->Option α):Option α:=
 match x,y with
 |.r _ (.int k a),.r _ (.int l b)=>cond (we op) (rR op k a b λr=>K (.r [] r)) (cond (decide (k=l)) (AG op k a b λr=>K (.r [] r)) none)
 |.r _ (.str a),.r _ (.str b)=>AH op a b λr=>K (.r [] r)
 |x,y=>(bin P T op x y).bind K
def hY {α:Type} (n:Nat) (lo hi:Option SV) (K:Nat->Nat->Option α):Option α:=
 let lower (h:Nat):Option α:=match lo with
  |none=>K 0 h
  |some v=>v.asI.bind λx=>cond (decide (0<=x/\x<=(h:Int))) (K x.toNat h) none
 match hi with
 |none=>lower n
 |some v=>v.asI.bind λx=>cond (decide (0<=x/\x<=(n:Int))) (lower x.toNat) none
def wi {α:Type} (P:Program) (T:TypeId) (h:ar) (x:SV) (lo hi:Option SV) (K:SV->Option α):Option α:=
 match x with
 |.r d (.str l)=>cond (isStr P T) (hY l.length lo hi λa b=>K (.r d (.str ((l.take b).drop a)))) none
 |.r d (.sl t xs)=>cond (slT P T t) (hY xs.length lo hi λa b=>K (.r d (.sl t ((xs.take b).drop a)))) none
 |.cG=>cond (tG P T) (hY 0 lo hi λ_ _=>K .cG) none
 |.own i=>match look h i with
  |some (.arr _ t xs)=>cond (slT P T t) (hY xs.length lo hi λa b=>K (.sub i a (b-a))) none
  |_=>none
 |.sub i o n=>match look h i with
  |some (.arr _ t xs)=>cond (slT P T t) (hY (Di n (xs.length-o) hi) lo hi λa b=>K (.sub i (o+a) (b-a))) none
  |_=>none
 |_=>none
def kH {α:Type} (P:Program) (T:TypeId) (h:ar) (x:SV) (k:Int) (K:SV->Option α):Option α:=
 match x with
 |.r d (.sl t xs)=>cond (slT P T t) ((idx xs k).bind λe=>K (.ew d (t.cells e))) none
 |.own i=>match look h i with
  |some (.arr _ t xs)=>cond (slT P T t) (cond (decide (0<=k/\k<(xs.length:Int))) (K (.ptr i k.toNat 0)) none) none
  |_=>none
 |.sub i o n=>match look h i with
  |some (.arr _ t _)=>cond (slT P T t) (cond (decide (0<=k/\k<(n:Int))) (K (.ptr i (o+k.toNat) 0)) none) none
  |_=>none
 |x=>(aY P T h x k).bind K
def qa {α:Type} (P:Program) (T:TypeId) (h:ar) (x:SV) (lo:Option SV) (hi m:SV) (K:SV->Option α):Option α:=
 (slN P T h x).bind λn=>m.asI.bind λz=>cond (decide (0<=z/\z<=(n:Int))) (hY z.toNat lo (some hi) λ_ _=>K .undef) none
def gj {α:Type} (P:Program) (s:List (Nat× SV)) (h:ar) (op:Op) (K:SV->Option α):Option α:=
 match op with
 |.load T a=>(opd s a).bind λa=>oO h a λcs=>(dz P T cs).bind K
 |.binOp op T x y _=>(opd s x).bind λx=>(opd s y).bind λy=>Dj P T op x y K
 |.slice T x lo hi none=>(opd s x).bind λx=>(yQ s lo).bind λlo=>(yQ s hi).bind λhi=>wi P T h x lo hi K
 |.slice T x lo (some hi) (some m)=>(opd s x).bind λx=>(yQ s lo).bind λlo=>(opd s hi).bind λhi=>(opd s m).bind λm=>qa P T h x lo hi m K
 |.indexAddr T x k=>(opd s x).bind λx=>(opd s k).bind λk=>k.asI.bind λk=>kH P T h x k K
 |.index T x k=>(opd s x).bind λx=>(opd s k).bind λk=>k.asI.bind λk=>match x with
  |.r _ (.str l)=>cond (isStr P T) ((idx l k).bind λc=>K (.r [] (.int .u8 c.toNat))) none
  |_=>none
 |op=>(dg P s h op).bind K
theorem cI {α β:Type} (b:Bool) (x y:Option α) (K:α->Option β):(cond b x y).bind K=cond b (x.bind K) (y.bind K):=by cases b<;>rfl
theorem rS {α:Type} (h:ar) (v:SV) (K:List SV->Option α):oO h v K=(eO h v).bind K:=by
 unfold oO eO;grind
theorem ze {α:Type} (op:BinOp) (k:IntKind) (a b:Int) (K:R->Option α):AG op k a b K=(BP op k a b).bind K:=by
 unfold AG;split
 ·show _=(cond _ none (some _)).bind K;rw[cI];rfl
 ·show _=(cond _ none (some _)).bind K;rw[cI];rfl
 ·rfl
theorem uO {α:Type} (op:BinOp) (k:IntKind) (a b:Int) (K:R->Option α):rR op k a b K=(p9 op k a b).bind K:=by
 unfold rR p9;grind
theorem zf {α:Type} (op:BinOp) (a b:List UInt8) (K:R->Option α):AH op a b K=(B7 op a b).bind K:=by
 unfold AH;split
 ·show _=(cond _ (some _) none).bind K;rw[cI];rfl
 ·rfl
theorem AJ {α:Type} (P:Program) (T:TypeId) (op:BinOp) (x y:SV) (K:SV->Option α):Dj P T op x y K=(bin P T op x y).bind K:=by
 unfold Dj;split
 ·simp only[bin,cI,uO,ze,E3,ET,Fj]
 ·simp only[bin,zf,E3,ET]
 ·rfl
theorem eG {α:Type} (n:Nat) (lo hi:Option SV) (K:Nat->Nat->Option α):hY n lo hi K=(bounds n lo hi).bind λb=>K b.1 b.2:=by
 unfold hY bounds;cases hi<;>cases lo<;>simp only[E3,ET,cI,Fj]
theorem wj {α:Type} (P:Program) (T:TypeId) (h:ar) (x:SV) (lo hi:Option SV) (K:SV->Option α):wi P T h x lo hi K=(dN P T h x lo hi).bind K:=by
 unfold wi dN;split
 ·simp only[cI,eG,E3,ET,Fj]
 ·simp only[cI,eG,E3,ET,Fj]
 ·simp only[cI,eG,E3,ET,Fj]
 ·split
  ·simp only[cI,eG,E3,ET,Fj]
  ·rfl
 ·split
  ·simp only[cI,eG,E3,ET,Fj]
  ·rfl
 ·rfl
theorem oQ {α:Type} (P:Program) (T:TypeId) (h:ar) (x:SV) (k:Int) (K:SV->Option α):kH P T h x k K=(aY P T h x k).bind K:=by
 unfold kH;split
 ·simp only[aY,cI,E3,ET,Fj]
 ·simp only[aY];grind
 ·simp only[aY];grind
 ·rfl
theorem gl {α:Type} (P:Program) (s:List (Nat× SV)) (h:ar) (op:Op) (K:SV->Option α):gj P s h op K=(dg P s h op).bind K:=by
 unfold gj;split
 ·simp only[dg,rS,E3]
 ·simp only[dg,AJ,E3]
 ·simp only[dg,wj,E3]
 ·simp only[dg,qa,lN,eG,E3,cI,ET,Fj]
 ·simp only[dg,oQ,E3]
 ·simp only[dg,E3];grind
 ·rfl
structure CR where
 v:SV
 news:List Blk:=[]
 upd:ar:=[]
 gone:List Nat:=[]
 eP:List Nat:=[]
def CR.kil (c:CR):Kil:=(c.gone,c.gone++c.eP)
abbrev Out:=SV× List Blk
abbrev Orc:=(ρ:Type)->Nat->List SV->ar->(CR->Option ρ)->Option ρ
def B9:Orc:=λ_ _ _ _ _=>none
def aA:Nat->List Blk->ar
 |_,[]=>[]
 |n,b::l=>(n,b)::aA (n+1) l
inductive Co where
 |wm (sh:Bool) (t:Ty)
 |ro (t:Ty)
 |drop
 |dep (j:Nat)
 |AK (t j:Nat)
inductive cu where
 |slot (t:Nat)
 |cell (t j:Nat)
 |box (i j:Nat)
 |DU (t j:Nat)
 |gh (k:Nat)
def coV (n:Nat) (h:ar):Co->SV->SV× List Blk
 |.wm sh t,.cG=>(.own n,[.arr (cond sh (some []) none) t []])
 |.ro t,v=>match v.list h t with
  |some p=>(.r p.1 (.sl t p.2),[])
  |none=>(v,[])
 |.drop,_=>(.undef,[])
 |.dep j,.r d x=>(.r (cond (mem j d) d (d++[j])) x,[])
 |_,v=>(v,[])
def zg (st:St) (i j:Nat) (c:Co):St:=
 match look st.heap i with
 |some (.box cs)=>match cs[j]? with
  |some v=>{st with heap:=put (st.heap++aA st.nid (coV st.nid st.heap c v).2) i (.box (cs.set j (coV st.nid st.heap c v).1)),nid:=st.nid+(coV st.nid st.heap c v).2.length}
  |none=>st
 |_=>st
def qb (st:St):cu× Co->St
  | (.slot t, c) => match look st.aZ t with
    |some v=>{st with aZ:=put st.aZ t (coV st.nid st.heap c v).1,heap:=st.heap++aA st.nid (coV st.nid st.heap c v).2,nid:=st.nid+(coV st.nid st.heap c v).2.length}
    |none=>st
  | (.cell t j, c) => match look st.aZ t with
    | some (.agg cs) => match cs[j]? with
      |some v=>{st with aZ:=put st.aZ t (.agg (cs.set j (coV st.nid st.heap c v).1)),heap:=st.heap++aA st.nid (coV st.nid st.heap c v).2,nid:=st.nid+(coV st.nid st.heap c v).2.length}
      |none=>st
    |_=>st
  |(.box i j,c)=>zg st i j c
  | (.DU t j, c) => match look st.aZ t with
    |some (.ptr i _ _)=>zg st i j c
    |_=>st
  |(.gh k,_)=>{st with gh:=st.gh.set k none}
def Dk (st:St):Co->Co
 |.AK t j=>match look st.aZ t with
  |some (.ptr i _ _)=>match look st.heap i with
   |some (.box cs)=>match cs[j]? with
    |some (.own k)=>.dep k
    |_=>.dep 0
   |_=>.dep 0
  |_=>.dep 0
 |c=>c
def Ca (st:St) (x:cu× Co):St:=qb st (x.1,Dk st x.2)
def wo:List (cu× Co)->St->St
 |[],st=>st
 |x::l,st=>wo l (Ca st x)
structure Env where
 P:Program
 tt:TT
 orc:FuncId->Orc
 wr:FuncId->Bool:=λ_=>false
 wt:Bool:=false
 inn:Bool:=false
 fz:Nat->List (Bool× Nat× List Nat):=λ_=>[]
 wk:Nat->List (cu× Co):=λ_=>[]
 lit:Bool:=false
 tak:Bool:=false
 tkt:List Nat:=[]
 swp:Bool:=false
def je:ar->ar->ar
 |[],h=>h
 |(k,b)::l,h=>je l (put h k b)
def Cb (s:List (Nat× SV)) (n:Nat) (dst:Option Tmp) (v:SV):Option (List (Nat× SV)):=
 match dst with
 |some t=>cond (Nat.ble (t+1) n) (some (put s t v)) none
 |none=>some s
def St.take (st:St) (dst:Option Tmp) (c:CR):Option St:=
  (dx c.kil (je c.upd st.heap)).bind λh=>(Cb (gi c.kil st.aZ) st.n dst c.v).bind λs=>
    some {st with aZ:=s,heap:=h++aA st.nid c.news,nid:=st.nid+c.news.length}
def setCells (cs:List SV) (o:Nat) (vs:List SV):Option (List SV):=
 cond (Nat.ble (o+vs.length) cs.length) (some (cs.take o++vs++cs.drop (o+vs.length))) none
def hZ:Ty->Bool
 |.sl _=>false
 |.ho _|.hl _=>false
 |.st .shape|.st .wish|.st .l6|.st .dv=>true
 |.st _=>false
 |_=>true
def isNil {α:Type}:List α->Bool
 |[]=>true
 |_=>false
def uP (h:ar) (t:Ty):Nat->List SV->Option (List Nat× List t.El)
 |0,_=>some ([],[])
 |n+1,cs=>(C3 h t (cs.take t.sz)).bind λp=>(uP h t n (cs.drop t.sz)).bind λq=>some (p.1++q.1,p.2::q.2)
def SV.vU (h:ar) (t:Ty) (v:SV):Option (List Nat× R):=
 match t with
 |.sl t'=>match v with
  |.cG=>some ([],.sl t' [])
  |.own i=>match look h i with
   |some (.arr none t1 xs)=>if e:t1=t' then some ([i],.sl t' (e▸xs))else none
   |_=>none
  |_=>none
 |.st _=>none
 |.tok=>match v with
  |.r _ (.tok n)=>some ([],.tok n)
  |.cG=>some ([],.tok 0)
  |_=>none
 |_=>match v with
  |.r _ (.int k n)=>some ([],.int k n)
  |.r _ (.bool b)=>some ([],.bool b)
  |.r _ (.str l)=>some ([],.str l)
  |_=>none
def rT (h:ar):List Ty->List SV->Option (List Nat× List R)
 |[],[]=>some ([],[])
 |t::ts,v::vs=>(v.vU h t).bind λp=>(rT h ts vs).bind λq=>some (p.1++q.1,p.2::q.2)
 |_,_=>none
def dA (h:ar) (t:Ty):Nat->List SV->Option (List Nat× List t.El)
 |0,_=>some ([],[])
 |n+1,cs=>(rT h t.tys (cs.take t.sz)).bind λp=>(t.cT p.2).bind λx=>(dA h t n (cs.drop t.sz)).bind λq=>some (p.1++q.1,x::q.2)
def gR:List Nat->Bool
 |[]=>true
 |i::l=>cond (mem i l) false (gR l)
def qc (h:ar):List SV->Option Bool
 |[]=>some true
 |.own i::l=>(look h i).bind λb=>match b with
  |.arr none _ _=>qc h l
  |.arr (some _) _ _=>some false
  |.box _=>none
 |.r _ (.sl _ _)::_=>some false
 |.sub _ _ _::_=>some false
 |.bsl _ _::_=>some false
 |_::l=>qc h l
def tH (h:ar) (t:Ty) (n:Nat) (cs:List SV):Option (Option (List Nat)× List Nat× List t.El):=
 (qc h cs).bind λb=>cond b ((dA h t n cs).bind λq=>cond (gR q.1) (some (none,q.1,q.2)) none) ((uP h t n cs).bind λq=>some (some q.1,[],q.2))
def gS (h:ar):SV->List Nat->List Nat
 |.own i,d=>match look h i with
  |some (.arr (some d') _ _)=>d'
  |_=>d
 |_,d=>d
def jo (h:ar) (t:Ty) (v:SV):Option (Option (List Nat)× List Nat× List t.El):=
 match v with
 |.bsl i n=>match look h i with
  |some (.box cs)=>(tH h t n cs).bind λq=>some (q.1,i::q.2.1,q.2.2)
  |_=>none
 |_=>(v.list h t).bind λp=>cond (hZ t) (some (none,[],p.2)) (some (some (gS h v p.1),[],p.2))
def tI (a b:Option (List Nat)):Option (Option (List Nat)):=
 match a,b with
 |none,none=>some none
 |some d,some d'=>some (some (d++d'))
 |some d,none=>some (some d)
 |none,some d=>some (some d)
def ia (P:Program) (T:TypeId):Bool:=
 match P.info? T with
 |some i=>Nat.ble i.bytes 512
 |none=>false
def Cc (E:Env) (s:List (Nat× SV)) (h:ar) (T:TypeId) (a:Operand):Option SV:=
 cond E.inn (cond (tG E.P T) (match opd s a with
  |some (.ptr i x o)=>match look h i with
   |some (.arr none t _)=>cond (Nat.ble (o+1) t.sz) (some (.inn i x o)) none
   |_=>none
  |_=>none) none) none
def jP {α:Type} (xs:List α) (x:Nat):List (Option α):=(xs.map some).set x none
def gT {α:Type}:List (Option α)->Option (List α)
 |[]=>some []
 |none::_=>none
 |some x::l=>(gT l).bind λl=>some (x::l)
def jQ (n:Nat):List R->List SV
 |[]=>[]
 |.sl _ _::l=>.own n::jQ (n+1) l
 |r::l=>.r [] r::jQ n l
def ff:List R->List Blk
 |[]=>[]
 |.sl t ys::l=>.arr none t ys::ff l
 |_::l=>ff l
def Ce (P:Program) (s:List (Nat× SV)) (h:ar) (src dst:TypeId) (x:Operand):Option Nat:=
 cond (Nat.beq src dst&&lr P src) (match opd s x with
  |some (.own i)=>match look h i with
   |some (.arr _ _ (_::_))=>some i
   |_=>none
  |_=>none) none
def rU (h:ar):SV->Option (Nat× Nat× Nat)
 |.sub i o n=>some (i,o,n)
 |.own i=>match look h i with
  |some (.arr _ _ xs)=>some (i,0,xs.length)
  |_=>none
 |_=>none
variable {ρ:Type}
def lP (P:Program) (T:TypeId) (h:ar) (i:Nat) (sh:Option (List Nat)) (t:Ty) (ys:List t.El) (k o:Nat) (x:SV) (K:CR->Option ρ):Option ρ:=
 x.cells.bind λxs=>(dy P T).bind λsz=>cond (Nat.beq sz xs.length&&Nat.ble (o+sz) t.sz) (
  match sh with
  |none=>(rT h ((t.tys.drop o).take sz) xs).bind λp=>cond (gR (i::p.1)) (
    cond (Nat.beq sz t.sz)
     ((t.cT p.2).bind λy=>K {v:=.undef,upd:=[(i,.arr none t (ys.set k y))],gone:=p.1,eP:=[i]})
     ((ys[k]?).bind λe=>(t.cT ((t.cells e).take o++p.2++(t.cells e).drop (o+sz))).bind λy=>K {v:=.undef,upd:=[(i,.arr none t (ys.set k y))],gone:=p.1,eP:=[i]})) none
  |some d=>(vS h ((t.tys.drop o).take sz) xs).bind λp=>cond (mem i p.1) none (
    cond (Nat.beq sz t.sz)
     ((t.cT p.2).bind λy=>K {v:=.undef,upd:=[(i,.arr (some (d++p.1)) t (ys.set k y))],eP:=[i]})
     ((ys[k]?).bind λe=>(t.cT ((t.cells e).take o++p.2++(t.cells e).drop (o+sz))).bind λy=>K {v:=.undef,upd:=[(i,.arr (some (d++p.1)) t (ys.set k y))],eP:=[i]}))) none
def Cf (P:Program) (T:TypeId):Bool:=
 match P.underlying T with
 |some (.int _)=>true
 |_=>false
def DV (E:Env) (h:ar) (nid n sz:Nat) (t:Ty) (cs:List SV) (K:CR->Option ρ):Option ρ:=
 cond (E.lit&&Nat.beq t.sz sz) (match dA h t n cs with
  |some ([],xs)=>K {v:=.own nid,news:=[.arr none t xs]}
  |_=>K {v:=.bsl nid n,news:=[.box cs]}) (K {v:=.bsl nid n,news:=[.box cs]})
def DW (E:Env) (nid:Nat) (t:Ty) (xs:List t.El) (K:CR->Option ρ):Option ρ:=
 cond (!isNil E.tkt&&!isNil xs) (K {v:=.r [] (.sl t xs)}) (K {v:=.own nid,news:=[.arr none t xs]})
def rV (E:Env) (h:ar) (nid:Nat) (e:TypeId) (sz:Nat) (t:Ty) (T':TypeId) (b x:SV) (K:CR->Option ρ):Option ρ:=
 match b with
 |.cG=>cond (Cf E.P T'&&(ia E.P e&&Nat.beq t.sz sz)) (x.asI.bind λl=>(cU E.P e).bind λz=>(dA h t 1 z).bind λq=>cond (isNil q.1&&Nat.beq z.length sz) (match q.2 with
   |[y]=>cond (decide (1<=l/\l<=(fc:Int))) (K {v:=.own nid,news:=[.arr none t (List.replicate l.toNat y)]}) none
   |_=>none) none) none
 |_=>none
def rW (h:ar) (t:Ty) (b x:SV) (K:CR->Option ρ):Option ρ:=
 match b,x with
 |.sub i 0 a,.sub i' o n=>cond (Nat.beq i i') (match look h i with
  |some (.arr (some d) t' xs)=>if he:t'=t then cond (mem i d) none (cond (Nat.ble (a+n) xs.length&&(Nat.ble (o+n) xs.length&&Nat.ble 1 xs.length))
    (K {v:=.sub i 0 (a+n),upd:=[(i,.arr (some d) t ((he▸xs).take a++((he▸xs).drop o).take n++(he▸xs).drop (a+n)))],eP:=[i]}) none)else none
  |_=>none) none
 |_,_=>none
def Cg (E:Env) (s:List (Nat× SV)) (h:ar) (nid:Nat) (T:TypeId) (a:Operand) (K:CR->Option ρ) (D:Option ρ):Option ρ:=
 cond E.tak (match opd s a with
  |some (.ptr i x 0)=>match look h i with
   |some (.arr none (.st st) xs)=>cond (hZ (.st st)) D ((xs[x]?).bind λe=>(dz E.P T (jQ nid (st.cells e))).bind λv=>
     K {v:=v,news:=ff (st.cells e),upd:=[(i,.arr none (.ho st) (jP xs x))],eP:=[i]})
   |_=>D
  |_=>D) D
def taken (E:Env):Operand->Bool
 |.tmp t=>mem t E.tkt
 |_=>false
def Ch (E:Env) (s:List (Nat× SV)) (h:ar) (nid:Nat) (T:TypeId) (a:Operand) (K:CR->Option ρ) (D:Option ρ):Option ρ:=
  cond (taken E a) (match opd s a with
    | some (.ptr i x 0) => match look h i with
      |some (.arr none (.sl t) xs)=>(xs[x]?).bind λe=>(dz E.P T (jQ nid ((Ty.sl t).cells e))).bind λv=>
          K {v:=v,news:=ff ((Ty.sl t).cells e),upd:=[(i,.arr none (.hl t) (jP xs x))],eP:=[i]}
      |_=>none
    |_=>none) D
def oR (E:Env) (s:List (Nat× SV)) (h:ar) (nid:Nat) (op:Op) (K:CR->Option ρ):Option ρ:=
  match op with
  |.alloc T=>(cU E.P T).bind λz=>K {v:=.ptr nid 0 0,news:=[.box z]}
  |.box _ x=>(opd s x).bind λv=>v.cells.bind λcs=>K {v:=.ptr nid 0 0,news:=[.box cs]}
  | .buildSlice T n parts =>
    (eN E.P T).bind λe=>(dy E.P e).bind λsz=>(hJ s parts.toList).bind λps=>(cU E.P e).bind λz=>
      cond (Nat.ble (n*sz) 16777216&&Nat.beq z.length sz) ((gQ (λi=>some (i*sz,sz)) (List.replicate (n*sz) .undef) ps).bind λcs=>
        match E.tt e with
        |none=>K {v:=.bsl nid n,news:=[.box cs]}
        |some t=>cond ((hZ t||Nat.beq n 0)&&Nat.beq t.sz sz) ((dA h t n cs).bind λx=>cond (isNil x.1) (DW E nid t x.2 K) none) (DV E h nid n sz t cs K)) none
  | .makeSlice T l c =>
    (eN E.P T).bind λe=>(dy E.P e).bind λsz=>(E.tt e).bind λt=>(cU E.P e).bind λz=>(opd s l).bind λl=>(opd s c).bind λc=>l.asI.bind λl=>c.asI.bind λc=>
      cond (ia E.P e&&Nat.beq t.sz sz) ((dA h t 1 z).bind λx=>cond (isNil x.1&&Nat.beq z.length sz) (match x.2 with
        |[y]=>cond (decide (0<=l/\l<=c/\c<=(fc:Int))) (K {v:=.own nid,news:=[.arr none t (List.replicate l.toNat y)]}) none
        |_=>none) none) none
  | .call { callee := .builtin .append, args, argTypes } => (jn s args.toList).bind λ vs => match vs, argTypes.toList with
    | [b, x], [T, T'] => (eN E.P T).bind λ e => (dy E.P e).bind λ sz => (E.tt e).bind λ t => cond (ia E.P e && (Nat.beq t.sz sz && Nat.beq T T')) ((cU E.P e).bind λ z => cond (Nat.beq z.length sz)
      ((jo h t x).bind λy=>match b with
        |.cG=>cond (hit y.2.1 (y.1.getD [])) none (cond (Nat.ble y.2.2.length fc) (K {v:=.own nid,news:=[.arr y.1 t y.2.2],gone:=y.2.1}) none)
        | .own i => match look h i with
          | some (.arr sh t' xs) => if he : t' = t then
              (tI sh y.1).bind λsh'=>cond (mem i y.2.1) none (cond (hit (i::y.2.1) (sh'.getD [])) none (cond (Nat.ble (xs.length+y.2.2.length) fc) (K {v:=.own nid,news:=[.arr sh' t ((he▸xs)++y.2.2)],gone:=i::y.2.1}) none))
            else none
          |_=>none
        |b=>rW h t b x K) none) (rV E h nid e sz t T' b x K)
    |_,_=>none
  | .call { callee := .builtin .clear, args, argTypes } => (jn s args.toList).bind λ vs => match vs, argTypes.toList with
    | [v], [T] => (eN E.P T).bind λ e => (cU E.P e).bind λ z => (rU h v).bind λ p => match look h p.1 with
      | some (.arr sh t xs) => cond (Nat.beq z.length t.sz) ((dA h t 1 z).bind λ x => cond (isNil x.1) (match x.2 with
        |[y]=>K {v:=.undef,upd:=[(p.1,.arr sh t (xs.take p.2.1++List.replicate p.2.2 y++xs.drop (p.2.1+p.2.2)))],eP:=[p.1]}
        |_=>none) none) none
      |_=>none
    |_,_=>none
  | .store T a x => (opd s a).bind λ a => (opd s x).bind λ x => match a with
    | .ptr i k o => match look h i with
      |some (.box cs)=>cond (Nat.beq k 0) (x.cells.bind λxs=>(dy E.P T).bind λsz=>cond (Nat.beq sz xs.length) ((setCells cs o xs).bind λcs=>K {v:=.undef,upd:=[(i,.box cs)]}) none) none
      |some (.arr sh t ys)=>lP E.P T h i sh t ys k o x K
      |_=>none
    |_=>none
  | .call { callee := .value f, args, .. } => (opd s f).bind λ f => (jn s args.toList).bind λ vs => match f with
    |.fn (.func g) first cap=>E.orc g ρ nid (first++vs++cap) h K
    |_=>none
  | .load T a => Ch E s h nid T a K (match Cc E s h T a with
    |some v=>K {v:=v}
    |none=>Cg E s h nid T a K (gj E.P s h (.load T a) λv=>K {v:=v}))
  | .convert src dst x => match Ce E.P s h src dst x with
    |some i=>K {v:=.own i}
    |none=>gj E.P s h (.convert src dst x) λv=>K {v:=v}
  |op=>gj E.P s h op λv=>K {v:=v}
noncomputable def both (x y:Option ρ):Option ρ:=open Classical in if x=y then x else none
def tJ:Op->Option (TypeId× Operand× Bool)
 |.binOp .eql T x (.const (.slice none 0 0)) _=>some (T,x,true)
 |.binOp .neq T x (.const (.slice none 0 0)) _=>some (T,x,false)
 |_=>none
noncomputable def Dl (h:ar) (v:SV) (K:Bool->Option ρ):Option ρ:=
 match v with
 |.cG=>K true
 |.r _ (.sl _ xs)=>cond (isNil xs) (both (K true) (K false)) (K false)
 |.own i=>match look h i with
  |some (.arr _ _ xs)=>cond (isNil xs) (both (K true) (K false)) (K false)
  |_=>none
 |_=>none
noncomputable def BQ (E:Env) (o:Oper) (st:St) (K:St->Option ρ):Option ρ:=
 match tJ o.op with
 |some (T,x,e)=>cond (tG E.P T) ((opd st.aZ x).bind λv=>Dl st.heap v λb=>(st.take o.dst {v:=.b (cond b e (!e))}).bind K) none
 |none=>oR E st.aZ st.heap st.nid o.op λc=>(st.take o.dst c).bind K
def AL (ops:List Oper) (j:Nat):Option Tmp:=(ops[j]?).bind (·.dst)
def qd (o:Oper) (st:St) (K:St->Option ρ):Option ρ:=
 (Cb st.aZ st.n o.dst (.tup [])).bind λs=>K {st with aZ:=s}
noncomputable def oS (E:Env) (all:List Oper):List Oper->St->(St->Option ρ)->Option ρ
  |[],st,K=>K st
  | o :: rest, st, K =>
    match o.guard with
    |none=>BQ E o st λst=>oS E all rest st K
    | some (j, want) => (AL all j).bind λ t => (look st.aZ t).bind λ v => match v with
      |.tup []=>qd o st λst=>oS E all rest st K
      | v => v.asB.bind λ b =>
        cond b
          (cond want (BQ E o {st with aZ:=put st.aZ t (.b true)} λst=>oS E all rest st K)
            (qd o {st with aZ:=put st.aZ t (.b true)} λst=>oS E all rest st K))
          (cond want (qd o {st with aZ:=put st.aZ t (.b false)} λst=>oS E all rest st K)
            (BQ E o {st with aZ:=put st.aZ t (.b false)} λst=>oS E all rest st K))
def after (H:ar) (nid:Nat) (c:CR):Option ar:=
 (dx c.kil (je c.upd H)).bind λh=>some (h++aA nid c.news)
structure DR where
 dst:Option Tmp
 n0:Nat
 c:CR
 see:List Nat
 zh:List SV:=[]
 len:Bool:=false
abbrev SH:=List (Nat× SV)× ar
def tK (s:List (Nat× SV)) (dst:Option Tmp) (v:SV):List (Nat× SV):=
 match dst with
 |some t=>put s t v
 |none=>s
def uQ:ar->Nat->Blk->ar
 |[],_,_=>[]
 |(k,u)::l,n,b=>cond (Nat.beq k n) ((k,b)::l) ((k,u)::uQ l n b)
def dO:ar->ar->ar
 |[],h=>h
 |(k,b)::l,h=>dO l (uQ h k b)
def DR.app (r:DR) (x:SH):Option SH:=
 (dx r.c.kil (dO r.c.upd x.2)).bind λh=>some (tK (gi r.c.kil x.1) r.dst r.c.v,h++aA r.n0 r.c.news)
def replay (p:Nat->Bool):Nat->List DR->SH->Option SH
 |_,[],x=>some x
 |j,r::l,x=>cond (p j) ((r.app x).bind λx=>replay p (j+1) l x) (replay p (j+1) l x)
def kI (n:Nat):List Edge->Bool
 |[]=>true
 |e::l=>cond (Region.binds .any e) (cond (Nat.ble (e.on+1) n) (kI n l) false) (kI n l)
def qe (aq:List Nat):List Edge->Nat
 |[]=>0
 |e::l=>cond (Region.binds .any e) ((aq.getD e.on 0||| 2^e.on)||| qe aq l) (qe aq l)
def mb:List Nat->List Oper->Option (List Nat)
 |acc,[]=>some acc
 |acc,o::l=>cond (kI acc.length o.after.toList) (mb (acc++[qe acc o.after.toList]) l) none
def dM:List Oper->List Nat
 |[]=>[]
 |o::l=>match o.dst with
  |some t=>t::dM l
  |none=>dM l
def zi (aq:List Nat) (i:Nat):Nat->List Oper->List Nat
 |_,[]=>[]
 |j,o::l=>cond ((aq.getD j 0).testBit i) (zi aq i (j+1) l) (match o.dst with
  |some t=>t::zi aq i (j+1) l
  |none=>zi aq i (j+1) l)
def uR (n:Nat):List Nat->Bool
 |[]=>true
 |i::l=>cond (Nat.ble (i+1) n) (uR n l) false
def cw:List Operand->List Nat
 |[]=>[]
 |.tmp t::l=>t::cw l
 |_::l=>cw l
def fL (T:List Nat) (s:List (Nat× SV)):List Nat->List (Nat× SV)
 |[]=>[]
 |t::l=>cond (mem t T) (fL T s l) (match look s t with
  |some v=>(t,v)::fL T s l
  |none=>fL T s l)
def fi (E:Env):Op->Bool
 |.store _ _ _=>true
 |.load _ _=>E.tak
 |.call {callee:=.builtin .len,.. }|.call {callee:=.builtin .cap,.. }|.call {callee:=.builtin .min,.. }|.call {callee:=.builtin .max,.. }=>false
 |.call {callee:=.builtin _,.. }=>true
 |.call {callee:=.value (.func g),.. }=>E.wr g
 |.call {callee:=.value _,.. }=>E.wt
 |.call _=>false
 |_=>false
def Ci (aq:List Nat) (i j:Nat):Bool:=Nat.beq i j||((aq.getD i 0).testBit j||(aq.getD j 0).testBit i)
def lu (E:Env) (aq:List Nat) (i:Nat):Nat->List Oper->Bool
 |_,[]=>false
 |j,o::l=>cond (fi E o.op) (cond (Ci aq i j) (lu E aq i (j+1) l) true) (lu E aq i (j+1) l)
def oT (s:List (Nat× SV)):List Nat->List SV
 |[]=>[]
 |t::l=>match look s t with
  |some v=>v::oT s l
  |none=>oT s l
def lx (h:ar):List Nat->ar
 |[]=>[]
 |i::l=>match look h i with
  |some b=>(i,b)::lx h l
  |none=>lx h l
def AM:Op->Bool
 |.move _=>true
 |.assign _=>true
 |.extract _ _=>true
 |.nilCheck _=>true
 |.fieldAddr _ _ _=>true
 |_=>false
def Cj:Op->Bool
 |.load _ _=>true
 |_=>false
def Dm (E:Env) (aq:List Nat) (i:Nat) (ops:List Oper) (x:SH) (o:Oper):List Nat:=
 cond (lu E aq i 0 ops&&!AM o.op) (reach x.2 (cond (Cj o.op) 0 3) (gZ [] (vT (oT x.1 (cw o.op.operands.toList))))) []
def uS (E:Env) (aq:List Nat) (i:Nat) (ops:List Oper) (x:SH) (o:Oper):ar:=
 cond (lu E aq i 0 ops) (lx x.2 (Dm E aq i ops x o)) x.2
def zj (L:List Nat):ar->Bool
 |[]=>false
 |(k,_)::l=>cond (mem k L) true (zj L l)
def okW (E:Env) (op:Op) (c:CR):Bool:=cond (fi E op) true (isNil c.kil.2&&isNil c.upd)
mutual
def SV.vV (T:Kil):SV->Bool
 |.r d _=>!hit T.2 d
 |.own i=>!mem i T.1
 |.sub i _ _=>!mem i T.1
 |.bsl i _=>!mem i T.1
 |.ptr i _ _=>!mem i T.1
 |.inn i _ _=>!(mem i T.1||mem i T.2)
 |.ew d _=>!hit T.2 d
 |.agg cs=>md T cs
 |.tup cs=>md T cs
 |.fn _ a b=>md T a&&md T b
 |.cG=>true
 |.gY=>true
 |.undef=>true
def md (T:Kil):List SV->Bool
 |[]=>true
 |v::l=>v.vV T&&md T l
end
def Blk.vV (T:Kil):Blk->Bool
 |.box cs=>md T cs
 |.arr (some d) _ _=>!hit T.2 d
 |.arr none _ _=>true
def wq (k:Nat) (B:Blk):List DR->Bool
 |[]=>true
 |r::l=>cond ((look r.c.upd k).isNone&&(!mem k r.c.kil.1&&B.vV r.c.kil)) (wq k B l) false
def C5 (h:ar) (rs:List DR):List Nat->Bool
 |[]=>true
 |k::l=>match look h k with
  |some B=>cond (wq k B rs) (C5 h rs l) false
  |none=>false
def cW (cm:DR->Bool) (r:DR):Bool:=isNil r.c.kil.2&&(isNil r.c.upd&&(isNil r.c.news&&cm r))
def uT (b a:DR):Bool:=a.c.v.vV b.c.kil&&md b.c.kil a.zh
def Ck (b:DR):ar->Bool
 |[]=>true
 |(k,_)::l=>cond (Nat.ble (k+1) b.n0||Nat.ble (b.n0+b.c.news.length) k) (Ck b l) false
def rX (a b:DR):Bool:=(isNil a.c.kil.2&&isNil b.c.kil.2)&&((isNil b.c.upd&&Ck b a.c.upd)||(isNil a.c.upd&&Ck a b.c.upd))&&(!(zj b.see a.c.upd)&&!(zj a.see b.c.upd))
def jb (cm:DR->Bool) (a b:DR):Bool:=rX a b||((uT b a&&cW cm a)||(uT a b&&cW cm b))
def me (cm:DR->Bool) (aq:List Nat) (i:Nat) (r:DR):Nat->List DR->Bool
 |_,[]=>true
 |j,b::l=>cond ((aq.getD j 0).testBit i) (me cm aq i r (j+1) l) (cond (jb cm r b) (me cm aq i r (j+1) l) false)
def nA (cm:DR->Bool) (aq:List Nat):Nat->List DR->Bool
 |_,[]=>true
 |i,r::l=>cond (me cm aq i r (i+1) l) (nA cm aq (i+1) l) false
def AO:List DR->Nat->SV->List DR
 |[],_,_=>[]
 |r::l,0,v=>{r with c:={r.c with v:=v}}::l
 |r::l,n+1,v=>r::AO l n v
def Cl:Op->Bool
 |.indexAddr _ _ _=>true
 |_=>false
def Cm (h:ar):List Nat->Bool
 |[]=>true
 |i::l=>cond (look h i).isSome (Cm h l) false
def qf (x:SH) (o:Oper):List Nat:=gZ [] (vT (oT x.1 (cw o.op.operands.toList)))
def wu (E:Env) (h0:ar) (x:SH) (o:Oper):Bool:=E.swp&&(Cl o.op&&Cm h0 (qf x o))
def wv (E:Env) (aq:List Nat) (i:Nat) (ops:List Oper) (h0:ar) (x:SH) (o:Oper):ar:=cond (wu E h0 x o) (lx h0 (qf x o)) (uS E aq i ops x o)
def C6 (E:Env) (aq:List Nat) (i:Nat) (ops:List Oper) (h0:ar) (x:SH) (o:Oper):List Nat:=cond (wu E h0 x o) (qf x o) (Dm E aq i ops x o)
def AP (E:Env) (aq:List Nat) (i:Nat) (ops:List Oper) (h0:ar) (x:SH) (o:Oper) (nid:Nat) (c:CR):DR:=⟨o.dst,nid,c,C6 E aq i ops h0 x o,oT x.1 (cw o.op.operands.toList),wu E h0 x o⟩
def gU (E:Env) (ops:List Oper) (aq dsts:List Nat) (s0:List (Nat× SV)) (h0:ar):Nat->List Oper->Nat->List DR->(List DR->Nat->Option ρ)->Option ρ
  |_,[],nid,rs,K=>K rs nid
  | i, o :: rest, nid, rs, K =>
    (replay (Nat.testBit (aq.getD i 0)) 0 rs (fL (zi aq i 0 ops) s0 (cw o.op.operands.toList),h0)).bind λx=>
    match o.guard with
    |none=>oR E (fL [] x.1 (cw o.op.operands.toList)) (wv E aq i ops h0 x o) nid o.op λc=>cond (okW E o.op c) (gU E ops aq dsts s0 h0 (i+1) rest (nid+c.news.length) (rs++[AP E aq i ops h0 x o nid c]) K) none
    | some (g, want) => cond (Nat.testBit (aq.getD i 0) g) ((rs[g]?).bind λ r => r.dst.bind λ _ => match r.c.v with
      |.tup []=>gU E ops aq dsts s0 h0 (i+1) rest nid (rs++[⟨o.dst,nid,{v:=.tup []},[],[],false⟩]) K
      | .r [] (.bool b) => cond b
        (cond want
          (oR E (fL [] x.1 (cw o.op.operands.toList)) (wv E aq i ops h0 x o) nid o.op λc=>cond (okW E o.op c) (gU E ops aq dsts s0 h0 (i+1) rest (nid+c.news.length) (AO rs g (.b true)++[AP E aq i ops h0 x o nid c]) K) none)
          (gU E ops aq dsts s0 h0 (i+1) rest nid (AO rs g (.b true)++[⟨o.dst,nid,{v:=.tup []},[],[],false⟩]) K))
        (cond want
          (gU E ops aq dsts s0 h0 (i+1) rest nid (AO rs g (.b false)++[⟨o.dst,nid,{v:=.tup []},[],[],false⟩]) K)
          (oR E (fL [] x.1 (cw o.op.operands.toList)) (wv E aq i ops h0 x o) nid o.op λc=>cond (okW E o.op c) (gU E ops aq dsts s0 h0 (i+1) rest (nid+c.news.length) (AO rs g (.b false)++[AP E aq i ops h0 x o nid c]) K) none))
      |_=>none) none
def mf:List Nat->List Nat->Bool
 |[],_=>true
 |i::l,T=>cond (mem i T) false (mf l T)
def oU (L:List Nat):List DR->Bool
 |[]=>true
 |r::l=>cond (mf L r.c.kil.1) (oU L l) false
def nc (h:ar) (rs:List DR) (r:DR):Bool:=cond r.len (oU r.see rs) (C5 h rs r.see)
def nB (cm:DR->Bool):List DR->Bool
 |[]=>true
 |r::l=>cond (!r.len||cW cm r) (nB cm l) false
def rY (E:Env) (ops:List Oper) (st:St) (K:St->Option ρ):Option ρ:=
  cond (E.P.follows .mixedOrders) ((mb [] ops).bind λaq=>
    cond (gR (dM ops)) (cond (uR st.n (dM ops))
      (gU E ops aq (dM ops) st.aZ st.heap 0 ops st.nid [] λrs nid=>cond (nA (nc st.heap rs) aq 0 rs&&nB (nc st.heap rs) rs)
        ((replay (λ_=>true) 0 rs (st.aZ,st.heap)).bind λx=>K {st with aZ:=x.1,heap:=x.2,nid:=nid}) none) none) none) none
inductive Ex where
 |normal
 |exit (id:Nat)
 |ret
def refine(c:Operand) (b:Bool) (st:St):St:=
 match c with
 |.tmp t=>{st with aZ:=put st.aZ t (.b b)}
 |_=>st
abbrev Ev (ρ:Type):=St->(Ex->St->Option ρ)->Option ρ
def inBlock (id:Nat) (K:Ex->St->Option ρ):Ex->St->Option ρ
 |.exit j,st=>cond (Nat.beq j id) (K .normal st) (K (.exit j) st)
 |e,st=>K e st
def yR (i:Nat):List Nat->List Nat
 |[]=>[]
 |k::l=>cond (Nat.beq k i) (yR i l) (k::yR i l)
def tL (i:Nat) (t:Ty) (h:ar) (v:SV):SV:=
 match v.list h t with
 |some p=>.r (yR i p.1) (.sl t p.2)
 |none=>.undef
mutual
def SV.frz (i:Nat) (t:Ty) (h:ar):SV->SV
 |.r d x=>.r (yR i d) x
 |.own j=>cond (Nat.beq j i) (tL i t h (.own j)) (.own j)
 |.sub j o n=>cond (Nat.beq j i) (tL i t h (.sub j o n)) (.sub j o n)
 |.bsl j n=>cond (Nat.beq j i) .undef (.bsl j n)
 |.ptr j x o=>cond (Nat.beq j i) .undef (.ptr j x o)
 |.inn j x c=>cond (Nat.beq j i) .undef (.inn j x c)
 |.ew d cs=>.ew (yR i d) cs
 |.agg cs=>.agg (pY i t h cs)
 |.tup cs=>.tup (pY i t h cs)
 |.fn f a b=>.fn f (pY i t h a) (pY i t h b)
 |.cG=>.cG
 |.gY=>.gY
 |.undef=>.undef
def pY (i:Nat) (t:Ty) (h:ar):List SV->List SV
 |[]=>[]
 |v::l=>v.frz i t h::pY i t h l
end
def Blk.frz (i:Nat) (t:Ty) (h:ar):Blk->Blk
 |.box cs=>.box (pY i t h cs)
 |.arr none t' xs=>.arr none t' xs
 |.arr (some d) t' xs=>.arr (some (yR i d)) t' xs
def rZ (i:Nat) (t:Ty) (h:ar):ar->ar
 |[]=>[]
 |(k,b)::l=>cond (Nat.beq k i) (rZ i t h l) ((k,b.frz i t h)::rZ i t h l)
def uU (i:Nat) (t:Ty) (h:ar):List (Nat× SV)->List (Nat× SV)
 |[]=>[]
 |(k,v)::l=>(k,v.frz i t h)::uU i t h l
def Dn (i:Nat) (st:St):St:=
 match look st.heap i with
 |some (.arr _ t _)=>{st with aZ:=uU i t st.heap st.aZ,heap:=rZ i t st.heap st.heap}
 |_=>st
def Cn (h:ar):SV->List Nat->Option Nat
 |.own i,[]=>some i
 |.sub i _ _,[]=>some i
 |.agg cs,j::p=>match cs[j]? with
  |some v=>Cn h v p
  |none=>none
 |.tup cs,j::p=>match cs[j]? with
  |some v=>Cn h v p
  |none=>none
 |.ptr i 0 o,j::p=>match look h i with
  |some (.box cs)=>match cs[o+j]? with
   |some v=>Cn h v p
   |none=>none
  |_=>none
 |.bsl i _,j::p=>match look h i with
  |some (.box cs)=>match cs[j]? with
   |some v=>Cn h v p
   |none=>none
  |_=>none
 |_,_=>none
termination_by structural _ p=>p
def Dp (i:Nat) (st:St):St:=
 match look st.heap i with
 |some (.arr none t xs)=>{st with heap:=put st.heap i (.arr (some []) t xs)}
 |_=>st
def Al (st:St) (x:Bool× Nat× List Nat):St:=
 match look st.aZ x.2.1 with
 |some v=>match Cn st.heap v x.2.2 with
  |some i=>cond x.1 (Dp i st) (Dn i st)
  |none=>st
 |none=>st
def tM:List (Bool× Nat× List Nat)->St->St
 |[],st=>st
 |x::l,st=>tM l (Al st x)
def Blk.wx (b:Blk) (K:Blk->Option ρ):Option ρ:=
 match b with
 |.arr none (.ho s) zs=>(gT zs).bind λxs=>K (.arr none (.st s) xs)
 |.arr none (.hl t) zs=>(gT zs).bind λxs=>K (.arr none (.sl t) xs)
 |b=>K b
def wy:ar->(ar->Option ρ)->Option ρ
 |[],K=>K []
 |(k,b)::l,K=>b.wx λb=>wy l λl=>K ((k,b)::l)
def tN (E:Env) (K:St->Option ρ) (st:St):Option ρ:=cond E.tak (wy st.heap λh=>K {st with heap:=h}) (K st)
noncomputable def ev (E:Env) (LP:Nat->Ev ρ->Ev ρ) (cb:Nat):Code->Ev ρ
 |.skip,st,K=>K .normal st
 |.label _,st,K=>K .normal st
 |.region id ops false,st,K=>oS E ops.toList ops.toList (wo (E.wk id) (tM (E.fz id) st)) (tN E (K .normal))
 |.region id ops true,st,K=>rY E ops.toList (wo (E.wk id) (tM (E.fz id) st)) (tN E (K .normal))
 |.seq a b,st,K=>ev E LP cb a st λe st=>match e with
  |.normal=>ev E LP cb b st K
  |e=>K e st
 |.cond c t f,st,K=>(opd st.aZ c).bind λv=>v.asB.bind λb=>cond b (ev E LP cb t (refine c true st) K) (ev E LP cb f (refine c false st) K)
 |.block id c,st,K=>ev E LP id c st (inBlock id K)
 |.loop c,st,K=>LP cb (λst K=>ev E LP cb c st K) st K
 |.exit id,st,K=>K (.exit id) st
 |.scope c,st,K=>ev E LP cb c st K
 |.ret,st,K=>K .ret st
 |_,_,_=>none
end
section
def Ext {α:Type} (s s':List (Nat× α)):Prop:=∀t v,look s t=some v->look s' t=some v
theorem Ext.rfl' {α:Type} {s:List (Nat× α)}:Ext s s:=λ_ _ h=>h
def Le {α:Type} (x y:Option α):Prop:=∀a,x=some a->y=some a
theorem Le.refl {α:Type} (x:Option α):Le x x:=λ_ h=>h
theorem Le.bind {α β:Type} {x y:Option α} {f g:α->Option β} (h:Le x y) (hf:∀a,Le (f a) (g a)):Le (x.bind f) (y.bind g):=by
 intro b hb;rw[An]at hb⊢;obtain⟨a,h1,h2⟩:=hb;exact⟨a,h a h1,hf a b h2⟩
theorem Le.cond {α:Type} {b:Bool} {x y x' y':Option α} (h:Le x x') (h':Le y y'):Le (cond b x y) (cond b x' y'):=by cases b<;>assumption
theorem Le.none {α:Type} {y:Option α}:Le Option.none y:=λ_ h=>nomatch h
section
variable {s s':List (Nat× SV)} {h h':ar} {P:Program}
theorem AQ (hh:Ext h h') (i:Nat):Le (look h i) (look h' i):=λ_=>hh i _
theorem bD (hs:Ext s s') (x:Operand):Le (opd s x) (opd s' x):=by
 cases x with
 |tmp t=>exactλv hv=>hs t v hv
 |_=>exact Le.refl _
theorem dP (hs:Ext s s'):(l:List Operand)->Le (jn s l) (jn s' l)
 |[]=>Le.refl _
 |x::l=>(bD hs x).bind λ_=>(dP hs l).bind λ_=>Le.refl _
theorem sa (hs:Ext s s') (x:Option Operand):Le (yQ s x) (yQ s' x):=by
 cases x with
 |none=>exact Le.refl _
 |some x=>exact(bD hs x).bind λ_=>Le.refl _
theorem fM (hs:Ext s s'):(l:List (Nat× Operand))->Le (hJ s l) (hJ s' l)
 |[]=>Le.refl _
 |(_,x)::l=>(bD hs x).bind λ_=>(fM hs l).bind λ_=>Le.refl _
theorem uV (hh:Ext h h') (v:SV):Le (eO h v) (eO h' v):=by
 cases v<;>try exact Le.refl _
 rename_i i x o;intro cs hcs;simp only[eO]at hcs⊢
 cases hl:look h i with
 |none=>rw[hl]at hcs;exact nomatch hcs
 |some B=>rw[hl]at hcs;rw[hh i B hl];exact hcs
theorem zk (hh:Ext h h') (v:SV):Le (lenOf h v) (lenOf h' v):=by
 intro n hn
 cases v with
 |own i=>
  simp only[lenOf]at hn⊢
  cases hl:look h i with
  |none=>rw[hl]at hn;exact nomatch hn
  |some B=>rw[hl]at hn;rw[hh i B hl];exact hn
 |r d x=>cases x<;>exact hn
 |_=>exact hn
theorem uW (hh:Ext h h') (T:TypeId) (v:SV) (lo hi:Option SV):Le (dN P T h v lo hi) (dN P T h' v lo hi):=by
 intro cs hcs
 cases v with
 |own i=>
  simp only[dN]at hcs⊢
  cases hl:look h i with
  |none=>rw[hl]at hcs;exact nomatch hcs
  |some B=>rw[hl]at hcs;rw[hh i B hl];exact hcs
 |sub i o n=>
  simp only[dN]at hcs⊢
  cases hl:look h i with
  |none=>rw[hl]at hcs;exact nomatch hcs
  |some B=>rw[hl]at hcs;rw[hh i B hl];exact hcs
 |r d x=>cases x<;>exact hcs
 |_=>exact hcs
theorem nh (hh:Ext h h') (T:TypeId) (v:SV) (k:Int):Le (aY P T h v k) (aY P T h' v k):=by
 intro cs hcs
 cases v with
 |own i=>
  simp only[aY]at hcs⊢
  cases hl:look h i with
  |none=>rw[hl]at hcs;exact nomatch hcs
  |some B=>rw[hl]at hcs;rw[hh i B hl];exact hcs
 |sub i o n=>
  simp only[aY]at hcs⊢
  cases hl:look h i with
  |none=>rw[hl]at hcs;exact nomatch hcs
  |some B=>rw[hl]at hcs;rw[hh i B hl];exact hcs
 |r d x=>cases x<;>exact hcs
 |_=>exact hcs
theorem sb (hh:Ext h h') (t:Ty) (v:SV):Le (v.list h t) (v.list h' t):=by
 intro p hp
 cases v<;>try exact hp
 all_goals
  simp only[SV.list]at hp⊢;split at hp
  ·rename_i hl;rw[hh _ _ hl];exact hp
  ·exact nomatch hp
theorem Cp (hh:Ext h h') (T:TypeId) (x:SV):Le (slN P T h x) (slN P T h' x):=by
 intro n hn
 cases x with
 |own i=>
  simp only[slN]at hn⊢
  cases hl:look h i with
  |none=>rw[hl]at hn;exact nomatch hn
  |some B=>rw[hl]at hn;rw[hh i B hl];exact hn
 |r d x=>cases x<;>exact hn
 |_=>exact hn
theorem kJ (hs:Ext s s') (hh:Ext h h') (op:Op):Le (dg P s h op) (dg P s' h' op):=by
 intro v hv;unfold dg at hv;split at hv<;>simp only[dg]
 ·exact bD hs _ v hv
 ·exact bD hs _ v hv
 ·revert hv;exact((bD hs _).bind λc=>(Le.refl _).bind λb=>Le.cond (bD hs _) (bD hs _)) v
 ·revert hv
  split
  ·exact((Le.refl _).bind λ_=>(Le.refl _).bind λ_=>(fM hs _).bind λ_=>Le.refl _) v
  ·exactλh=>nomatch h
 ·exact((bD hs _).bind λa=>(uV hh a).bind λ_=>Le.refl _) v hv
 ·exact((bD hs _).bind λa=>Le.refl _) v hv
 ·exact((bD hs _).bind λa=>(bD hs _).bind λ_=>Le.refl _) v hv
 ·exact((bD hs _).bind λa=>Le.refl _) v hv
 ·exact((bD hs _).bind λa=>Le.cond ((sb hh _ _).bind λ_=>Le.refl _) (Le.refl _)) v hv
 ·exact((dP hs _).bind λa=>(dP hs _).bind λ_=>Le.refl _) v hv
 ·exact((bD hs _).bind λa=>(sa hs _).bind λ_=>(sa hs _).bind λ_=>uW hh _ _ _ _) v hv
 ·exact((bD hs _).bind λa=>(sa hs _).bind λ_=>(bD hs _).bind λ_=>(bD hs _).bind λ_=>(Cp hh _ _).bind λ_=>Le.refl _) v hv
 ·exact((bD hs _).bind λa=>Le.refl _) v hv
 ·exact((bD hs _).bind λa=>Le.refl _) v hv
 ·exact((bD hs _).bind λa=>(bD hs _).bind λ_=>(Le.refl _).bind λ_=>nh hh _ _ _) v hv
 ·exact((bD hs _).bind λa=>(bD hs _).bind λ_=>Le.refl _) v hv
 ·exact((bD hs _).bind λa=>Le.refl _) v hv
 ·refine((dP hs _).bind λvs=>?_) v hv;split
  ·exact Le.cond ((zk hh _).bind λ_=>Le.refl _) (Le.refl _)
  ·exact Le.refl _
 ·exact((dP hs _).bind λa=>Le.refl _) v hv
 ·exact((dP hs _).bind λa=>Le.refl _) v hv
 ·exact((dP hs _).bind λa=>Le.refl _) v hv
 ·exact nomatch hv
theorem qg (hh:Ext h h') (t:Ty) (v:SV):Le (v.asR h t) (v.asR h' t):=by
 cases t with
 |sl t=>exact(sb hh t v).bind λ_=>Le.refl _
 |_=>exact Le.refl _
theorem sd (hh:Ext h h'):(ts:List Ty)->(vs:List SV)->Le (vS h ts vs) (vS h' ts vs)
 |[],[]=>Le.refl _
 |t::ts,v::vs=>(qg hh t v).bind λ_=>(sd hh ts vs).bind λ_=>Le.refl _
 |[],_::_=>Le.refl _
 |_::_,[]=>Le.refl _
theorem AR (hh:Ext h h') (t:Ty) (vs:List SV):Le (C3 h t vs) (C3 h' t vs):=(sd hh _ _).bind λ_=>Le.refl _
theorem tO (hh:Ext h h') (t:Ty):(n:Nat)->(c:List SV)->Le (uP h t n c) (uP h' t n c)
 |0,_=>Le.refl _
 |n+1,_=>(AR hh t _).bind λ_=>(tO hh t n _).bind λ_=>Le.refl _
theorem oV (hh:Ext h h') (t:Ty) (v:SV):Le (v.vU h t) (v.vU h' t):=by
 intro p hp
 cases t with
 |sl t=>
  cases v with
  |own i=>
   simp only[SV.vU]at hp⊢
   cases hl:look h i with
   |none=>rw[hl]at hp;exact nomatch hp
   |some B=>rw[hl]at hp;rw[hh i B hl];exact hp
  |_=>exact hp
 |_=>exact hp
theorem tP (hh:Ext h h'):(ts:List Ty)->(vs:List SV)->Le (rT h ts vs) (rT h' ts vs)
 |[],[]=>Le.refl _
 |t::ts,v::vs=>(oV hh t v).bind λ_=>(tP hh ts vs).bind λ_=>Le.refl _
 |[],_::_=>Le.refl _
 |_::_,[]=>Le.refl _
theorem dZ (hh:Ext h h') (t:Ty):(n:Nat)->(c:List SV)->Le (dA h t n c) (dA h' t n c)
 |0,_=>Le.refl _
 |n+1,_=>(tP hh _ _).bind λ_=>(Le.refl _).bind λ_=>(dZ hh t n _).bind λ_=>Le.refl _
theorem qh (hh:Ext h h'):(c:List SV)->Le (qc h c) (qc h' c)
 |[]=>Le.refl _
 |v::l=>by
  have ih:=qh hh l
  cases v with
  |own i=>
   refine(AQ hh i).bind λb=>?_
   cases b with
   |box _=>exact Le.refl _
   |arr sh _ _=>cases sh with
    |none=>exact ih
    |some _=>exact Le.refl _
  |r d x=>cases x with
   |sl _ _=>exact Le.refl _
   |_=>exact ih
  |sub _ _ _=>exact Le.refl _
  |bsl _ _=>exact Le.refl _
  |_=>exact ih
theorem wz (hh:Ext h h') (t:Ty) (n:Nat) (c:List SV):Le (tH h t n c) (tH h' t n c):=
 (qh hh c).bind λb=>Le.cond ((dZ hh t n c).bind λ_=>Le.refl _) ((tO hh t n c).bind λ_=>Le.refl _)
theorem nC (hh:Ext h h') (t:Ty) (v:SV):Le (jo h t v) (jo h' t v):=by
 have ind:∀(v:SV) (p:List Nat× List t.El),v.list h t=some p->gS h' v p.1=gS h v p.1:=λv p hp=>by
  cases v with
  |own i=>
   simp only[SV.list]at hp
   cases hl:look h i with
   |none=>rw[hl]at hp;exact nomatch hp
   |some B=>simp only[gS,hl,hh i B hl]
  |_=>rfl
 have lst:∀v:SV,Le ((v.list h t).bind λp=>cond (hZ t) (some (none,[],p.2)) (some (some (gS h v p.1),[],p.2)):Option (Option (List Nat)× List Nat× List t.El)) ((v.list h' t).bind λp=>cond (hZ t) (some (none,[],p.2)) (some (some (gS h' v p.1),[],p.2))):=λv q hq=>by
  rw[An]at hq⊢;obtain⟨p,hp,hq⟩:=hq;exact⟨p,sb hh t v p hp,by rw[ind v p hp];exact hq⟩
 cases v with
 |bsl i n=>
  intro p hp;simp only[jo]at hp⊢
  cases hl:look h i with
  |none=>rw[hl]at hp;exact nomatch hp
  |some B=>
   rw[hl]at hp;rw[hh i B hl]
   cases B with
   |box cs=>exact((wz hh t n cs).bind λ_=>Le.refl _) p hp
   |arr _ _ _=>exact nomatch hp
 |r d x=>exact lst (.r d x)
 |cG=>exact lst .cG
 |gY=>exact lst .gY
 |own i=>exact lst (.own i)
 |sub i o n=>exact lst (.sub i o n)
 |ptr i x o=>exact lst (.ptr i x o)
 |inn i x o=>exact lst (.inn i x o)
 |ew d x=>exact lst (.ew d x)
 |agg x=>exact lst (.agg x)
 |tup x=>exact lst (.tup x)
 |fn f a b=>exact lst (.fn f a b)
 |undef=>exact lst .undef
end
end
section
abbrev Cell:=Nat× Nat
def _root_.Go.World.at? (w:World) (p:Cell):Option Value:=w.cell? ⟨p.1,p.2,none⟩
def _root_.Go.World.cg (w:World) (p:Cell):Nat× Nat× Nat:=
 match w.heap[p.1]? with
 |some (.cells c _ fr)=>(fr.1,fr.2,c.size)
 |_=>(0,0,0)
def calm (r:Nat× Nat× Nat):Bool:=decide (r.1=r.2.1\/r.2.2<=r.1)
def whole (r:Nat× Nat× Nat) (o n:Nat):Bool:=calm r&&decide (o=0/\r.2.2=n)
theorem iL {r:Nat× Nat× Nat} {o n:Nat} (h:whole r o n=true):calm r=true:=by
 unfold whole at h;rw[EG]at h;exact h.1
theorem tQ {n:Nat}:whole (0,0,n) 0 n=true:=by simp[whole,calm]
theorem eQ {w:World} {b o:Nat} {u:Value} (h:w.at? (b,o)=some u) (hc:calm (w.cg (b,o))=true):w.frozen? ⟨b,o,none⟩=false:=by
 unfold World.at? World.cell? at h;unfold calm World.cg at hc;unfold World.frozen?
 cases hb:w.heap[b]? with
 |none=>rfl
 |some ob=>
  cases ob with
  |cells c t fr=>
   simp only[hb,Gc,FH,if_false]at h;simp only[hb,decide_eq_true_eq]at hc;have:=(ES.1 h).1;obtain⟨lo,hi⟩:=fr;simp only at hc⊢;rw[Bool.and_eq_false_iff,decide_eq_false_iff_not,decide_eq_false_iff_not]
   omega
  |_=>rfl
theorem qi (w:World) (a:Addr) (v:Value) (p:Cell):(w.setCell a v).cg p=w.cg p:=by
 unfold World.cg World.setCell;simp only[Array.getElem?_modify];by_cases e:a.block=p.1
 ·rw[if_pos e]
  cases hb:w.heap[p.1]? with
  |none=>rfl
  |some ob=>
   cases ob with
   |cells c t fr=>simp only[FV];split<;>simp
   |_=>rfl
 ·rw[if_neg e]
theorem c6 (b:Nat):∀(vs:List Value) (o:Nat) (w:World) (p:Cell),(w.setCells b o vs).cg p=w.cg p
 |[],_,_,_=>rfl
 |v::vs,o,w,p=>(c6 b vs (o+1) (w.setCell ⟨b,o,none⟩ v) p).trans (qi w _ v p)
def one:Value->Bool
 |.agg _|.tuple _=>false
 |_=>true
class Tok where
 env:Nat->Value
 wA:∀n,one (env n)=true
 wB:env 0=.slice none 0 0
variable [Tok]
def reg (b o n:Nat) (p:Cell):Prop:=p.1=b/\o<=p.2/\p.2<o+n
def al (t:Ty) (xs:List t.El) (i j:Nat) (r:R):Prop:=∃x,xs[i]? =some x/\(t.cells x)[j]? =some r
theorem aB {t:Ty} {xs:List t.El} {i j:Nat} {r:R} (h:al t xs i j r):i<xs.length/\j<t.sz:=by
 obtain⟨x,hx,hr⟩:=h;refine⟨(ED.1 hx).1,?_⟩;have:=(ED.1 hr).1;rwa [Ty.bu]at this
theorem cj {t:Ty} {xs:List t.El} {i j:Nat} (hi:i<xs.length) (hj:j<t.sz):∃r,al t xs i j r:=by
 refine⟨(t.cells xs[i])[j]'(by rw[Ty.bu];exact hj),xs[i],?_,?_⟩<;>simp
theorem ib {i j n s c:Nat} (hi:i<n) (hj:j<s) (h:n<=c):i*s+j<c*s:=by
 have h1:(i+1)*s<=c*s:=E8 s (by omega);have:(i+1)*s=i*s+s:=FK i s;omega
inductive RepR (w:World) (ok:Cell->Prop):R->Value->Prop
 |int (k:IntKind) (n:Int):RepR w ok (.int k n) (.int k n)
 |bool (b:Bool):RepR w ok (.bool b) (.bool b)
 |str (l:List UInt8):RepR w ok (.str l) (.string ⟨l.toArray⟩)
 |sl (t:Ty) (xs:List t.El) (a:Option Addr) (cap b o:Nat) (vs:Nat->Nat->Value)
   (hcap:xs.length<=cap) (ha:xs=[]\/a=some ⟨b,o,none⟩)
   (hc:∀i j r,al t xs i j r->ok (b,o+(i*t.sz+j))/\w.at? (b,o+(i*t.sz+j))=some (vs i j))
   (hr:∀i j r,al t xs i j r->RepR w ok r (vs i j)):RepR w ok (.sl t xs) (.slice a xs.length cap)
 |tok (n:Nat):RepR w ok (.tok n) (Tok.env n)
 |gg (v:Value) (h:one v=true):RepR w ok .gg v
theorem RepR.frame {w w':World} {ok ok':Cell->Prop} {r:R} {v:Value} (h:RepR w ok r v)
  (hf:∀p u,ok p->w.at? p=some u->ok' p/\w'.at? p=some u):RepR w' ok' r v:=by
 induction h with
 |int=>exact .int _ _
 |bool=>exact .bool _
 |str=>exact .str _
 |tok=>exact .tok _
 |gg v h=>exact .gg v h
 |sl t xs a cap b o vs hcap ha hc _ ih=>
  exact .sl t xs a cap b o vs hcap ha (λi j r hr=>hf _ _ (hc i j r hr).1 (hc i j r hr).2) ih
structure Row (w:World) (inner:R->Value->(Cell->Prop)->Prop) (t:Ty) (xs:List t.El) (hdr:Value) (fp:Cell->Prop) where
 a:Option Addr
 cap:Nat
 b:Nat
 o:Nat
 vs:Nat->Nat->Value
 fs:Nat->Nat->Cell->Prop
 qj:hdr=.slice a xs.length cap
 hcap:xs.length<=cap
 ha:cap=0\/a=some ⟨b,o,none⟩
 fj:∀j,j<cap*t.sz->(∃v,w.at? (b,o+j)=some v)/\whole (w.cg (b,o+j)) o (cap*t.sz)=true
 hc:∀i j r,al t xs i j r->w.at? (b,o+(i*t.sz+j))=some (vs i j)
 hr:∀i j r,al t xs i j r->inner r (vs i j) (fs i j)
 hd1:∀i j r p,al t xs i j r->fs i j p->¬reg b o (cap*t.sz) p
 hd2:∀i j r i' j' r' p,al t xs i j r->al t xs i' j' r'->fs i j p->fs i' j' p->i=i'/\j=j'
 hfp:∀p,fp p↔reg b o (cap*t.sz) p\/∃i j r,al t xs i j r/\fs i j p
inductive cS (w:World):R->Value->(Cell->Prop)->Prop
 |int (k:IntKind) (n:Int):cS w (.int k n) (.int k n) (λ_=>False)
 |bool (b:Bool):cS w (.bool b) (.bool b) (λ_=>False)
 |str (l:List UInt8):cS w (.str l) (.string ⟨l.toArray⟩) (λ_=>False)
 |sl (t:Ty) (xs:List t.El) (a:Option Addr) (cap b o:Nat) (vs:Nat->Nat->Value) (fs:Nat->Nat->Cell->Prop) (fp:Cell->Prop)
   (hcap:xs.length<=cap) (ha:cap=0\/a=some ⟨b,o,none⟩)
   (fj:∀j,j<cap*t.sz->(∃v,w.at? (b,o+j)=some v)/\whole (w.cg (b,o+j)) o (cap*t.sz)=true)
   (hc:∀i j r,al t xs i j r->w.at? (b,o+(i*t.sz+j))=some (vs i j))
   (hr:∀i j r,al t xs i j r->cS w r (vs i j) (fs i j))
   (hd1:∀i j r p,al t xs i j r->fs i j p->¬reg b o (cap*t.sz) p)
   (hd2:∀i j r i' j' r' p,al t xs i j r->al t xs i' j' r'->fs i j p->fs i' j' p->i=i'/\j=j')
   (hfp:∀p,fp p↔reg b o (cap*t.sz) p\/∃i j r,al t xs i j r/\fs i j p):cS w (.sl t xs) (.slice a xs.length cap) fp
 |tok (n:Nat):cS w (.tok n) (Tok.env n) (λ_=>False)
 |gg (v:Value) (h:one v=true):cS w .gg v (λ_=>False)
theorem cS.row {w:World} {t:Ty} {xs:List t.El} {v:Value} {fp:Cell->Prop} (h:cS w (.sl t xs) v fp):Nonempty (Row w (cS w) t xs v fp):=by
 cases h with
 |sl t xs a cap b o vs fs fp hcap ha fj hc hr hd1 hd2 hfp=>exact⟨⟨a,cap,b,o,vs,fs,rfl,hcap,ha,fj,hc,hr,hd1,hd2,hfp⟩⟩
theorem Row.C7 {w:World} {t:Ty} {xs:List t.El} {v:Value} {fp:Cell->Prop} (h:Row w (cS w) t xs v fp):cS w (.sl t xs) v fp:=by
 obtain⟨a,cap,b,o,vs,fs,rfl,hcap,ha,fj,hc,hr,hd1,hd2,hfp⟩:=h;exact .sl t xs a cap b o vs fs fp hcap ha fj hc hr hd1 hd2 hfp
theorem cS.frame {w w':World} {r:R} {v:Value} {fp:Cell->Prop} (h:cS w r v fp)
  (hf:∀p u,fp p->w.at? p=some u->w'.at? p=some u/\w'.cg p=w.cg p):cS w' r v fp:=by
 induction h with
 |int=>exact .int _ _
 |bool=>exact .bool _
 |str=>exact .str _
 |tok=>exact .tok _
 |gg v h=>exact .gg v h
 |sl t xs a cap b o vs fs fp hcap ha fj hc _ hd1 hd2 hfp ih=>
  have hin:∀i j r,al t xs i j r->fp (b,o+(i*t.sz+j)):=λi j r hr=>(hfp _).2 (.inl ⟨rfl,by simp,by
   have:=ib (aB hr).1 (aB hr).2 hcap;simp;omega⟩)
  refine .sl t xs a cap b o vs fs fp hcap ha (λj hj=>?_) (λi j r hr=>(hf _ _ (hin i j r hr) (hc i j r hr)).1)
   (λi j r hr=>ih i j r hr λp u hp=>hf p u ((hfp p).2 (.inr ⟨i,j,r,hr,hp⟩))) hd1 hd2 hfp
  obtain⟨⟨v,hv⟩,hi⟩:=fj j hj;have:=hf (b,o+j) v ((hfp _).2 (.inl ⟨rfl,by simp,by simp;omega⟩)) hv;exact⟨⟨v,this.1⟩,by rw[this.2];exact hi⟩
theorem cS.wC {w:World} {r:R} {v:Value} {fp:Cell->Prop} {ok:Cell->Prop} (h:cS w r v fp) (hok:∀p,fp p->ok p):RepR w ok r v:=by
 induction h with
 |int=>exact .int _ _
 |bool=>exact .bool _
 |str=>exact .str _
 |tok=>exact .tok _
 |gg v h=>exact .gg v h
 |sl t xs a cap b o vs fs fp hcap ha fj hc _ hd1 hd2 hfp ih=>
  refine .sl t xs a cap b o vs hcap ?_ (λi j r hr=>⟨hok _ ((hfp _).2 (.inl ⟨rfl,by simp,by
   have:=ib (aB hr).1 (aB hr).2 hcap;simp;omega⟩)),hc i j r hr⟩)
   (λi j r hr=>ih i j r hr λp hp=>hok p ((hfp p).2 (.inr ⟨i,j,r,hr,hp⟩)))
  rcases ha with rfl|h
  ·exact .inl (EU.1 (by omega))
  ·exact .inr h
theorem cS.there {w:World} {r:R} {v:Value} {fp:Cell->Prop} (h:cS w r v fp):∀p,fp p->∃u,w.at? p=some u:=by
 induction h with
 |int=>exactλ_ h=>h.elim
 |bool=>exactλ_ h=>h.elim
 |str=>exactλ_ h=>h.elim
 |tok=>exactλ_ h=>h.elim
 |gg=>exactλ_ h=>h.elim
 |sl t xs a cap b o vs fs fp hcap ha fj hc _ hd1 hd2 hfp ih=>
  intro p hp
  rcases(hfp p).1 hp with⟨h1,h2,h3⟩|⟨i,j,r,hr,hp⟩
  ·obtain⟨p1,p2⟩:=p;have h1:p1=b:=h1;simp only at h1 h2 h3;subst h1;have:=(fj (p2-o) (by omega)).1;rwa [show o+(p2-o)=p2 from by omega]at this
  ·exact ih i j r hr p hp
structure Pl where
 hdr:Nat->Value
 fp:Nat->Cell->Prop
 base:Cell->Prop
def Blk.eR:Blk->Bool
 |.box _=>true
 |.arr _ _ _=>false
def okd (H:ar) (pl:Pl) (d:List Nat) (p:Cell):Prop:=pl.base p/\∀i B,look H i=some B->(mem i d=true->B.eR=true)->¬pl.fp i p
inductive ab (w:World) (H:ar) (pl:Pl):SV->Value->Prop
 |r (d:List Nat) (x:R) (v:Value) (h:RepR w (okd H pl d) x v):ab w H pl (.r d x) v
 |cG:ab w H pl .cG (.slice none 0 0)
 |gY:ab w H pl .gY (.pointer none)
 |own (i:Nat) (sh:Option (List Nat)) (t:Ty) (xs:List t.El) (h:look H i=some (.arr sh t xs)):ab w H pl (.own i) (pl.hdr i)
 |sub (i o n:Nat) (sh:Option (List Nat)) (t:Ty) (xs:List t.El) (a a':Option Addr) (cap dB:Nat) (h:look H i=some (.arr sh t xs))
   (hh:pl.hdr i=.slice a xs.length cap) (hn:o+n<=xs.length) (hc:n<=dB) (hc':o+dB=cap) (ha:dB=0\/a'=a.map (·.add (o*t.sz))):
   ab w H pl (.sub i o n) (.slice a' n dB)
 |bsl (i n:Nat) (cs:List SV) (a:Addr) (h:look H i=some (.box cs)) (hh:pl.hdr i=.pointer (some a)):ab w H pl (.bsl i n) (.slice (some a) n n)
 |kK (i o:Nat) (cs:List SV) (b k:Nat) (h:look H i=some (.box cs)) (hh:pl.hdr i=.pointer (some ⟨b,k,none⟩)):ab w H pl (.ptr i 0 o) (.pointer (some ⟨b,k+o,none⟩))
 |jJ (i x o:Nat) (sh:Option (List Nat)) (t:Ty) (xs:List t.El) (b k n cap:Nat) (h:look H i=some (.arr sh t xs)) (hx:x<xs.length)
   (hh:pl.hdr i=.slice (some ⟨b,k,none⟩) n cap):ab w H pl (.ptr i x o) (.pointer (some ⟨b,k+(x*t.sz+o),none⟩))
 |inn (i x c:Nat) (sh:Option (List Nat)) (t:Ty) (xs:List t.El) (b k n cap:Nat) (v:Value) (h:look H i=some (.arr sh t xs)) (hx:x<xs.length) (hc:c<t.sz)
   (hh:pl.hdr i=.slice (some ⟨b,k,none⟩) n cap) (hok:okd H pl [i] (b,k+(x*t.sz+c))) (hv:w.at? (b,k+(x*t.sz+c))=some v) (h1:one v=true):ab w H pl (.inn i x c) v
 |ew (d:List Nat) (cs:List R) (b o:Nat) (vs:Nat->Value) (hc:∀j r,cs[j]? =some r->okd H pl d (b,o+j)/\w.at? (b,o+j)=some (vs j))
   (hr:∀j r,cs[j]? =some r->RepR w (okd H pl d) r (vs j)):ab w H pl (.ew d cs) (.pointer (some ⟨b,o,none⟩))
 |agg (cs:List SV) (vs:Array Value) (hl:cs.length=vs.size) (h1:∀(j:Nat) (v:Value),vs[j]? =some v->one v=true) (h:∀(j:Nat) (x:SV) (v:Value),cs[j]? =some x->vs[j]? =some v->ab w H pl x v):ab w H pl (.agg cs) (.agg vs)
 |tup (cs:List SV) (vs:Array Value) (hl:cs.length=vs.size) (h:∀(j:Nat) (x:SV) (v:Value),cs[j]? =some x->vs[j]? =some v->ab w H pl x v):ab w H pl (.tup cs) (.tuple vs)
 |fn (f:Fn) (as bs:List SV) (us vs:Array Value) (hl:as.length=us.size) (h:∀(j:Nat) (x:SV) (v:Value),as[j]? =some x->us[j]? =some v->ab w H pl x v)
   (hl':bs.length=vs.size) (h':∀(j:Nat) (x:SV) (v:Value),bs[j]? =some x->vs[j]? =some v->ab w H pl x v):ab w H pl (.fn f as bs) (.func f us vs)
 |undef (v:Value):ab w H pl .undef v
def cr (w:World) (H:ar) (pl:Pl) (i:Nat):Blk->Prop
 |.box cs=>∃b o,pl.hdr i=.pointer (some ⟨b,o,none⟩)/\(∀p,pl.fp i p↔reg b o cs.length p)/\
   ∀j v,cs[j]? =some v->∃u,w.at? (b,o+j)=some u/\calm (w.cg (b,o+j))=true/\one u=true/\ab w H pl v u
 |.arr none t xs=>Nonempty (Row w (cS w) t xs (pl.hdr i) (pl.fp i))
 |.arr (some d) t xs=>Nonempty (Row w (λr v f=>RepR w (okd H pl d) r v/\∀p,¬f p) t xs (pl.hdr i) (pl.fp i))
structure bC (H:ar) (pl:Pl) (w:World):Prop where
 blk:∀i B,look H i=some B->cr w H pl i B
 dis:∀i j B B' p,look H i=some B->look H j=some B'->pl.fp i p->pl.fp j p->i=j
 ob:∀i B p,look H i=some B->pl.fp i p->pl.base p
 nb:∀p,w.at? p=none->pl.base p
end
section
variable [Tok]
section lists
variable {α:Type}
theorem ag (k:Nat) (v:α) (l:List (Nat× α)) (n:Nat):look ((k,v)::l) n=if k=n then some v else look l n:=by
 simp only[look];cases h:Nat.beq k n
 ·have:¬k=n:=λe=>by subst e;simp at h
  simp[this]
 ·have:k=n:=EF h;simp[this]
theorem ct (l:List (Nat× α)) (n m:Nat) (v:α):look (put l n v) m=if n=m then some v else look l m:=by
 induction l with
 |nil=>rw[put,ag]
 |cons x l ih=>
  obtain⟨k,u⟩:=x;simp only[put];cases hk:Nat.beq k n
  ·simp only[cond_false,look,ih];cases hm:Nat.beq k m
   ·simp
   ·have h1:k=m:=EF hm;subst h1
    have:¬n=k:=λe=>by subst e;simp at hk
    simp[this]
  ·have h1:k=n:=EF hk;subst h1;simp only[cond_true,look];cases hm:Nat.beq k m
   ·have:¬k=m:=λe=>by subst e;simp at hm
    simp[this]
   ·have:k=m:=EF hm;simp[this]
theorem ao (l l':List (Nat× α)) (n:Nat):look (l++l') n=(look l n).or (look l' n):=by
 induction l with
 |nil=>simp[look]
 |cons x l ih=>
  obtain⟨k,u⟩:=x;simp only[FI,look];cases Nat.beq k n<;>simp[ih]
theorem mem_iff (i:Nat) (l:List Nat):mem i l=true↔i∈l:=by
 induction l with
 |nil=>simp[mem]
 |cons k l ih=>
  simp only[mem];cases h:Nat.beq k i
  ·have:¬i=k:=λe=>by subst e;simp at h
   simp[ih,this]
  ·have:k=i:=EF h;simp[this]
theorem cJ (T d:List Nat) (h:hit T d=false):∀i,mem i d=true->mem i T=false:=by
 induction d with
 |nil=>intro i hi;simp[mem]at hi
 |cons k l ih=>
  simp only[hit]at h;cases hk:mem k T
  ·rw[hk]at h;intro i hi;rw[mem_iff]at hi
   rcases EZ.1 hi with rfl|hi
   ·exact hk
   ·exact ih h i ((mem_iff i l).2 hi)
  ·rw[hk]at h;simp at h
theorem aO (n:Nat) (l:List Blk) (i:Nat):look (aA n l) i=if n<=i then l[i-n]? else none:=by
 induction l generalizing n with
 |nil=>simp[aA,look]
 |cons b l ih=>
  rw[aA,ag,ih];by_cases h:n=i
  ·subst h;simp
  ·by_cases h2:n<=i
   ·rw[if_neg h,if_pos (by omega),if_pos h2];rw[show i-n=(i-(n+1))+1 from by omega];rfl
   ·rw[if_neg h,if_neg (by omega),if_neg h2]
theorem qk (u h:ar) (i:Nat):look (je u h) i=match look u.reverse i with|some b=>some b|none=>look h i:=by
 induction u generalizing h with
 |nil=>simp[je,look]
 |cons x l ih=>
  obtain⟨k,b⟩:=x;rw[je,ih,List.reverse_cons,ao,ct,ag]
  cases look l.reverse i with
  |some c=>simp
  |none=>by_cases hk:k=i<;>simp[hk,look]
theorem se (T:Kil) (s:List (Nat× SV)) (t:Nat):look (tE T s) t=(look s t).map (SV.az T):=by
 induction s with
 |nil=>rfl
 |cons x l ih=>
  obtain⟨k,v⟩:=x;rw[tE,ag,ag,ih];by_cases h:k=t<;>simp[h]
theorem mg (T:Kil) (h h':ar) (e:l9 T h=some h') (i:Nat):
  look h' i=cond (mem i T.1) none ((look h i).bind (Blk.az T))/\(∀b,look h i=some b->mem i T.1=false->∃b',b.az T=some b'):=by
 induction h generalizing h' with
 |nil=>simp only[l9,EC]at e;subst e;simp[look]
 |cons x l ih=>
  obtain⟨k,b⟩:=x;simp only[l9]at e;cases hk:mem k T.1
  ·simp only[hk,cond_false,An,EC]at e;obtain⟨b',hb,l',hl,rfl⟩:=e;rw[ag,ag];by_cases hi:k=i
   ·subst hi;simp[hk,hb]
   ·simpa[hi]using ih l' hl
  ·simp only[hk,cond_true]at e;have:=ih h' e;rw[ag];by_cases hi:k=i
   ·subst hi;simp[hk]at this⊢;exact this
   ·simpa[hi]using this
theorem cl {α:Type} {l:List α} (h:isNil l=true):l=[]:=by cases l with|nil=>rfl|cons _ _=>exact nomatch h
theorem sf {T:Kil} (h:T.2=[]) (h1:∀i,mem i T.1=true->mem i T.2=true):T=([],[]):=by
 obtain⟨a,b⟩:=T;simp only at h h1;subst h
 cases a with
 |nil=>rfl
 |cons x l=>have:=h1 x (by simp[mem]);exact nomatch this
theorem mi (i:Nat) (a b:List Nat):mem i (a++b)=(mem i a||mem i b):=by
 induction a with
 |nil=>simp[mem]
 |cons x l ih=>simp only[FI,mem,ih];cases Nat.beq x i<;>simp
theorem CR.cX (c:CR):∀i,mem i c.kil.1=true->mem i c.kil.2=true:=λi h=>by
 show mem i (c.gone++c.eP)=true;rw[mi,show mem i c.gone=true from h];rfl
theorem fN (T:Kil) (l:List SV) (j:Nat):(dr T l)[j]? =(l[j]?).map (SV.az T):=by
 induction l generalizing j with
 |nil=>rfl
 |cons v l ih=>cases j with
  |zero=>rfl
  |succ j=>simpa[dr]using ih j
theorem c7 (T:Kil) (l:List SV):(dr T l).length=l.length:=by
 induction l with
 |nil=>rfl
 |cons v l ih=>simp[dr,ih]
end lists
def Blk.fg:Blk->Blk->Prop
 |.box a,.box b=>a.length=b.length
 |.arr _ t xs,.arr _ t' ys=>t.sz=t'.sz/\xs.length=ys.length
 |_,_=>False
theorem Blk.bQ (b:Blk):b.fg b:=by cases b<;>simp[Blk.fg]
structure eA (T:Kil) (w:World) (H:ar) (pl:Pl) (w':World) (H':ar) (pl':Pl):Prop where
 k1:∀i B,look H i=some B->mem i T.1=false->∃B',look H' i=some B'/\B.fg B'/\pl'.hdr i=pl.hdr i
 k2:∀d p u,(∀i,mem i d=true->mem i T.2=false)->okd H pl d p->w.at? p=some u->okd H' pl' d p/\w'.at? p=some u
theorem ab.bM {T:Kil} {w w':World} {H H':ar} {pl pl':Pl} (hk:eA T w H pl w' H' pl') {v:SV} {u:Value} (h:ab w H pl v u):
  ab w' H' pl' (v.az T) u:=by
 induction h with
 |r d x v h=>
  simp only[SV.az];cases hd:hit T.2 d
  ·exact .r d x v (h.frame λp u hp hu=>hk.k2 d p u (cJ T.2 d hd) hp hu)
  ·exact .undef _
 |cG=>exact .cG
 |gY=>exact .gY
 |own i sh t xs h=>
  simp only[SV.az];cases hi:mem i T.1
  ·obtain⟨B',h1,h2,h3⟩:=hk.k1 i _ h hi
   cases B' with
   |box cs=>exact h2.elim
   |arr sh' t' ys=>rw[<-h3];exact .own i sh' t' ys h1
  ·exact .undef _
 |sub i o n sh t xs a a' cap dB h hh hn hc hc' ha=>
  simp only[SV.az];cases hi:mem i T.1
  ·obtain⟨B',h1,h2,h3⟩:=hk.k1 i _ h hi
   cases B' with
   |box cs=>exact h2.elim
   |arr sh' t' ys=>
    obtain⟨hz,hl⟩:=h2;exact .sub i o n sh' t' ys a a' cap dB h1 (by rw[h3,hh,hl]) (hl▸hn) hc hc' (by rw[<-hz];exact ha)
  ·exact .undef _
 |bsl i n cs a h hh=>
  simp only[SV.az];cases hi:mem i T.1
  ·obtain⟨B',h1,h2,h3⟩:=hk.k1 i _ h hi
   cases B' with
   |arr _ _ _=>exact h2.elim
   |box ds=>
    exact .bsl i n ds a h1 (h3.trans hh)
  ·exact .undef _
 |kK i o cs b k h hh=>
  simp only[SV.az];cases hi:mem i T.1
  ·obtain⟨B',h1,h2,h3⟩:=hk.k1 i _ h hi
   cases B' with
   |arr _ _ _=>exact h2.elim
   |box ds=>exact .kK i o ds b k h1 (h3.trans hh)
  ·exact .undef _
 |jJ i x o sh t xs b k n cap h hx hh=>
  simp only[SV.az];cases hi:mem i T.1
  ·obtain⟨B',h1,h2,h3⟩:=hk.k1 i _ h hi
   cases B' with
   |box cs=>exact h2.elim
   |arr sh' t' ys=>
    obtain⟨hz,hl⟩:=h2;rw[hz];exact .jJ i x o sh' t' ys b k n cap h1 (hl▸hx) (h3.trans hh)
  ·exact .undef _
 |inn i x c sh t xs b k n cap v h hx hc hh hok hv h1=>
  simp only[SV.az];cases hi:(mem i T.1||mem i T.2)
  ·rw[Bool.or_eq_false_iff]at hi;obtain⟨B',g1,g2,g3⟩:=hk.k1 i _ h hi.1
   have g4:=hk.k2 [i] _ v (λj hj=>by
    simp only[mem]at hj;cases hb:Nat.beq i j<;>simp only[hb,cond_true,cond_false]at hj
    ·exact nomatch hj
    ·rw[<-EF hb];exact hi.2) hok hv
   cases B' with
   |box cs=>exact g2.elim
   |arr sh' t' ys=>
    obtain⟨hz,hl⟩:=g2;rw[hz]at g4 hc;exact .inn i x c sh' t' ys b k n cap v g1 (hl▸hx) hc (g3.trans hh) g4.1 g4.2 h1
  ·exact .undef _
 |ew d cs b o vs hc hr=>
  simp only[SV.az];cases hd:hit T.2 d
  ·exact .ew d cs b o vs (λj r hj=>hk.k2 d _ _ (cJ T.2 d hd) (hc j r hj).1 (hc j r hj).2)
    λj r hj=>(hr j r hj).frame λp u hp hu=>hk.k2 d p u (cJ T.2 d hd) hp hu
  ·exact .undef _
 |agg cs vs hl h1 h ih=>
  refine .agg _ vs (by rw[c7,hl]) h1 λj x v hx hv=>?_;rw[fN]at hx;obtain⟨y,hy,rfl⟩:=EI.1 hx
  exact ih j y v hy hv
 |tup cs vs hl h ih=>
  refine .tup _ vs (by rw[c7,hl]) λj x v hx hv=>?_;rw[fN]at hx;obtain⟨y,hy,rfl⟩:=EI.1 hx
  exact ih j y v hy hv
 |fn f as bs us vs hl h hl' h' ih ih'=>
  refine .fn f _ _ us vs (by rw[c7,hl]) (λj x v hx hv=>?_) (by rw[c7,hl']) λj x v hx hv=>?_
  ·rw[fN]at hx;obtain⟨y,hy,rfl⟩:=EI.1 hx;exact ih j y v hy hv
  ·rw[fN]at hx;obtain⟨y,hy,rfl⟩:=EI.1 hx
   exact ih' j y v hy hv
 |undef v=>exact .undef _
theorem oW (d:List Nat):hit [] d=false:=by
 induction d with
 |nil=>rfl
 |cons k l ih=>simpa[hit,mem]using ih
mutual
theorem bR:(v:SV)->v.az ([],[])=v
 |.r d x=>by simp[SV.az,oW]
 |.own j=>by simp[SV.az,mem]
 |.sub j o n=>by simp[SV.az,mem]
 |.bsl j n=>by simp[SV.az,mem]
 |.ptr j x o=>by simp[SV.az,mem]
 |.inn j x c=>by simp[SV.az,mem]
 |.ew d cs=>by simp[SV.az,oW]
 |.agg cs=>by simp[SV.az,dQ cs]
 |.tup cs=>by simp[SV.az,dQ cs]
 |.fn f a b=>by simp[SV.az,dQ a,dQ b]
 |.cG=>by simp[SV.az]
 |.gY=>by simp[SV.az]
 |.undef=>by simp[SV.az]
theorem dQ:(l:List SV)->dr ([],[]) l=l
 |[]=>rfl
 |v::l=>by simp[dr,bR v,dQ l]
end
theorem ab.lH {w w':World} {H H':ar} {pl pl':Pl} (hk:eA ([],[]) w H pl w' H' pl') {v:SV} {u:Value} (h:ab w H pl v u):
  ab w' H' pl' v u:=by have:=h.bM hk;rwa [bR]at this
end
section
variable [Tok]
section
variable {w:World} {H:ar} {pl:Pl}
theorem RepR.scalar {ok:Cell->Prop} {x:R} {v:Value} (h:RepR w ok x v) (ok':Cell->Prop) (hs:∀t xs,x≠.sl t xs):RepR w ok' x v:=by
 cases h with
 |int=>exact .int _ _
 |bool=>exact .bool _
 |str=>exact .str _
 |tok=>exact .tok _
 |gg v h=>exact .gg v h
 |sl t xs=>exact(hs t xs rfl).elim
theorem mj {d:List Nat} {x:R} {v:Value} (h:RepR w (okd H pl d) x v):ab w H pl (mkR d x) v:=by
 cases x with
 |sl t xs=>exact .r _ _ _ h
 |_=>exact .r _ _ _ (h.scalar _ (λ_ _ e=>nomatch e))
theorem RepR.jq {ok:Cell->Prop} {x:R} {v:Value} (h:RepR w ok x v):one v=true:=by cases h<;>first|rfl|exact Tok.wA _|assumption
def c9 (w:World) (H:ar) (pl:Pl) (s:List (Nat× SV)) (a:Act):Prop:=∀t v,look s t=some v->ab w H pl v (a.tmps.getD t undef)
theorem ml {v:Value} {x:SV} (h:kF v=some x):ab w H pl x v:=by
 unfold kF at h
 split at h<;>first|(cases h)|skip
 ·exact .r _ _ _ (.bool _)
 ·exact .r _ _ _ (.int _ _)
 ·exact .r _ _ _ (.str _)
 ·exact .cG
 ·exact .gY
theorem nD:∀{vs:List Value} {l:List SV},nz vs=some l->l.length=vs.length/\∀(j:Nat) (x:SV) (v:Value),l[j]? =some x->vs[j]? =some v->ab w H pl x v
 |[],l,h=>by cases h;exact⟨rfl,λj x v hx _=>by simp at hx⟩
 |v::vs,l,h=>by
  simp only[nz,An,EC]at h;obtain⟨x,hx,xs,hxs,rfl⟩:=h;obtain⟨h1,h2⟩:=nD hxs;refine⟨by simp[h1],λj y u hy hu=>?_⟩
  cases j with
  |zero=>simp at hy hu;subst hy hu;exact ml hx
  |succ j=>exact h2 j y u (by simpa using hy) (by simpa using hu)
theorem sg {v:Value} {x:SV} (h:kF v=some x):one v=true:=by
 unfold kF at h
 split at h<;>first|rfl|(cases h)
theorem nE:∀{vs:List Value} {l:List SV},nz vs=some l->∀(j:Nat) (v:Value),vs[j]? =some v->one v=true
 |[],l,_,j,v,hv=>by simp at hv
 |u::vs,l,h,j,v,hv=>by
  simp only[nz,An,EC]at h;obtain⟨x,hx,xs,hxs,rfl⟩:=h
  cases j with
  |zero=>simp at hv;subst hv;exact sg hx
  |succ j=>exact nE hxs j v (by simpa using hv)
theorem kL {v:Value} {x:SV} (h:tF v=some x):ab w H pl x v:=by
 unfold tF at h;split at h
 ·simp only[An,EC]at h;obtain⟨l,hl,rfl⟩:=h;obtain⟨h1,h2⟩:=nD (w:=w) (H:=H) (pl:=pl) hl;refine .agg _ _ (by simpa using h1) (λj v hv=>?_) λj x v hx hv=>h2 j x v hx (by simpa using hv);exact nE hl j v (by simpa using hv)
 ·exact ml h
theorem aC {s:List (Nat× SV)} {a:Act} (hs:c9 w H pl s a) {o:Operand} {x:SV} (h:opd s o=some x):ab w H pl x (a.eval o):=by
 cases o with
 |tmp t=>exact hs t x h
 |const v=>exact kL h
 |func f=>
  simp only[opd,EC]at h;subst h
  exact .fn _ _ _ _ _ rfl (λj x v hx _=>by simp at hx) rfl (λj x v hx _=>by simp at hx)
 |global g=>exact nomatch h
theorem cc {P:Program} {T:TypeId} {i:TypeInfo} (h:P.info? T=some i) (w:World):(sizeOf T).run P w=.ok i.size w:=by
 simp[sizeOf,typeInfo,h]
theorem br {P:Program} {T:TypeId} {d:TypeDesc} (h:P.underlying T=some d) (w:World):(underlying T).run P w=.ok d w:=by
 simp[underlying,h]
theorem eH {P:Program} {T:TypeId} {d:TypeDesc} (h:P.underlying T=some d) (w:World):(isAgg T).run P w=.ok (ma P T) w:=by
 simp only[isAgg,Sem.run_bind,br h,Result.andThen_ok,ma,h];cases d<;>rfl
theorem mm (hr:bC H pl w) {p:SV} {u:Value} (hp:ab w H pl p u) {cs:List SV} (h:eO H p=some cs):
  ∃b o,u=.pointer (some ⟨b,o,none⟩)/\∀(j:Nat) (x:SV),cs[j]? =some x->∃y,w.at? (b,o+j)=some y/\one y=true/\ab w H pl x y:=by
 cases hp with
 |ew d cs' b o vs hc hr'=>
  simp only[eO,EC]at h;subst h;refine⟨b,o,rfl,λj x hx=>?_⟩;rw[E7]at hx;obtain⟨r,hj,rfl⟩:=EI.1 hx
  exact⟨vs j,(hc j r hj).2,(hr' j r hj).jq,mj (hr' j r hj)⟩
 |kK i o cs' b k hl hh=>
  simp only[eO,hl,EC]at h;subst h;obtain⟨b',o',e,_,hc⟩:=hr.blk i _ hl;rw[hh]at e;cases e;refine⟨b,k+o,rfl,λj x hx=>?_⟩;rw[EY]at hx;obtain⟨y,h1,_,h3,h4⟩:=hc _ _ hx
  exact⟨y,by rw[Fs];exact h1,h3,h4⟩
 |jJ i x o sh t xs b k n cap hl hx hh=>
  simp only[eO,hl,An,EC]at h;obtain⟨e,he,rfl⟩:=h;have hb:=hr.blk i _ hl;refine⟨b,k+(x*t.sz+o),rfl,λj y hy=>?_⟩;rw[EY,E7]at hy;obtain⟨r,hj,rfl⟩:=EI.1 hy;have hcell:al t xs x (o+j) r:=⟨e,he,hj⟩
  cases sh with
  |none=>
   obtain⟨R⟩:=hb;obtain⟨a',dB,b',o',vs,fs,h1,h2,h3,h4,h5,h6,h7,h8,h9⟩:=R;rw[hh]at h1;cases h1
   have hne:cap≠0:=by omega
   have h3:=h3.resolve_left hne;cases h3;refine⟨vs x (o+j),by rw[show k+(x*t.sz+o)+j=k+(x*t.sz+(o+j))from by omega];exact h5 _ _ _ hcell,?_,?_⟩
   ·exact((h6 _ _ _ hcell).wC (ok:=λ_=>True) (λ_ _=>trivial)).jq
   ·refine mj ((h6 _ _ _ hcell).wC λp hp=>⟨hr.ob i _ p hl ((h9 p).2 (.inr ⟨_,_,_,hcell,hp⟩)),λi' B hB hm hf=>?_⟩);have hp':pl.fp i p:=(h9 p).2 (.inr ⟨_,_,_,hcell,hp⟩);have:=hr.dis i' i _ _ p hB hl hf hp';subst this;have hbx:=hm (by simp[wc,mem]);rw[hl]at hB;cases hB
    simp[Blk.eR]at hbx
  |some d=>
   obtain⟨R⟩:=hb;obtain⟨a',dB,b',o',vs,fs,h1,h2,h3,h4,h5,h6,h7,h8,h9⟩:=R;rw[hh]at h1;cases h1
   have hne:cap≠0:=by omega
   have h3:=h3.resolve_left hne;cases h3
   exact⟨vs x (o+j),by rw[show k+(x*t.sz+o)+j=k+(x*t.sz+(o+j))from by omega];exact h5 _ _ _ hcell,(h6 _ _ _ hcell).1.jq,mj (h6 _ _ _ hcell).1⟩
 |_=>exact nomatch h
theorem nF {α:Type} {n:Nat} {l m:List α} (h:takeN n l=some m):m.length=n/\∀j,j<n->m[j]? =l[j]? :=by
 unfold takeN at h;cases hn:Nat.ble n l.length
 ·simp[hn]at h
 ·simp only[hn,cond_true,EC]at h;subst h;have:=EO hn;exact⟨by simp[this],λj hj=>by simp[hj]⟩
theorem oX {P:Program} {T:TypeId} {cs:List SV} {v:SV} (h:dz P T cs=some v) (b o:Nat)
  (hc:∀(j:Nat) (x:SV),cs[j]? =some x->∃y,w.at? (b,o+j)=some y/\one y=true/\ab w H pl x y):
  ∃u,(loadVar T ⟨b,o,none⟩).run P w=.ok u w/\ab w H pl v u:=by
 simp only[dz,An]at h;obtain⟨d,hd,i,hi,l,hl,h⟩:=h;obtain⟨h1,h2⟩:=nF hl
 have hy:∀j,j<i.size->∃y x,l[j]? =some x/\w.at? (b,o+j)=some y/\ab w H pl x y:=λj hj=>by
  have hx:l[j]? =some (l[j]'(by omega)):=EE (by omega);obtain⟨y,h3,_,h5⟩:=hc j _ ((h2 j hj)▸hx);exact⟨y,_,hx,h3,h5⟩
 cases ha:ma P T
 ·simp only[ha,cond_false]at h
  match l,h1,hl,h,hy,h2 with
  |[x],h1,hl,h,hy,h2=>
   simp only[EC]at h;subst h;have h1:i.size=1:=h1.symm;obtain⟨y,x',h3,h4,h5⟩:=hy 0 (by omega);simp at h3;subst h3;refine⟨y,?_,h5⟩;have h4:w.cell? ⟨b,o,none⟩=some y:=h4;simp[loadVar,eH hd,ha,h4]
 ·simp only[ha,cond_true,EC]at h;subst h
  let f:Nat->Value:=λj=>(w.at? (b,o+j)).getD undef
  have hf:∀j,j<i.size->w.cell? (Addr.add ⟨b,o,none⟩ j)=some (f j):=λj hj=>by
   obtain⟨y,x,_,h4,_⟩:=hy j hj
   have e:Addr.add ⟨b,o,none⟩ j=⟨b,o+j,none⟩:=by
    unfold Addr.add;split
    ·rename_i h0;subst h0;rfl
    ·rfl
   rw[e];show w.at? (b,o+j)=some (f j);simp only[f,h4];rfl
  have nG:∀j,j<i.size->one (f j)=true:=λj hj=>by
   have hx:l[j]? =some (l[j]'(by omega)):=EE (by omega);obtain⟨y,h3,h4,_⟩:=hc j _ ((h2 j hj)▸hx);simp only[f,h3];exact h4
  refine⟨.agg ((List.range i.size).map f).toArray,?_,?_⟩
  ·simp[loadVar,eH hd,ha,cc hi,run_loadCells (P:=P) w ⟨b,o,none⟩ i.size f hf]
  ·refine .agg _ _ (by simp[h1]) (λj v hv=>by
    by_cases hj:j<i.size
    ·have:v=f j:=by simp[hj]at hv;exact hv.symm
     rw[this];exact nG j hj
    ·simp[hj]at hv) λj x v hx hv=>?_
   have hj:j<i.size:=by have:=(ED.1 hx).1;omega
   obtain⟨y,x',h3,h4,h5⟩:=hy j hj;rw[h3]at hx;cases hx
   have:v=f j:=by simp[hj]at hv;exact hv.symm
   subst this;simp only[f,h4];exact h5
end
end
end Go.Proofs.Ev
