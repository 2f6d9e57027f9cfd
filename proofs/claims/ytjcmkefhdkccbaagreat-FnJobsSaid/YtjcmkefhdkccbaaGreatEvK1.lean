/- The evaluator over the model's code, and that it is sound: part 1. -/
import Derived.Calls
import Derived.Laws.IdiomCopy
import Derived.Laws.Cells
import Derived.Laws.Sem
set_option linter.unusedVariables false
set_option linter.unusedSimpArgs false
namespace Go.Proofs.Ev
structure Shape where
  h:Int
  w:Int
  c:Int
  deriving DecidableEq
structure al where
  sh:Shape
  data:List Int
  deriving DecidableEq
structure ag where
  kind:Int
  out:Int
  size:Int
  step:Int
  mult:Int
  shift:Int
  zero:Int
  weights:List Int
  fX:List Int
  deriving DecidableEq
structure Model where
  inp:Shape
  ai:List ag
  deriving DecidableEq
structure Job where
  model:Model
  at_:Int
  act:al
  cS:Int
  deriving DecidableEq
structure Task where
  id:Int
  CG:List Int
  at_:Int
  due:Int
  born:Int
  deriving DecidableEq
structure CH where
  now:Int
  Gz:Int
  age:Int
  tasks:List Task
  run:Int
  left:Int
  turns:Int
  next:Int
  deriving DecidableEq
structure Request where
  id:Int
  model:Int
  job:Job
  due:Int
  deriving DecidableEq
structure Runtime where
  sched:CH
  Fk:List Model
  Fl:List Bool
  CI:List Request
  deriving DecidableEq
structure Step where
  kind:Int
  a:Int
  b:Int
  data:List Int
  input:al
  deriving DecidableEq
structure Event where
  kind:Int
  a:Int
  b:Int
  out:al
  deriving DecidableEq
structure Entry where
  id:Int
  model:Model
  input:al
  at_:Int
  due:Int
  end_:Int
  done:Bool
  deriving DecidableEq
structure Fm where
  id:Int
  model:Int
  due:Int
  deriving DecidableEq
structure Av where
  id:Int
  CG:Nat
  at_:Int
  due:Int
  born:Int
  deriving DecidableEq
structure mj where
  id:Int
  model:Int
  mh:Int
  mw:Int
  mc:Int
  ai:Nat
  jat:Int
  ah:Int
  aw:Int
  ac:Int
  data:Nat
  cS:Int
  due:Int
  deriving DecidableEq
inductive S where
  |shape|bK|aC|model|task|request|step|event|entry|CA|pA|eH
  deriving DecidableEq
inductive Ty where
  |int (k:IntKind)|bool|str|sl (t:Ty)|st (s:S)|tok
  |ho (s:S)|hl (t:Ty)
  deriving DecidableEq
def S.E:S→Type
  |.shape=>Shape|.bK=>al|.aC=>ag|.model=>Model|.task=>Task|.request=>Request
  |.step=>Step|.event=>Event|.entry=>Entry|.CA=>Fm|.pA=>Av|.eH=>mj
def Ty.El:Ty→Type
  |.int _=>Int
  |.bool=>Bool
  |.str=>List UInt8
  |.sl t=>List t.El
  |.st s=>s.E
  |.tok=>Nat
  |.ho s=>Option s.E
  |.hl t=>Option (List t.El)
inductive R where
  |int (k:IntKind) (n:Int)
  |bool (b:Bool)
  |str (l:List UInt8)
  |sl (t:Ty) (xs:List t.El)
  |tok (n:Nat)
  |jW
abbrev R.i (n:Int):R:=.int .i64 n
abbrev R.ints (xs:List Int):R:=.sl (.int .i64) xs
abbrev R.bytes (xs:List Int):R:=.sl (.int .u8) xs
def Aw (x:Shape):List R:=[.i x.h,.i x.w,.i x.c]
def Ax (x:al):List R:=[.i x.sh.h,.i x.sh.w,.i x.sh.c,.ints x.data]
def DV (x:ag):List R:=[.i x.kind,.i x.out,.i x.size,.i x.step,.i x.mult,.i x.shift,.i x.zero,.ints x.weights,.ints x.fX]
def DW (x:Model):List R:=[.i x.inp.h,.i x.inp.w,.i x.inp.c,.sl (.st .aC) x.ai]
def Fo (x:Task):List R:=[.i x.id,.ints x.CG,.i x.at_,.i x.due,.i x.born]
def xu (x:Request):List R:=[.i x.id,.i x.model,.i x.job.model.inp.h,.i x.job.model.inp.w,.i x.job.model.inp.c,.sl (.st .aC) x.job.model.ai,.i x.job.at_,.i x.job.act.sh.h,.i x.job.act.sh.w,.i x.job.act.sh.c,.ints x.job.act.data,.i x.job.cS,.i x.due]
def Fp (x:Step):List R:=[.i x.kind,.i x.a,.i x.b,.bytes x.data,.i x.input.sh.h,.i x.input.sh.w,.i x.input.sh.c,.ints x.input.data]
def DX (x:Event):List R:=[.i x.kind,.i x.a,.i x.b,.i x.out.sh.h,.i x.out.sh.w,.i x.out.sh.c,.ints x.out.data]
def DY (x:Entry):List R:=[.i x.id,.i x.model.inp.h,.i x.model.inp.w,.i x.model.inp.c,.sl (.st .aC) x.model.ai,.i x.input.sh.h,.i x.input.sh.w,.i x.input.sh.c,.ints x.input.data,.i x.at_,.i x.due,.i x.end_,.bool x.done]
def Ed (x:Fm):List R:=[.i x.id,.i x.model,.i x.due]
def Ay (x:Av):List R:=[.i x.id,.tok x.CG,.i x.at_,.i x.due,.i x.born]
def pB (x:mj):List R:=[.i x.id,.i x.model,.i x.mh,.i x.mw,.i x.mc,.tok x.ai,.i x.jat,.i x.ah,.i x.aw,.i x.ac,.tok x.data,.i x.cS,.i x.due]
def S.sz:S→Nat
  |.shape=>3|.bK=>4|.aC=>9|.model=>4|.task=>5|.request=>13|.step=>8|.event=>7|.entry=>13|.CA=>3|.pA=>5|.eH=>13
def S.cells:(s:S)→s.E→List R
  |.shape=>Aw|.bK=>Ax|.aC=>DV|.model=>DW|.task=>Fo|.request=>xu
  |.step=>Fp|.event=>DX|.entry=>DY|.CA=>Ed|.pA=>Ay|.eH=>pB
def Ty.sz:Ty→Nat
  |.st s=>s.sz
  |.ho s=>s.sz
  |_=>1
def Ty.cells:(t:Ty)→t.El→List R
  |.int k,n=>[.int k n]
  |.bool,b=>[.bool b]
  |.str,l=>[.str l]
  |.sl t,xs=>[.sl t xs]
  |.st s,x=>s.cells x
  |.tok,n=>[.tok n]
  | .ho s, x => match x with
    |some x=>s.cells x
    |none=>List.replicate s.sz .jW
  | .hl t, x => match x with
    |some xs=>[.sl t xs]
    |none=>[.jW]
theorem S.bz (s:S) (x:s.E):(s.cells x).length=s.sz:=by cases s<;>rfl
theorem Ty.bz (t:Ty) (x:t.El):(t.cells x).length=t.sz:=by
  cases t with
  |st s=>exact s.bz x
  | ho s => cases x with
    |none=>simp[Ty.cells,Ty.sz]
    |some x=>exact s.bz x
  |hl t=>cases x<;>rfl
  |_=>rfl
theorem Ty.eI (t:Ty):0<t.sz:=by
  cases t with
  |st s=>cases s<;>simp[Ty.sz,S.sz]
  |ho s=>cases s<;>simp[Ty.sz,S.sz]
  |_=>simp[Ty.sz]
def R.asI:R→Option Int
  |.int .i64 n=>some n
  |_=>none
def R.asB:R→Option Bool
  |.bool b=>some b
  |_=>none
def R.asL (t:Ty):R→Option (List t.El)
  |.sl t' xs=>if h:t'=t then some (h▸xs)else none
  |_=>none
def R.asT:R→Option Nat
  |.tok n=>some n
  |_=>none
theorem R.sn {r:R} {n:Nat} (h:r.asT=some n):r=.tok n:=by
  unfold R.asT at h;split at h
  · cases h;rfl
  · cases h
theorem R.ar {r:R} {n:Int} (h:r.asI=some n):r=.int .i64 n:=by
  unfold R.asI at h;split at h
  · cases h;rfl
  · cases h
theorem R.CJ {r:R} {n:Bool} (h:r.asB=some n):r=.bool n:=by
  unfold R.asB at h;split at h
  · cases h;rfl
  · cases h
theorem R.c9 {t:Ty} {r:R} {n:List t.El} (h:r.asL t=some n):r=.sl t n:=by
  unfold R.asL at h;split at h
  · split at h
    · rename_i e;subst e;cases h;rfl
    · cases h
  · cases h
def tP:List R→Option Shape
  |[a',b',c']=>(a'.asI).bind fun a=>(b'.asI).bind fun b=>(c'.asI).bind fun c=>some ⟨a,b,c⟩
  |_=>none
theorem vO (cs:List R) (x:Shape) (h:tP cs=some x):Aw x=cs:=by
  unfold tP at h
  split at h
  · simp only[Option.bind_eq_some_iff]at h
    obtain⟨a,ha,b,hb,c,hc,h⟩:=h
    cases h
    rw[R.ar ha,R.ar hb,R.ar hc];rfl
  · cases h
def pC:List R→Option al
  |[a',b',c',d']=>(a'.asI).bind fun a=>(b'.asI).bind fun b=>(c'.asI).bind fun c=>(d'.asL (.int .i64)).bind fun d=>some ⟨⟨a,b,c⟩,d⟩
  |_=>none
theorem tQ (cs:List R) (x:al) (h:pC cs=some x):Ax x=cs:=by
  unfold pC at h
  split at h
  · simp only[Option.bind_eq_some_iff]at h
    obtain⟨a,ha,b,hb,c,hc,d,hd,h⟩:=h
    cases h
    rw[R.ar ha,R.ar hb,R.ar hc,R.c9 hd];rfl
  · cases h
def tR:List R→Option ag
  |[a',b',c',d',e',f',g',h',i']=>(a'.asI).bind fun a=>(b'.asI).bind fun b=>(c'.asI).bind fun c=>(d'.asI).bind fun d=>(e'.asI).bind fun e=>(f'.asI).bind fun f=>(g'.asI).bind fun g=>(h'.asL (.int .i64)).bind fun h=>(i'.asL (.int .i64)).bind fun i=>some ⟨a,b,c,d,e,f,g,h,i⟩
  |_=>none
theorem vP (cs:List R) (x:ag) (h:tR cs=some x):DV x=cs:=by
  unfold tR at h
  split at h
  · simp only[Option.bind_eq_some_iff]at h
    obtain⟨a,ha,b,hb,c,hc,d,hd,e,he,f,hf,g,hg,h,hh,i,hi,h⟩:=h
    cases h
    rw[R.ar ha,R.ar hb,R.ar hc,R.ar hd,R.ar he,R.ar hf,R.ar hg,R.c9 hh,R.c9 hi];rfl
  · cases h
def tS:List R→Option Model
  |[a',b',c',d']=>(a'.asI).bind fun a=>(b'.asI).bind fun b=>(c'.asI).bind fun c=>(d'.asL (.st .aC)).bind fun d=>some ⟨⟨a,b,c⟩,d⟩
  |_=>none
theorem vQ (cs:List R) (x:Model) (h:tS cs=some x):DW x=cs:=by
  unfold tS at h
  split at h
  · simp only[Option.bind_eq_some_iff]at h
    obtain⟨a,ha,b,hb,c,hc,d,hd,h⟩:=h
    cases h
    rw[R.ar ha,R.ar hb,R.ar hc,R.c9 hd];rfl
  · cases h
def Az:List R→Option Task
  |[a',b',c',d',e']=>(a'.asI).bind fun a=>(b'.asL (.int .i64)).bind fun b=>(c'.asI).bind fun c=>(d'.asI).bind fun d=>(e'.asI).bind fun e=>some ⟨a,b,c,d,e⟩
  |_=>none
theorem zb (cs:List R) (x:Task) (h:Az cs=some x):Fo x=cs:=by
  unfold Az at h
  split at h
  · simp only[Option.bind_eq_some_iff]at h
    obtain⟨a,ha,b,hb,c,hc,d,hd,e,he,h⟩:=h
    cases h
    rw[R.ar ha,R.c9 hb,R.ar hc,R.ar hd,R.ar he];rfl
  · cases h
def ml:List R→Option Request
  |[a',b',c',d',e',f',g',h',i',j',k',l',m']=>(a'.asI).bind fun a=>(b'.asI).bind fun b=>(c'.asI).bind fun c=>(d'.asI).bind fun d=>(e'.asI).bind fun e=>(f'.asL (.st .aC)).bind fun f=>(g'.asI).bind fun g=>(h'.asI).bind fun h=>(i'.asI).bind fun i=>(j'.asI).bind fun j=>(k'.asL (.int .i64)).bind fun k=>(l'.asI).bind fun l=>(m'.asI).bind fun m=>some ⟨a,b,⟨⟨⟨c,d,e⟩,f⟩,g,⟨⟨h,i,j⟩,k⟩,l⟩,m⟩
  |_=>none
theorem sq (cs:List R) (x:Request) (h:ml cs=some x):xu x=cs:=by
  unfold ml at h
  split at h
  · simp only[Option.bind_eq_some_iff]at h
    obtain⟨a,ha,b,hb,c,hc,d,hd,e,he,f,hf,g,hg,h,hh,i,hi,j,hj,k,hk,l,hl,m,hm,h⟩:=h
    cases h
    rw[R.ar ha,R.ar hb,R.ar hc,R.ar hd,R.ar he,R.c9 hf,R.ar hg,R.ar hh,R.ar hi,R.ar hj,R.c9 hk,R.ar hl,R.ar hm];rfl
  · cases h
def AA:List R→Option Step
  |[a',b',c',d',e',f',g',h']=>(a'.asI).bind fun a=>(b'.asI).bind fun b=>(c'.asI).bind fun c=>(d'.asL (.int .u8)).bind fun d=>(e'.asI).bind fun e=>(f'.asI).bind fun f=>(g'.asI).bind fun g=>(h'.asL (.int .i64)).bind fun h=>some ⟨a,b,c,d,⟨⟨e,f,g⟩,h⟩⟩
  |_=>none
theorem zc (cs:List R) (x:Step) (h:AA cs=some x):Fp x=cs:=by
  unfold AA at h
  split at h
  · simp only[Option.bind_eq_some_iff]at h
    obtain⟨a,ha,b,hb,c,hc,d,hd,e,he,f,hf,g,hg,h,hh,h⟩:=h
    cases h
    rw[R.ar ha,R.ar hb,R.ar hc,R.c9 hd,R.ar he,R.ar hf,R.ar hg,R.c9 hh];rfl
  · cases h
def tT:List R→Option Event
  |[a',b',c',d',e',f',g']=>(a'.asI).bind fun a=>(b'.asI).bind fun b=>(c'.asI).bind fun c=>(d'.asI).bind fun d=>(e'.asI).bind fun e=>(f'.asI).bind fun f=>(g'.asL (.int .i64)).bind fun g=>some ⟨a,b,c,⟨⟨d,e,f⟩,g⟩⟩
  |_=>none
theorem vR (cs:List R) (x:Event) (h:tT cs=some x):DX x=cs:=by
  unfold tT at h
  split at h
  · simp only[Option.bind_eq_some_iff]at h
    obtain⟨a,ha,b,hb,c,hc,d,hd,e,he,f,hf,g,hg,h⟩:=h
    cases h
    rw[R.ar ha,R.ar hb,R.ar hc,R.ar hd,R.ar he,R.ar hf,R.c9 hg];rfl
  · cases h
def tU:List R→Option Entry
  |[a',b',c',d',e',f',g',h',i',j',k',l',m']=>(a'.asI).bind fun a=>(b'.asI).bind fun b=>(c'.asI).bind fun c=>(d'.asI).bind fun d=>(e'.asL (.st .aC)).bind fun e=>(f'.asI).bind fun f=>(g'.asI).bind fun g=>(h'.asI).bind fun h=>(i'.asL (.int .i64)).bind fun i=>(j'.asI).bind fun j=>(k'.asI).bind fun k=>(l'.asI).bind fun l=>(m'.asB).bind fun m=>some ⟨a,⟨⟨b,c,d⟩,e⟩,⟨⟨f,g,h⟩,i⟩,j,k,l,m⟩
  |_=>none
theorem vS (cs:List R) (x:Entry) (h:tU cs=some x):DY x=cs:=by
  unfold tU at h
  split at h
  · simp only[Option.bind_eq_some_iff]at h
    obtain⟨a,ha,b,hb,c,hc,d,hd,e,he,f,hf,g,hg,h,hh,i,hi,j,hj,k,hk,l,hl,m,hm,h⟩:=h
    cases h
    rw[R.ar ha,R.ar hb,R.ar hc,R.ar hd,R.c9 he,R.ar hf,R.ar hg,R.ar hh,R.c9 hi,R.ar hj,R.ar hk,R.ar hl,R.CJ hm];rfl
  · cases h
def AB:List R→Option Fm
  |[a',b',c']=>(a'.asI).bind fun a=>(b'.asI).bind fun b=>(c'.asI).bind fun c=>some ⟨a,b,c⟩
  |_=>none
theorem zd (cs:List R) (x:Fm) (h:AB cs=some x):Ed x=cs:=by
  unfold AB at h
  split at h
  · simp only[Option.bind_eq_some_iff]at h
    obtain⟨a,ha,b,hb,c,hc,h⟩:=h
    cases h
    rw[R.ar ha,R.ar hb,R.ar hc];rfl
  · cases h
def xv:List R→Option Av
  |[a',b',c',d',e']=>(a'.asI).bind fun a=>(b'.asT).bind fun b=>(c'.asI).bind fun c=>(d'.asI).bind fun d=>(e'.asI).bind fun e=>some ⟨a,b,c,d,e⟩
  |_=>none
theorem vT (cs:List R) (x:Av) (hq:xv cs=some x):Ay x=cs:=by
  unfold xv at hq
  split at hq
  · simp only[Option.bind_eq_some_iff]at hq
    obtain⟨a,ha,b,hb,c,hc,d,hd,e,he,hq⟩:=hq
    cases hq
    rw[R.ar ha,R.sn hb,R.ar hc,R.ar hd,R.ar he];rfl
  · cases hq
def mm:List R→Option mj
  |[a',b',c',d',e',f',g',h',i',j',k',l',m']=>(a'.asI).bind fun a=>(b'.asI).bind fun b=>(c'.asI).bind fun c=>(d'.asI).bind fun d=>(e'.asI).bind fun e=>(f'.asT).bind fun f=>(g'.asI).bind fun g=>(h'.asI).bind fun h=>(i'.asI).bind fun i=>(j'.asI).bind fun j=>(k'.asT).bind fun k=>(l'.asI).bind fun l=>(m'.asI).bind fun m=>some ⟨a,b,c,d,e,f,g,h,i,j,k,l,m⟩
  |_=>none
theorem qM (cs:List R) (x:mj) (hq:mm cs=some x):pB x=cs:=by
  unfold mm at hq
  split at hq
  · simp only[Option.bind_eq_some_iff]at hq
    obtain⟨a,ha,b,hb,c,hc,d,hd,e,he,f,hf,g,hg,h0,hh,i,hi,j,hj,k,hk,l,hl,m,hm,hq⟩:=hq
    cases hq
    rw[R.ar ha,R.ar hb,R.ar hc,R.ar hd,R.ar he,R.sn hf,R.ar hg,R.ar hh,R.ar hi,R.ar hj,R.sn hk,R.ar hl,R.ar hm];rfl
  · cases hq
def S.dd:(s:S)→List R→Option s.E
  |.shape=>tP
  |.bK=>pC
  |.aC=>tR
  |.model=>tS
  |.task=>Az
  |.request=>ml
  |.step=>AA
  |.event=>tT
  |.entry=>tU
  |.CA=>AB
  |.pA=>xv
  |.eH=>mm
def Ty.oA:(t:Ty)→R→Option t.El
  |.int k,.int k' n=>if k'=k then some n else none
  |.bool,.bool b=>some b
  |.str,.str l=>some l
  |.sl t,.sl t' xs=>if h:t'=t then some (h▸xs)else none
  |.tok,.tok n=>some n
  |.hl t,.sl t' xs=>if h:t'=t then some (some (h▸xs))else none
  |_,_=>none
def Ty.dd:(t:Ty)→List R→Option t.El
  |.st s,cs=>s.dd cs
  |.ho s,cs=>(s.dd cs).bind fun x=>some (some x)
  |t,[r]=>t.oA r
  |_,_=>none
theorem Ty.vU (t:Ty) (r:R) (x:t.El) (h:t.oA r=some x):t.cells x=[r]:=by
  cases t with
  |st s=>cases r<;>exact nomatch h
  | int k =>
    cases r with
    | int k' n =>
      replace h:(if k'=k then some n else none)=some x:=h
      split at h
      · rename_i e;subst e;cases h;rfl
      · cases h
    |_=>exact nomatch h
  | bool =>
    cases r with
    |bool b=>cases h;rfl
    |_=>exact nomatch h
  | str =>
    cases r with
    |str b=>cases h;rfl
    |_=>exact nomatch h
  | sl t =>
    cases r with
    | sl t' xs =>
      replace h:(if h:t'=t then some (h▸xs)else none)=some x:=h
      split at h
      · rename_i e;subst e;cases h;rfl
      · cases h
    |_=>exact nomatch h
  | tok =>
    cases r with
    |tok n=>cases h;rfl
    |_=>exact nomatch h
  |ho s=>cases r<;>exact nomatch h
  | hl t =>
    cases r with
    | sl t' xs =>
      replace h:(if h:t'=t then some (some (h▸xs))else none)=some x:=h
      split at h
      · rename_i e;subst e;cases h;rfl
      · cases h
    |_=>exact nomatch h
theorem S.bL (s:S) (cs:List R) (x:s.E) (h:s.dd cs=some x):s.cells x=cs:=by
  cases s
  · exact vO cs x h
  · exact tQ cs x h
  · exact vP cs x h
  · exact vQ cs x h
  · exact zb cs x h
  · exact sq cs x h
  · exact zc cs x h
  · exact vR cs x h
  · exact vS cs x h
  · exact zd cs x h
  · exact vT cs x h
  · exact qM cs x h
theorem Ty.bL (t:Ty) (cs:List R) (x:t.El) (h:t.dd cs=some x):t.cells x=cs:=by
  cases t with
  |st s=>exact S.bL s cs x h
  | ho s =>
    replace h:(s.dd cs).bind (fun x=>some (some x))=some x:=h
    obtain⟨y,hy,e⟩:=Option.bind_eq_some_iff.1 h
    cases e
    exact S.bL s cs y hy
  | _ =>
    match cs,h with
    |[r],h=>exact Ty.vU _ r x h
end Go.Proofs.Ev
namespace Go.Proofs.Ev
inductive SV where
  |r (d:List Nat) (x:R)
  |bn
  |j7
  |own (i:Nat)
  |sub (i off len:Nat)
  |bsl (i n:Nat)
  |ptr (i idx off:Nat)
  |inn (i x c:Nat)
  |fU (d:List Nat) (cs:List R)
  |agg (cs:List SV)
  |tup (vs:List SV)
  |fn (f:Fn) (first cap:List SV)
  |undef
abbrev SV.i (n:Int):SV:=.r [] (.int .i64 n)
abbrev SV.b (b:Bool):SV:=.r [] (.bool b)
inductive Blk where
  |box (cs:List SV)
  |arr (sh:Option (List Nat)) (t:Ty) (xs:List t.El)
abbrev aD:=List (Nat× Blk)
structure St where
  au:List (Nat× SV)
  heap:aD
  nid:Nat
  n:Nat
  gh:List (Option Nat):=[]
def look {α:Type}:List (Nat× α)→Nat→Option α
  |[],_=>none
  |(k,v)::l,n=>cond (Nat.beq k n) (some v) (look l n)
def put {α:Type}:List (Nat× α)→Nat→α→List (Nat× α)
  |[],n,v=>[(n,v)]
  |(k,u)::l,n,v=>cond (Nat.beq k n) ((k,v)::l) ((k,u)::put l n v)
def idx {α:Type} (xs:List α) (i:Int):Option α:=cond (decide (0≤i)) xs[i.toNat]? none
def mem (i:Nat):List Nat→Bool
  |[]=>false
  |k::l=>cond (Nat.beq k i) true (mem i l)
def hit (T:List Nat):List Nat→Bool
  |[]=>false
  |k::l=>cond (mem k T) true (hit T l)
abbrev Kil:=List Nat× List Nat
mutual
def SV.aG (T:Kil):SV→SV
  |.r d x=>cond (hit T.2 d) .undef (.r d x)
  |.own j=>cond (mem j T.1) .undef (.own j)
  |.sub j o n=>cond (mem j T.1) .undef (.sub j o n)
  |.bsl j n=>cond (mem j T.1) .undef (.bsl j n)
  |.ptr j x o=>cond (mem j T.1) .undef (.ptr j x o)
  |.inn j x c=>cond (mem j T.1||mem j T.2) .undef (.inn j x c)
  |.fU d cs=>cond (hit T.2 d) .undef (.fU d cs)
  |.agg cs=>.agg (ek T cs)
  |.tup cs=>.tup (ek T cs)
  |.fn f a b=>.fn f (ek T a) (ek T b)
  |.bn=>.bn
  |.j7=>.j7
  |.undef=>.undef
def ek (T:Kil):List SV→List SV
  |[]=>[]
  |v::l=>v.aG T::ek T l
end
def Blk.aG (T:Kil):Blk→Option Blk
  |.box cs=>some (.box (ek T cs))
  |.arr none t xs=>some (.arr none t xs)
  |.arr (some d) t xs=>cond (hit T.2 d) none (some (.arr (some d) t xs))
def pD (T:Kil):aD→Option aD
  |[]=>some []
  |(k,b)::l=>cond (mem k T.1) (pD T l) ((b.aG T).bind fun b=>(pD T l).bind fun l=>some ((k,b)::l))
def xw (T:Kil):List (Nat× SV)→List (Nat× SV)
  |[]=>[]
  |(k,v)::l=>(k,v.aG T)::xw T l
def eJ (T:Kil) (h:aD):Option aD:=
  match T.2 with
  |[]=>some h
  |_=>pD T h
def jk (T:Kil) (s:List (Nat× SV)):List (Nat× SV):=
  match T.2 with
  |[]=>s
  |_=>xw T s
def SV.list (h:aD) (t:Ty):SV→Option (List Nat× List t.El)
  |.r d x=>(x.asL t).bind fun xs=>some (d,xs)
  |.bn=>some ([],[])
  | .own i => match look h i with
    |some (.arr sh t' xs)=>if e:t'=t then some (i::sh.getD [],e▸xs)else none
    |_=>none
  | .sub i o n => match look h i with
    |some (.arr sh t' xs)=>if e:t'=t then some (i::sh.getD [],((e▸xs).drop o).take n)else none
    |_=>none
  |_=>none
def SV.asInt (k:IntKind):SV→Option Int
  |.r _ (.int k' n)=>cond (decide (k'=k)) (some n) none
  |_=>none
def SV.asI:SV→Option Int
  |.r _ (.int _ n)=>some n
  |_=>none
def SV.asB:SV→Option Bool
  |.r _ (.bool b)=>some b
  |_=>none
def SV.asR (h:aD) (t:Ty) (v:SV):Option (List Nat× R):=
  match t with
  |.sl t'=>(v.list h t').bind fun p=>some (p.1,.sl t' p.2)
  |.st _=>none
  | .tok => match v with
    |.r d (.tok n)=>some (d,.tok n)
    |.bn=>some ([],.tok 0)
    |_=>none
  | _ => match v with
    |.r d x=>some (d,x)
    |_=>none
def S.tys:S→List Ty
  |.shape=>[.int .i64,.int .i64,.int .i64]
  |.bK=>[.int .i64,.int .i64,.int .i64,.sl (.int .i64)]
  |.aC=>[.int .i64,.int .i64,.int .i64,.int .i64,.int .i64,.int .i64,.int .i64,.sl (.int .i64),.sl (.int .i64)]
  |.model=>[.int .i64,.int .i64,.int .i64,.sl (.st .aC)]
  |.task=>[.int .i64,.sl (.int .i64),.int .i64,.int .i64,.int .i64]
  |.request=>[.int .i64,.int .i64,.int .i64,.int .i64,.int .i64,.sl (.st .aC),.int .i64,.int .i64,.int .i64,.int .i64,.sl (.int .i64),.int .i64,.int .i64]
  |.step=>[.int .i64,.int .i64,.int .i64,.sl (.int .u8),.int .i64,.int .i64,.int .i64,.sl (.int .i64)]
  |.event=>[.int .i64,.int .i64,.int .i64,.int .i64,.int .i64,.int .i64,.sl (.int .i64)]
  |.entry=>[.int .i64,.int .i64,.int .i64,.int .i64,.sl (.st .aC),.int .i64,.int .i64,.int .i64,.sl (.int .i64),.int .i64,.int .i64,.int .i64,.bool]
  |.CA=>[.int .i64,.int .i64,.int .i64]
  |.pA=>[.int .i64,.tok,.int .i64,.int .i64,.int .i64]
  |.eH=>[.int .i64,.int .i64,.int .i64,.int .i64,.int .i64,.tok,.int .i64,.int .i64,.int .i64,.int .i64,.tok,.int .i64,.int .i64]
def Ty.tys:Ty→List Ty
  |.st s=>s.tys
  |.ho s=>s.tys
  |.hl t=>[.sl t]
  |t=>[t]
def Ap (h:aD):List Ty→List SV→Option (List Nat× List R)
  |[],[]=>some ([],[])
  |t::ts,v::vs=>(v.asR h t).bind fun p=>(Ap h ts vs).bind fun q=>some (p.1++q.1,p.2::q.2)
  |_,_=>none
def F0 (h:aD) (t:Ty) (vs:List SV):Option (List Nat× t.El):=
  (Ap h t.tys vs).bind fun p=>(t.dd p.2).bind fun x=>some (p.1,x)
def SV.cells:SV→Option (List SV)
  |.agg cs=>some cs
  |.tup _=>none
  |.undef=>none
  |v=>some [v]
mutual
def SV.ids:SV→List Nat
  |.own i=>[i]
  |.sub i _ _=>[i]
  |.bsl i _=>[i]
  |.ptr i _ _=>[i]
  |.agg cs=>Aq cs
  |.tup cs=>Aq cs
  |.fn _ a b=>Aq a++Aq b
  |_=>[]
def Aq:List SV→List Nat
  |[]=>[]
  |v::l=>v.ids++Aq l
end
def j8:List Nat→List Nat→List Nat
  |acc,[]=>acc
  |acc,i::l=>cond (mem i acc) (j8 acc l) (j8 (acc++[i]) l)
def DZ (h:aD):List Nat→List Nat
  |[]=>[]
  | i :: l => (match look h i with
    |some (.box cs)=>Aq cs
    |_=>[])++DZ h l
def reach (h:aD):Nat→List Nat→List Nat
  |0,L=>L
  |n+1,L=>reach h n (j8 L (DZ h L))
def nv:Value→Option SV
  |.bool b=>some (.b b)
  |.int k n=>some (.r [] (.int k n))
  |.string s=>some (.r [] (.str s.data.toList))
  |.slice none 0 0=>some .bn
  |.pointer none=>some .j7
  |_=>none
def re:List Value→Option (List SV)
  |[]=>some []
  |v::l=>(nv v).bind fun x=>(re l).bind fun xs=>some (x::xs)
def xx:Value→Option SV
  |.agg cs=>(re cs.toList).bind fun l=>some (.agg l)
  |v=>nv v
def opd (au:List (Nat× SV)):Operand→Option SV
  |.tmp t=>look au t
  |.const v=>xx v
  |.func f=>some (.fn (.func f) [] [])
  |.global _=>none
def lL (au:List (Nat× SV)):List Operand→Option (List SV)
  |[]=>some []
  |x::l=>(opd au x).bind fun v=>(lL au l).bind fun vs=>some (v::vs)
end Go.Proofs.Ev
namespace Go.Proofs.Ev
abbrev TT:=TypeId→Option Ty
def b7:Nat:=2^38
def pE (P:Program) (T:TypeId):Bool:=
  match P.underlying T with
  |some (.struct _)=>true
  |some (.array _ _)=>true
  |_=>false
def gO (P:Program) (T:TypeId):Option TypeId:=
  match P.underlying T with
  |some (.slice e)=>some e
  |_=>none
def nw (P:Program) (T:TypeId) (f:Nat):Option Field:=
  match P.underlying T with
  |some (.struct fs)=>(fs[f]?).bind fun f=>(P.info? f.type).bind fun i=>cond (Nat.beq i.size 0) none (some f)
  |_=>none
def eY (P:Program) (T:TypeId):Option Nat:=(P.info? T).bind fun i=>some i.size
def mn (P:Program):List Field→Option (List (Nat× Nat))
  |[]=>some []
  |f::fs=>(eY P f.type).bind fun s=>(mn P fs).bind fun l=>some ((f.offset,s)::l)
def takeN {α:Type} (n:Nat) (l:List α):Option (List α):=cond (Nat.ble n l.length) (some (l.take n)) none
def fB (P:Program) (T:TypeId) (cs:List SV):Option SV:=
  (P.underlying T).bind fun _=>(P.info? T).bind fun i=>(takeN i.size cs).bind fun l=>
    cond (pE P T) (some (.agg l)) (match l with|[v]=>some v|_=>none)
def mkR (d:List Nat):R→SV
  |.sl t xs=>.r d (.sl t xs)
  |x=>.r [] x
def AD (i:Nat):Option (List Nat)→List Nat
  |none=>[i]
  |some d=>d
def gB (h:aD):SV→Option (List SV)
  |.fU d cs=>some (cs.map (mkR d))
  | .ptr i x o => match look h i with
    |some (.box cs)=>some (cs.drop o)
    |some (.arr sh t xs)=>(xs[x]?).bind fun e=>some (((t.cells e).map (mkR (AD i sh))).drop o)
    |_=>none
  |_=>none
def dG (P:Program) (T:TypeId):Option (List SV):=
  (P.info? T).bind fun i=>i.zero.bind fun z=>(xx z).bind fun v=>v.cells
def j9 (place:Nat→Option (Nat× Nat)):List SV→List (Nat× SV)→Option (List SV)
  |cs,[]=>some cs
  |cs,(k,v)::l=>(place k).bind fun p=>v.cells.bind fun vs=>
      cond (Nat.beq vs.length p.2) (cond (Nat.ble (p.1+vs.length) cs.length) (j9 place (cs.take p.1++vs++cs.drop (p.1+vs.length)) l) none) none
def Fa (op:BinOp) (k:IntKind) (a b:Int):Option R:=
  match op with
  |.add=>some (.int k (k.wrap (a+b)))
  |.sub=>some (.int k (k.wrap (a-b)))
  |.mul=>some (.int k (k.wrap (a*b)))
  |.quo=>cond (decide (b=0)) none (some (.int k (k.wrap (a.tdiv b))))
  |.rem=>cond (decide (b=0)) none (some (.int k (a.tmod b)))
  |.and=>some (.int k (k.wrap (BitVec.ofInt k.bits a&&& BitVec.ofInt k.bits b).toNat))
  |.or=>some (.int k (k.wrap (BitVec.ofInt k.bits a||| BitVec.ofInt k.bits b).toNat))
  |.xor=>some (.int k (k.wrap (BitVec.ofInt k.bits a^^^ BitVec.ofInt k.bits b).toNat))
  |.eql=>some (.bool (a==b))
  |.neq=>some (.bool (a !=b))
  |.lss=>some (.bool (decide (a<b)))
  |.leq=>some (.bool (decide (a≤b)))
  |.gtr=>some (.bool (decide (a>b)))
  |.geq=>some (.bool (decide (a≥b)))
  |_=>none
def tV (op:BinOp) (k:IntKind) (a b:Int):Option R:=
  cond (decide (b<0)) none
    (match op with
     |.shl=>some (.int k (k.wrap (a*2^(min b.toNat k.bits))))
     |.shr=>some (.int k (a.fdiv (2^(min b.toNat k.bits))))
     |_=>none)
def Fq (op:BinOp) (a b:List UInt8):Option R:=
  match op with
  |.add=>cond (decide (a.length+b.length≤b7)) (some (.str (a++b))) none
  |.eql=>some (.bool (a==b))
  |.neq=>some (.bool (!(a==b)))
  |.lss=>some (.bool (Op.bytesLess a b))
  |.leq=>some (.bool (Op.bytesLess a b||a==b))
  |.gtr=>some (.bool (!(Op.bytesLess a b||a==b)))
  |.geq=>some (.bool (!(Op.bytesLess a b)))
  |_=>none
def CK (P:Program) (xs ys:List SV):List Field→Option Bool
  |[]=>some true
  | f :: fs => cond (decide (f.name = "_")) none (match P.underlying f.type, xs[f.offset]?, ys[f.offset]? with
    |some (.int _),some (.r _ (.int k a)),some (.r _ (.int l b))=>cond (decide (k=l)) ((CK P xs ys fs).bind fun t=>some (cond (a==b) t false)) none
    |_,_,_=>none)
def Fs (P:Program) (T:TypeId) (xs ys:List SV):Option Bool:=
  cond (P.stoodInHeld T) none (cond (P.eqGuardType P.depth T) none (match P.underlying T with
    |some (.struct fs)=>CK P xs ys fs.toList
    |_=>none))
def AE:BinOp→Bool
  |.shl|.shr=>true
  |_=>false
def isEq:BinOp→Option Bool
  |.eql=>some true
  |.neq=>some false
  |_=>none
def bin (P:Program) (T:TypeId) (op:BinOp) (x y:SV):Option SV:=
  match x,y with
  |.r _ (.int k a),.r _ (.int l b)=>cond (AE op) ((tV op k a b).bind fun r=>some (.r [] r)) (cond (decide (k=l)) ((Fa op k a b).bind fun r=>some (.r [] r)) none)
  |.r _ (.str a),.r _ (.str b)=>(Fq op a b).bind fun r=>some (.r [] r)
  | .r _ (.bool a), .r _ (.bool b) => match P.underlying T with
    |some .bool=>(isEq op).bind fun e=>some (.b (cond e (a==b) (!(a==b))))
    |_=>none
  |.agg a,.agg b=>(isEq op).bind fun e=>(Fs P T a b).bind fun t=>some (.b (cond e t (!t)))
  |_,_=>none
def un (op:UnOp) (x:SV):Option SV:=
  match op,x with
  |.neg,.r _ (.int k n)=>some (.r [] (.int k (k.wrap (0-n))))
  |.not,.r _ (.bool b)=>some (.b (!b))
  |_,_=>none
def lenOf (h:aD):SV→Option Nat
  |.r _ (.str l)=>some l.length
  |.r _ (.sl _ xs)=>some xs.length
  |.bn=>some 0
  | .own i => match look h i with
    |some (.arr _ _ xs)=>some xs.length
    |_=>none
  |.sub _ _ n=>some n
  |.bsl _ n=>some n
  |_=>none
def F1 (P:Program) (T:TypeId):SV→Bool
  | .r _ (.str _) => match P.underlying T with
    |some .string=>true
    |_=>false
  | _ => match P.underlying T with
    |some (.slice _)=>true
    |_=>false
def bounds (n:Nat) (lo hi:Option SV):Option (Nat× Nat):=
  (match hi with
   |none=>some n
   |some v=>v.asI.bind fun x=>cond (decide (0≤x∧x≤(n:Int))) (some x.toNat) none).bind fun h=>
  (match lo with
   |none=>some 0
   |some v=>v.asI.bind fun x=>cond (decide (0≤x∧x≤(h:Int))) (some x.toNat) none).bind fun l=>some (l,h)
def slT (P:Program) (T:TypeId) (t:Ty):Bool:=
  match P.underlying T with
  | some (.slice e) => match eY P e with
    |some n=>Nat.beq n t.sz
    |none=>false
  |_=>false
def xy (P:Program) (T:TypeId):Bool:=
  match P.underlying T with
  |some (.slice e)=>(eY P e).isSome
  |_=>false
def isStr (P:Program) (T:TypeId):Bool:=
  match P.underlying T with
  |some .string=>true
  |_=>false
def fb (P:Program) (T:TypeId) (h:aD) (x:SV) (lo hi:Option SV):Option SV:=
  match x with
  |.r d (.str l)=>cond (isStr P T) ((bounds l.length lo hi).bind fun b=>some (.r d (.str ((l.take b.2).drop b.1)))) none
  |.r d (.sl t xs)=>cond (slT P T t) ((bounds xs.length lo hi).bind fun b=>some (.r d (.sl t ((xs.take b.2).drop b.1)))) none
  |.bn=>cond (xy P T) ((bounds 0 lo hi).bind fun _=>some .bn) none
  | .own i => match look h i with
    |some (.arr _ t xs)=>cond (slT P T t) ((bounds xs.length lo hi).bind fun b=>some (.sub i b.1 (b.2-b.1))) none
    |_=>none
  | .sub i o n => match look h i with
    |some (.arr _ t _)=>cond (slT P T t) ((bounds n lo hi).bind fun b=>some (.sub i (o+b.1) (b.2-b.1))) none
    |_=>none
  |_=>none
def slN (P:Program) (T:TypeId) (h:aD) (x:SV):Option Nat:=
  match x with
  |.r _ (.sl t xs)=>cond (slT P T t) (some xs.length) none
  | .own i => match look h i with
    |some (.arr _ t xs)=>cond (slT P T t) (some xs.length) none
    |_=>none
  |_=>none
def o8 (P:Program) (T:TypeId) (h:aD) (x:SV) (lo:Option SV) (hi m:SV):Option SV:=
  (slN P T h x).bind fun n=>m.asI.bind fun z=>cond (decide (0≤z∧z≤(n:Int))) ((bounds z.toNat lo (some hi)).bind fun _=>some .undef) none
def bf (P:Program) (T:TypeId) (h:aD) (x:SV) (k:Int):Option SV:=
  match x with
  |.r d (.sl t xs)=>cond (slT P T t) ((idx xs k).bind fun e=>some (.fU d (t.cells e))) none
  | .own i => match look h i with
    |some (.arr _ t xs)=>cond (slT P T t) (cond (decide (0≤k∧k<(xs.length:Int))) (some (.ptr i k.toNat 0)) none) none
    |_=>none
  | .sub i o n => match look h i with
    |some (.arr _ t _)=>cond (slT P T t) (cond (decide (0≤k∧k<(n:Int))) (some (.ptr i (o+k.toNat) 0)) none) none
    |_=>none
  |.bsl i n=>(gO P T).bind fun e=>(eY P e).bind fun sz=>cond (decide (0≤k∧k<(n:Int))) (some (.ptr i 0 (k.toNat*sz))) none
  |_=>none
def AF (P:Program) (src dst:TypeId) (x:SV):Option SV:=
  match P.underlying src,P.underlying dst,x with
  |some (.int _),some (.int k),.r _ (.int _ n)=>some (.r [] (.int k (k.wrap n)))
  |some .string,some .string,.r _ (.str l)=>some (.r [] (.str l))
  |_,_,_=>none
def oB (P:Program) (T:TypeId):Bool:=
  match gO P T with
  | some e => match P.underlying e with
    |some (.int .u8)=>true
    |_=>false
  |none=>false
def bytesOf (l:List Int):List UInt8:=l.map fun n=>UInt8.ofNat n.toNat
def CB (au:List (Nat× SV)):Option Operand→Option (Option SV)
  |none=>some none
  |some x=>(opd au x).bind fun v=>some (some v)
def lC (au:List (Nat× SV)):List (Nat× Operand)→Option (List (Nat× SV))
  |[]=>some []
  |(k,x)::l=>(opd au x).bind fun v=>(lC au l).bind fun vs=>some ((k,v)::vs)
def dH (P:Program) (s:List (Nat× SV)) (h:aD) (op:Op):Option SV:=
  match op with
  |.move x|.assign x=>opd s x
  |.pick c a b=>(opd s c).bind fun c=>c.asB.bind fun c=>cond c (opd s a) (opd s b)
  | .build T parts =>
    match P.underlying T with
    | some (.struct fs) => (mn P fs.toList).bind fun pl => (dG P T).bind fun z => (lC s parts.toList).bind fun ps =>
      (j9 (fun k=>pl[k]?) z ps).bind fun cs=>some (.agg cs)
    |_=>none
  |.load T a=>(opd s a).bind fun a=>(gB h a).bind fun cs=>fB P T cs
  | .nilCheck x => (opd s x).bind fun v => match v with
    |.ptr i x o=>some (.ptr i x o)
    |.fU d cs=>some (.fU d cs)
    |_=>none
  |.binOp op T x y _=>(opd s x).bind fun x=>(opd s y).bind fun y=>bin P T op x y
  |.unOp op _ x=>(opd s x).bind fun x=>un op x
  |.convert src dst x=>(opd s x).bind fun x=>cond (oB P src&&isStr P dst) ((x.list h (.int .u8)).bind fun p=>some (.r [] (.str (bytesOf p.2)))) (AF P src dst x)
  |.makeFunc fn first cap=>(lL s first.toList).bind fun a=>(lL s cap.toList).bind fun b=>some (.fn fn a b)
  |.slice T x lo hi none=>(opd s x).bind fun x=>(CB s lo).bind fun lo=>(CB s hi).bind fun hi=>fb P T h x lo hi
  |.slice T x lo (some hi) (some m)=>(opd s x).bind fun x=>(CB s lo).bind fun lo=>(opd s hi).bind fun hi=>(opd s m).bind fun m=>o8 P T h x lo hi m
  | .fieldAddr T x f => (opd s x).bind fun x => (nw P T f).bind fun f => match x with
    |.fU d cs=>some (.fU d (cs.drop f.offset))
    |.ptr i k o=>some (.ptr i k (o+f.offset))
    |_=>none
  | .field T x f => (opd s x).bind fun x => (nw P T f).bind fun f => match x with
    |.agg cs=>fB P f.type (cs.drop f.offset)
    |_=>none
  |.indexAddr T x k=>(opd s x).bind fun x=>(opd s k).bind fun k=>k.asI.bind fun k=>bf P T h x k
  | .index T x k => (opd s x).bind fun x => (opd s k).bind fun k => k.asI.bind fun k => match x with
    |.r _ (.str l)=>cond (isStr P T) ((idx l k).bind fun c=>some (.r [] (.int .u8 c.toNat))) none
    |_=>none
  | .extract x k => (opd s x).bind fun x => match x with
    |.tup vs=>vs[k]?
    |_=>none
  | .call { callee := .builtin .len, args, argTypes } => (lL s args.toList).bind fun vs => match vs, argTypes.toList with
    |[v],T::_=>cond (F1 P T v) ((lenOf h v).bind fun n=>some (.i n)) none
    |_,_=>none
  | .call { callee := .builtin .cap, args, argTypes } => (lL s args.toList).bind fun vs => match vs, argTypes.toList with
    |[.bn],T::_=>cond (xy P T) (some (.i 0)) none
    |_,_=>none
  | .call { callee := .builtin .min, args, .. } => (lL s args.toList).bind fun vs => match vs with
    |[.r _ (.int k a),.r _ (.int _ b)]=>some (.r [] (.int k (if b<a then b else a)))
    |[.r _ (.int k a),.r _ (.int _ b),.r _ (.int _ c)]=>some (.r [] (.int k (if c<(if b<a then b else a)then c else(if b<a then b else a))))
    |_=>none
  | .call { callee := .builtin .max, args, .. } => (lL s args.toList).bind fun vs => match vs with
    |[.r _ (.int k a),.r _ (.int _ b)]=>some (.r [] (.int k (if b>a then b else a)))
    |_=>none
  |_=>none
def sr {α:Type} (h:aD) (v:SV) (K:List SV→Option α):Option α:=
  match v with
  |.fU d cs=>K (cs.map (mkR d))
  | .ptr i x o => match look h i with
    |some (.box cs)=>K (cs.drop o)
    |some (.arr sh t xs)=>(xs[x]?).bind fun e=>K (((t.cells e).map (mkR (AD i sh))).drop o)
    |_=>none
  |_=>none
def Ee {α:Type} (op:BinOp) (k:IntKind) (a b:Int) (K:R→Option α):Option α:=
  match op with
  |.quo=>cond (decide (b=0)) none (K (.int k (k.wrap (a.tdiv b))))
  |.rem=>cond (decide (b=0)) none (K (.int k (a.tmod b)))
  |op=>(Fa op k a b).bind K
def vV {α:Type} (op:BinOp) (k:IntKind) (a b:Int) (K:R→Option α):Option α:=
  cond (decide (b<0)) none
    (match op with
     |.shl=>K (.int k (k.wrap (a*2^(min b.toNat k.bits))))
     |.shr=>K (.int k (a.fdiv (2^(min b.toNat k.bits))))
     |_=>none)
def Ef {α:Type} (op:BinOp) (a b:List UInt8) (K:R→Option α):Option α:=
  match op with
  |.add=>cond (decide (a.length+b.length≤b7)) (K (.str (a++b))) none
  |op=>(Fq op a b).bind K
def Gb {α:Type} (P:Program) (T:TypeId) (op:BinOp) (x y:SV) (K:SV→Option α):Option α:=
  match x,y with
  |.r _ (.int k a),.r _ (.int l b)=>cond (AE op) (vV op k a b fun r=>K (.r [] r)) (cond (decide (k=l)) (Ee op k a b fun r=>K (.r [] r)) none)
  |.r _ (.str a),.r _ (.str b)=>Ef op a b fun r=>K (.r [] r)
  |x,y=>(bin P T op x y).bind K
def ka {α:Type} (n:Nat) (lo hi:Option SV) (K:Nat→Nat→Option α):Option α:=
  let lower (h:Nat):Option α:=match lo with
    |none=>K 0 h
    |some v=>v.asI.bind fun x=>cond (decide (0≤x∧x≤(h:Int))) (K x.toNat h) none
  match hi with
  |none=>lower n
  |some v=>v.asI.bind fun x=>cond (decide (0≤x∧x≤(n:Int))) (lower x.toNat) none
def AG {α:Type} (P:Program) (T:TypeId) (h:aD) (x:SV) (lo hi:Option SV) (K:SV→Option α):Option α:=
  match x with
  |.r d (.str l)=>cond (isStr P T) (ka l.length lo hi fun a b=>K (.r d (.str ((l.take b).drop a)))) none
  |.r d (.sl t xs)=>cond (slT P T t) (ka xs.length lo hi fun a b=>K (.r d (.sl t ((xs.take b).drop a)))) none
  |.bn=>cond (xy P T) (ka 0 lo hi fun _ _=>K .bn) none
  | .own i => match look h i with
    |some (.arr _ t xs)=>cond (slT P T t) (ka xs.length lo hi fun a b=>K (.sub i a (b-a))) none
    |_=>none
  | .sub i o n => match look h i with
    |some (.arr _ t _)=>cond (slT P T t) (ka n lo hi fun a b=>K (.sub i (o+a) (b-a))) none
    |_=>none
  |_=>none
def nx {α:Type} (P:Program) (T:TypeId) (h:aD) (x:SV) (k:Int) (K:SV→Option α):Option α:=
  match x with
  |.r d (.sl t xs)=>cond (slT P T t) ((idx xs k).bind fun e=>K (.fU d (t.cells e))) none
  | .own i => match look h i with
    |some (.arr _ t xs)=>cond (slT P T t) (cond (decide (0≤k∧k<(xs.length:Int))) (K (.ptr i k.toNat 0)) none) none
    |_=>none
  | .sub i o n => match look h i with
    |some (.arr _ t _)=>cond (slT P T t) (cond (decide (0≤k∧k<(n:Int))) (K (.ptr i (o+k.toNat) 0)) none) none
    |_=>none
  |x=>(bf P T h x k).bind K
def tW {α:Type} (P:Program) (T:TypeId) (h:aD) (x:SV) (lo:Option SV) (hi m:SV) (K:SV→Option α):Option α:=
  (slN P T h x).bind fun n=>m.asI.bind fun z=>cond (decide (0≤z∧z≤(n:Int))) (ka z.toNat lo (some hi) fun _ _=>K .undef) none
def jl {α:Type} (P:Program) (s:List (Nat× SV)) (h:aD) (op:Op) (K:SV→Option α):Option α:=
  match op with
  |.load T a=>(opd s a).bind fun a=>sr h a fun cs=>(fB P T cs).bind K
  |.binOp op T x y _=>(opd s x).bind fun x=>(opd s y).bind fun y=>Gb P T op x y K
  |.slice T x lo hi none=>(opd s x).bind fun x=>(CB s lo).bind fun lo=>(CB s hi).bind fun hi=>AG P T h x lo hi K
  |.slice T x lo (some hi) (some m)=>(opd s x).bind fun x=>(CB s lo).bind fun lo=>(opd s hi).bind fun hi=>(opd s m).bind fun m=>tW P T h x lo hi m K
  |.indexAddr T x k=>(opd s x).bind fun x=>(opd s k).bind fun k=>k.asI.bind fun k=>nx P T h x k K
  | .index T x k => (opd s x).bind fun x => (opd s k).bind fun k => k.asI.bind fun k => match x with
    |.r _ (.str l)=>cond (isStr P T) ((idx l k).bind fun c=>K (.r [] (.int .u8 c.toNat))) none
    |_=>none
  |op=>(dH P s h op).bind K
theorem bU {α β:Type} (b:Bool) (x y:Option α) (K:α→Option β):(cond b x y).bind K=cond b (x.bind K) (y.bind K):=by cases b<;>rfl
theorem vW {α:Type} (h:aD) (v:SV) (K:List SV→Option α):sr h v K=(gB h v).bind K:=by
  unfold sr gB
  split
  · rfl
  · split
    · rfl
    · rw[Option.bind_assoc];rfl
    · rfl
  · rfl
theorem CL {α:Type} (op:BinOp) (k:IntKind) (a b:Int) (K:R→Option α):Ee op k a b K=(Fa op k a b).bind K:=by
  unfold Ee
  split
  · show _=(cond _ none (some _)).bind K;rw[bU];rfl
  · show _=(cond _ none (some _)).bind K;rw[bU];rfl
  · rfl
theorem ze {α:Type} (op:BinOp) (k:IntKind) (a b:Int) (K:R→Option α):vV op k a b K=(tV op k a b).bind K:=by
  unfold vV tV
  rw[bU]
  cases op<;>rfl
theorem CM {α:Type} (op:BinOp) (a b:List UInt8) (K:R→Option α):Ef op a b K=(Fq op a b).bind K:=by
  unfold Ef
  split
  · show _=(cond _ (some _) none).bind K;rw[bU];rfl
  · rfl
theorem Eg {α:Type} (P:Program) (T:TypeId) (op:BinOp) (x y:SV) (K:SV→Option α):Gb P T op x y K=(bin P T op x y).bind K:=by
  unfold Gb
  split
  · simp only[bin,bU,ze,CL,Option.bind_assoc,Option.bind_some,Option.bind_none]
  · simp only[bin,CM,Option.bind_assoc,Option.bind_some]
  · rfl
theorem gn {α:Type} (n:Nat) (lo hi:Option SV) (K:Nat→Nat→Option α):ka n lo hi K=(bounds n lo hi).bind fun b=>K b.1 b.2:=by
  unfold ka bounds
  cases hi<;>cases lo<;>simp only[Option.bind_assoc,Option.bind_some,bU,Option.bind_none]
theorem AH {α:Type} (P:Program) (T:TypeId) (h:aD) (x:SV) (lo hi:Option SV) (K:SV→Option α):AG P T h x lo hi K=(fb P T h x lo hi).bind K:=by
  unfold AG fb
  split
  · simp only[bU,gn,Option.bind_assoc,Option.bind_some,Option.bind_none]
  · simp only[bU,gn,Option.bind_assoc,Option.bind_some,Option.bind_none]
  · simp only[bU,gn,Option.bind_assoc,Option.bind_some,Option.bind_none]
  · split
    · simp only[bU,gn,Option.bind_assoc,Option.bind_some,Option.bind_none]
    · rfl
  · split
    · simp only[bU,gn,Option.bind_assoc,Option.bind_some,Option.bind_none]
    · rfl
  · rfl
theorem su {α:Type} (P:Program) (T:TypeId) (h:aD) (x:SV) (k:Int) (K:SV→Option α):nx P T h x k K=(bf P T h x k).bind K:=by
  unfold nx
  split
  · simp only[bf,bU,Option.bind_assoc,Option.bind_some,Option.bind_none]
  · simp only[bf]
    split
    · simp only[bU,Option.bind_some,Option.bind_none]
    · rfl
  · simp only[bf]
    split
    · simp only[bU,Option.bind_some,Option.bind_none]
    · rfl
  · rfl
theorem jm {α:Type} (P:Program) (s:List (Nat× SV)) (h:aD) (op:Op) (K:SV→Option α):jl P s h op K=(dH P s h op).bind K:=by
  unfold jl
  split
  · simp only[dH,vW,Option.bind_assoc]
  · simp only[dH,Eg,Option.bind_assoc]
  · simp only[dH,AH,Option.bind_assoc]
  · simp only[dH,tW,o8,gn,Option.bind_assoc,bU,Option.bind_some,Option.bind_none]
  · simp only[dH,su,Option.bind_assoc]
  · simp only[dH,Option.bind_assoc]
    congr 1;funext x;congr 1;funext k;congr 1;funext k
    split
    · simp only[bU,Option.bind_assoc,Option.bind_some,Option.bind_none]
    · rfl
  · rfl
structure CR where
  v:SV
  news:List Blk:=[]
  upd:aD:=[]
  gone:List Nat:=[]
  gP:List Nat:=[]
def CR.kil (c:CR):Kil:=(c.gone,c.gone++c.gP)
abbrev Out:=SV× List Blk
abbrev Orc:=(ρ:Type)→Nat→List SV→aD→(CR→Option ρ)→Option ρ
def Ft:Orc:=fun _ _ _ _ _=>none
def aI:Nat→List Blk→aD
  |_,[]=>[]
  |n,b::l=>(n,b)::aI (n+1) l
inductive Co where
  |mo (sh:Bool) (t:Ty)
  |ro (t:Ty)
  |drop
  |dep (j:Nat)
  |Eh (t j:Nat)
inductive aM where
  |slot (t:Nat)
  |cell (t j:Nat)
  |box (i j:Nat)
  |D0 (t j:Nat)
  |gh (k:Nat)
def coV (n:Nat) (h:aD):Co→SV→SV× List Blk
  |.mo sh t,.bn=>(.own n,[.arr (cond sh (some []) none) t []])
  | .ro t, v => match v.list h t with
    |some p=>(.r p.1 (.sl t p.2),[])
    |none=>(v,[])
  |.drop,_=>(.undef,[])
  |.dep j,.r d x=>(.r (cond (mem j d) d (d++[j])) x,[])
  |_,v=>(v,[])
def CN (st:St) (i j:Nat) (c:Co):St:=
  match look st.heap i with
  | some (.box cs) => match cs[j]? with
    |some v=>{st with heap:=put (st.heap++aI st.nid (coV st.nid st.heap c v).2) i (.box (cs.set j (coV st.nid st.heap c v).1)),nid:=st.nid+(coV st.nid st.heap c v).2.length}
    |none=>st
  |_=>st
def tX (st:St):aM× Co→St
  | (.slot t, c) => match look st.au t with
    |some v=>{st with au:=put st.au t (coV st.nid st.heap c v).1,heap:=st.heap++aI st.nid (coV st.nid st.heap c v).2,nid:=st.nid+(coV st.nid st.heap c v).2.length}
    |none=>st
  | (.cell t j, c) => match look st.au t with
    | some (.agg cs) => match cs[j]? with
      |some v=>{st with au:=put st.au t (.agg (cs.set j (coV st.nid st.heap c v).1)),heap:=st.heap++aI st.nid (coV st.nid st.heap c v).2,nid:=st.nid+(coV st.nid st.heap c v).2.length}
      |none=>st
    |_=>st
  |(.box i j,c)=>CN st i j c
  | (.D0 t j, c) => match look st.au t with
    |some (.ptr i _ _)=>CN st i j c
    |_=>st
  |(.gh k,_)=>{st with gh:=st.gh.set k none}
def Gc (st:St):Co→Co
  | .Eh t j => match look st.au t with
    | some (.ptr i _ _) => match look st.heap i with
      | some (.box cs) => match cs[j]? with
        |some (.own k)=>.dep k
        |_=>.dep 0
      |_=>.dep 0
    |_=>.dep 0
  |c=>c
def Fu (st:St) (x:aM× Co):St:=tX st (x.1,Gc st x.2)
def AJ:List (aM× Co)→St→St
  |[],st=>st
  |x::l,st=>AJ l (Fu st x)
structure Env where
  P:Program
  tt:TT
  orc:FuncId→Orc
  wr:FuncId→Bool:=fun _=>false
  wt:Bool:=false
  inn:Bool:=false
  fz:Nat→List (Bool× Nat× List Nat):=fun _=>[]
  wk:Nat→List (aM× Co):=fun _=>[]
  lit:Bool:=false
  tak:Bool:=false
  swp:Bool:=false
def lD:aD→aD→aD
  |[],h=>h
  |(k,b)::l,h=>lD l (put h k b)
def Fv (s:List (Nat× SV)) (n:Nat) (dst:Option Tmp) (v:SV):Option (List (Nat× SV)):=
  match dst with
  |some t=>cond (Nat.ble (t+1) n) (some (put s t v)) none
  |none=>some s
def St.take (st:St) (dst:Option Tmp) (c:CR):Option St:=
  (eJ c.kil (lD c.upd st.heap)).bind fun h=>(Fv (jk c.kil st.au) st.n dst c.v).bind fun s=>
    some {st with au:=s,heap:=h++aI st.nid c.news,nid:=st.nid+c.news.length}
def setCells (cs:List SV) (o:Nat) (vs:List SV):Option (List SV):=
  cond (Nat.ble (o+vs.length) cs.length) (some (cs.take o++vs++cs.drop (o+vs.length))) none
def kb:Ty→Bool
  |.sl _=>false
  |.ho _|.hl _=>false
  |.st .shape|.st .CA|.st .pA|.st .eH=>true
  |.st _=>false
  |_=>true
def isNil {α:Type}:List α→Bool
  |[]=>true
  |_=>false
def zf (h:aD) (t:Ty):Nat→List SV→Option (List Nat× List t.El)
  |0,_=>some ([],[])
  |n+1,cs=>(F0 h t (cs.take t.sz)).bind fun p=>(zf h t n (cs.drop t.sz)).bind fun q=>some (p.1++q.1,p.2::q.2)
def SV.Ar (h:aD) (t:Ty) (v:SV):Option (List Nat× R):=
  match t with
  | .sl t' => match v with
    |.bn=>some ([],.sl t' [])
    | .own i => match look h i with
      |some (.arr none t1 xs)=>if e:t1=t' then some ([i],.sl t' (e▸xs))else none
      |_=>none
    |_=>none
  |.st _=>none
  | .tok => match v with
    |.r _ (.tok n)=>some ([],.tok n)
    |.bn=>some ([],.tok 0)
    |_=>none
  | _ => match v with
    |.r _ (.int k n)=>some ([],.int k n)
    |.r _ (.bool b)=>some ([],.bool b)
    |.r _ (.str l)=>some ([],.str l)
    |_=>none
def vX (h:aD):List Ty→List SV→Option (List Nat× List R)
  |[],[]=>some ([],[])
  |t::ts,v::vs=>(v.Ar h t).bind fun p=>(vX h ts vs).bind fun q=>some (p.1++q.1,p.2::q.2)
  |_,_=>none
def e9 (h:aD) (t:Ty):Nat→List SV→Option (List Nat× List t.El)
  |0,_=>some ([],[])
  |n+1,cs=>(vX h t.tys (cs.take t.sz)).bind fun p=>(t.dd p.2).bind fun x=>(e9 h t n (cs.drop t.sz)).bind fun q=>some (p.1++q.1,x::q.2)
def jX:List Nat→Bool
  |[]=>true
  |i::l=>cond (mem i l) false (jX l)
def tY (h:aD):List SV→Option Bool
  |[]=>some true
  | .own i :: l => (look h i).bind fun b => match b with
    |.arr none _ _=>tY h l
    |.arr (some _) _ _=>some false
    |.box _=>none
  |.r _ (.sl _ _)::_=>some false
  |.sub _ _ _::_=>some false
  |.bsl _ _::_=>some false
  |_::l=>tY h l
def xz (h:aD) (t:Ty) (n:Nat) (cs:List SV):Option (Option (List Nat)× List Nat× List t.El):=
  (tY h cs).bind fun b=>cond b ((e9 h t n cs).bind fun q=>cond (jX q.1) (some (none,q.1,q.2)) none) ((zf h t n cs).bind fun q=>some (some q.1,[],q.2))
def jY (h:aD):SV→List Nat→List Nat
  | .own i, d => match look h i with
    |some (.arr (some d') _ _)=>d'
    |_=>d
  |_,d=>d
def lM (h:aD) (t:Ty) (v:SV):Option (Option (List Nat)× List Nat× List t.El):=
  match v with
  | .bsl i n => match look h i with
    |some (.box cs)=>(xz h t n cs).bind fun q=>some (q.1,i::q.2.1,q.2.2)
    |_=>none
  |_=>(v.list h t).bind fun p=>cond (kb t) (some (none,[],p.2)) (some (some (jY h v p.1),[],p.2))
def xA (a b:Option (List Nat)):Option (Option (List Nat)):=
  match a,b with
  |none,none=>some none
  |some d,some d'=>some (some (d++d'))
  |some d,none=>some (some d)
  |none,some d=>some (some d)
def kd (P:Program) (T:TypeId):Bool:=
  match P.info? T with
  |some i=>Nat.ble i.bytes 512
  |none=>false
def Fw (E:Env) (s:List (Nat× SV)) (h:aD) (T:TypeId) (a:Operand):Option SV:=
  cond E.inn (cond (xy E.P T) (match opd s a with
    | some (.ptr i x o) => match look h i with
      |some (.arr none t _)=>cond (Nat.ble (o+1) t.sz) (some (.inn i x o)) none
      |_=>none
    |_=>none) none) none
def iH {α:Type} (xs:List α) (x:Nat):List (Option α):=(xs.map some).set x none
def mq {α:Type}:List (Option α)→Option (List α)
  |[]=>some []
  |none::_=>none
  |some x::l=>(mq l).bind fun l=>some (x::l)
def ny (n:Nat):List R→List SV
  |[]=>[]
  |.sl _ _::l=>.own n::ny (n+1) l
  |r::l=>.r [] r::ny n l
def im:List R→List Blk
  |[]=>[]
  |.sl t ys::l=>.arr none t ys::im l
  |_::l=>im l
def Fx (P:Program) (s:List (Nat× SV)) (h:aD) (src dst:TypeId) (x:Operand):Option Nat:=
  cond (Nat.beq src dst&&oB P src) (match opd s x with
    | some (.own i) => match look h i with
      |some (.arr _ _ (_::_))=>some i
      |_=>none
    |_=>none) none
def vY (h:aD):SV→Option (Nat× Nat× Nat)
  |.sub i o n=>some (i,o,n)
  | .own i => match look h i with
    |some (.arr _ _ xs)=>some (i,0,xs.length)
    |_=>none
  |_=>none
variable {ρ:Type}
def o9 (P:Program) (T:TypeId) (h:aD) (i:Nat) (sh:Option (List Nat)) (t:Ty) (ys:List t.El) (k o:Nat) (x:SV) (K:CR→Option ρ):Option ρ:=
  x.cells.bind fun xs=>(eY P T).bind fun sz=>cond (Nat.beq sz xs.length&&Nat.ble (o+sz) t.sz) (
    match sh with
    |none=>(vX h ((t.tys.drop o).take sz) xs).bind fun p=>cond (jX (i::p.1)) (
        cond (Nat.beq sz t.sz)
          ((t.dd p.2).bind fun y=>K {v:=.undef,upd:=[(i,.arr none t (ys.set k y))],gone:=p.1,gP:=[i]})
          ((ys[k]?).bind fun e=>(t.dd ((t.cells e).take o++p.2++(t.cells e).drop (o+sz))).bind fun y=>K {v:=.undef,upd:=[(i,.arr none t (ys.set k y))],gone:=p.1,gP:=[i]})) none
    |some d=>(Ap h ((t.tys.drop o).take sz) xs).bind fun p=>cond (mem i p.1) none (
        cond (Nat.beq sz t.sz)
          ((t.dd p.2).bind fun y=>K {v:=.undef,upd:=[(i,.arr (some (d++p.1)) t (ys.set k y))],gP:=[i]})
          ((ys[k]?).bind fun e=>(t.dd ((t.cells e).take o++p.2++(t.cells e).drop (o+sz))).bind fun y=>K {v:=.undef,upd:=[(i,.arr (some (d++p.1)) t (ys.set k y))],gP:=[i]}))) none
def Fy (P:Program) (T:TypeId):Bool:=
  match P.underlying T with
  |some (.int _)=>true
  |_=>false
def Gv (E:Env) (h:aD) (nid n sz:Nat) (t:Ty) (cs:List SV) (K:CR→Option ρ):Option ρ:=
  cond (E.lit&&Nat.beq t.sz sz) (match e9 h t n cs with
    |some ([],xs)=>K {v:=.own nid,news:=[.arr none t xs]}
    |_=>K {v:=.bsl nid n,news:=[.box cs]}) (K {v:=.bsl nid n,news:=[.box cs]})
def vZ (E:Env) (h:aD) (nid:Nat) (e:TypeId) (sz:Nat) (t:Ty) (T':TypeId) (b x:SV) (K:CR→Option ρ):Option ρ:=
  match b with
  |.bn=>cond (Fy E.P T'&&(kd E.P e&&Nat.beq t.sz sz)) (x.asI.bind fun l=>(dG E.P e).bind fun z=>(e9 h t 1 z).bind fun q=>cond (isNil q.1&&Nat.beq z.length sz) (match q.2 with
      |[y]=>cond (decide (1≤l∧l≤(b7:Int))) (K {v:=.own nid,news:=[.arr none t (List.replicate l.toNat y)]}) none
      |_=>none) none) none
  |_=>none
def v7 (h:aD) (t:Ty) (b x:SV) (K:CR→Option ρ):Option ρ:=
  match b,x with
  | .sub i 0 a, .sub i' o n => cond (Nat.beq i i') (match look h i with
    |some (.arr (some d) t' xs)=>if he:t'=t then cond (mem i d) none (cond (Nat.ble (a+n) xs.length&&(Nat.ble (o+n) xs.length&&Nat.ble 1 xs.length))
        (K {v:=.sub i 0 (a+n),upd:=[(i,.arr (some d) t ((he▸xs).take a++((he▸xs).drop o).take n++(he▸xs).drop (a+n)))],gP:=[i]}) none)else none
    |_=>none) none
  |_,_=>none
def Fz (E:Env) (s:List (Nat× SV)) (h:aD) (nid:Nat) (T:TypeId) (a:Operand) (K:CR→Option ρ) (D:Option ρ):Option ρ:=
  cond E.tak (match opd s a with
    | some (.ptr i x 0) => match look h i with
      |some (.arr none (.st st) xs)=>cond (kb (.st st)) D ((xs[x]?).bind fun e=>(fB E.P T (ny nid (st.cells e))).bind fun v=>
          K {v:=v,news:=im (st.cells e),upd:=[(i,.arr none (.ho st) (iH xs x))],gP:=[i]})
      |_=>D
    |_=>D) D
def sw (E:Env) (s:List (Nat× SV)) (h:aD) (nid:Nat) (op:Op) (K:CR→Option ρ):Option ρ:=
  match op with
  |.alloc T=>(dG E.P T).bind fun z=>K {v:=.ptr nid 0 0,news:=[.box z]}
  |.box _ x=>(opd s x).bind fun v=>v.cells.bind fun cs=>K {v:=.ptr nid 0 0,news:=[.box cs]}
  | .buildSlice T n parts =>
    (gO E.P T).bind fun e=>(eY E.P e).bind fun sz=>(lC s parts.toList).bind fun ps=>(dG E.P e).bind fun z=>
      cond (Nat.ble (n*sz) 16777216&&Nat.beq z.length sz) ((j9 (fun i=>some (i*sz,sz)) (List.replicate (n*sz) .undef) ps).bind fun cs=>
        match E.tt e with
        |none=>K {v:=.bsl nid n,news:=[.box cs]}
        |some t=>cond ((kb t||Nat.beq n 0)&&Nat.beq t.sz sz) ((e9 h t n cs).bind fun x=>cond (isNil x.1) (K {v:=.own nid,news:=[.arr none t x.2]}) none) (Gv E h nid n sz t cs K)) none
  | .makeSlice T l c =>
    (gO E.P T).bind fun e=>(eY E.P e).bind fun sz=>(E.tt e).bind fun t=>(dG E.P e).bind fun z=>(opd s l).bind fun l=>(opd s c).bind fun c=>l.asI.bind fun l=>c.asI.bind fun c=>
      cond (kd E.P e&&Nat.beq t.sz sz) ((e9 h t 1 z).bind fun x=>cond (isNil x.1&&Nat.beq z.length sz) (match x.2 with
        |[y]=>cond (decide (0≤l∧l≤c∧c≤(b7:Int))) (K {v:=.own nid,news:=[.arr none t (List.replicate l.toNat y)]}) none
        |_=>none) none) none
  | .call { callee := .builtin .append, args, argTypes } => (lL s args.toList).bind fun vs => match vs, argTypes.toList with
    | [b, x], [T, T'] => (gO E.P T).bind fun e => (eY E.P e).bind fun sz => (E.tt e).bind fun t => cond (kd E.P e && (Nat.beq t.sz sz && Nat.beq T T')) ((dG E.P e).bind fun z => cond (Nat.beq z.length sz)
      ((lM h t x).bind fun y=>match b with
        |.bn=>cond (hit y.2.1 (y.1.getD [])) none (cond (Nat.ble y.2.2.length b7) (K {v:=.own nid,news:=[.arr y.1 t y.2.2],gone:=y.2.1}) none)
        | .own i => match look h i with
          | some (.arr sh t' xs) => if he : t' = t then
              (xA sh y.1).bind fun sh'=>cond (mem i y.2.1) none (cond (hit (i::y.2.1) (sh'.getD [])) none (cond (Nat.ble (xs.length+y.2.2.length) b7) (K {v:=.own nid,news:=[.arr sh' t ((he▸xs)++y.2.2)],gone:=i::y.2.1}) none))
            else none
          |_=>none
        |b=>v7 h t b x K) none) (vZ E h nid e sz t T' b x K)
    |_,_=>none
  | .call { callee := .builtin .clear, args, argTypes } => (lL s args.toList).bind fun vs => match vs, argTypes.toList with
    | [v], [T] => (gO E.P T).bind fun e => (dG E.P e).bind fun z => (vY h v).bind fun p => match look h p.1 with
      | some (.arr sh t xs) => cond (Nat.beq z.length t.sz) ((e9 h t 1 z).bind fun x => cond (isNil x.1) (match x.2 with
        |[y]=>K {v:=.undef,upd:=[(p.1,.arr sh t (xs.take p.2.1++List.replicate p.2.2 y++xs.drop (p.2.1+p.2.2)))],gP:=[p.1]}
        |_=>none) none) none
      |_=>none
    |_,_=>none
  | .store T a x => (opd s a).bind fun a => (opd s x).bind fun x => match a with
    | .ptr i k o => match look h i with
      |some (.box cs)=>cond (Nat.beq k 0) (x.cells.bind fun xs=>(eY E.P T).bind fun sz=>cond (Nat.beq sz xs.length) ((setCells cs o xs).bind fun cs=>K {v:=.undef,upd:=[(i,.box cs)]}) none) none
      |some (.arr sh t ys)=>o9 E.P T h i sh t ys k o x K
      |_=>none
    |_=>none
  | .call { callee := .value f, args, .. } => (opd s f).bind fun f => (lL s args.toList).bind fun vs => match f with
    |.fn (.func g) first cap=>E.orc g ρ nid (first++vs++cap) h K
    |_=>none
  | .load T a => match Fw E s h T a with
    |some v=>K {v:=v}
    |none=>Fz E s h nid T a K (jl E.P s h (.load T a) fun v=>K {v:=v})
  | .convert src dst x => match Fx E.P s h src dst x with
    |some i=>K {v:=.own i}
    |none=>jl E.P s h (.convert src dst x) fun v=>K {v:=v}
  |op=>jl E.P s h op fun v=>K {v:=v}
noncomputable def both (x y:Option ρ):Option ρ:=open Classical in if x=y then x else none
def xB:Op→Option (TypeId× Operand× Bool)
  |.binOp .eql T x (.const (.slice none 0 0)) _=>some (T,x,true)
  |.binOp .neq T x (.const (.slice none 0 0)) _=>some (T,x,false)
  |_=>none
noncomputable def Gd (h:aD) (v:SV) (K:Bool→Option ρ):Option ρ:=
  match v with
  |.bn=>K true
  |.r _ (.sl _ xs)=>cond (isNil xs) (both (K true) (K false)) (K false)
  | .own i => match look h i with
    |some (.arr _ _ xs)=>cond (isNil xs) (both (K true) (K false)) (K false)
    |_=>none
  |_=>none
noncomputable def Fb (E:Env) (o:Oper) (st:St) (K:St→Option ρ):Option ρ:=
  match xB o.op with
  |some (T,x,e)=>cond (xy E.P T) ((opd st.au x).bind fun v=>Gd st.heap v fun b=>(st.take o.dst {v:=.b (cond b e (!e))}).bind K) none
  |none=>sw E st.au st.heap st.nid o.op fun c=>(st.take o.dst c).bind K
def Ei (ops:List Oper) (j:Nat):Option Tmp:=(ops[j]?).bind (·.dst)
def tZ (o:Oper) (st:St) (K:St→Option ρ):Option ρ:=
  (Fv st.au st.n o.dst (.tup [])).bind fun s=>K {st with au:=s}
noncomputable def sx (E:Env) (all:List Oper):List Oper→St→(St→Option ρ)→Option ρ
  |[],st,K=>K st
  | o :: rest, st, K =>
    match o.guard with
    |none=>Fb E o st fun st=>sx E all rest st K
    | some (j, want) => (Ei all j).bind fun t => (look st.au t).bind fun v => match v with
      |.tup []=>tZ o st fun st=>sx E all rest st K
      | v => v.asB.bind fun b =>
        cond b
          (cond want (Fb E o {st with au:=put st.au t (.b true)} fun st=>sx E all rest st K)
            (tZ o {st with au:=put st.au t (.b true)} fun st=>sx E all rest st K))
          (cond want (tZ o {st with au:=put st.au t (.b false)} fun st=>sx E all rest st K)
            (Fb E o {st with au:=put st.au t (.b false)} fun st=>sx E all rest st K))
def after (H:aD) (nid:Nat) (c:CR):Option aD:=
  (eJ c.kil (lD c.upd H)).bind fun h=>some (h++aI nid c.news)
structure DR where
  dst:Option Tmp
  n0:Nat
  c:CR
  see:List Nat
  CO:List SV:=[]
  len:Bool:=false
abbrev SH:=List (Nat× SV)× aD
def xC (s:List (Nat× SV)) (dst:Option Tmp) (v:SV):List (Nat× SV):=
  match dst with
  |some t=>put s t v
  |none=>s
def zg:aD→Nat→Blk→aD
  |[],_,_=>[]
  |(k,u)::l,n,b=>cond (Nat.beq k n) ((k,b)::l) ((k,u)::zg l n b)
def fc:aD→aD→aD
  |[],h=>h
  |(k,b)::l,h=>fc l (zg h k b)
def DR.app (r:DR) (x:SH):Option SH:=
  (eJ r.c.kil (fc r.c.upd x.2)).bind fun h=>some (xC (jk r.c.kil x.1) r.dst r.c.v,h++aI r.n0 r.c.news)
def replay (p:Nat→Bool):Nat→List DR→SH→Option SH
  |_,[],x=>some x
  |j,r::l,x=>cond (p j) ((r.app x).bind fun x=>replay p (j+1) l x) (replay p (j+1) l x)
def nz (n:Nat):List Edge→Bool
  |[]=>true
  |e::l=>cond (Region.binds .any e) (cond (Nat.ble (e.on+1) n) (nz n l) false) (nz n l)
def ua (masks:List Nat):List Edge→Nat
  |[]=>0
  |e::l=>cond (Region.binds .any e) ((masks.getD e.on 0||| 2^e.on)||| ua masks l) (ua masks l)
def pF:List Nat→List Oper→Option (List Nat)
  |acc,[]=>some acc
  |acc,o::l=>cond (nz acc.length o.after.toList) (pF (acc++[ua acc o.after.toList]) l) none
def fa:List Oper→List Nat
  |[]=>[]
  | o :: l => match o.dst with
    |some t=>t::fa l
    |none=>fa l
def CP (masks:List Nat) (i:Nat):Nat→List Oper→List Nat
  |_,[]=>[]
  | j, o :: l => cond ((masks.getD j 0).testBit i) (CP masks i (j + 1) l) (match o.dst with
    |some t=>t::CP masks i (j+1) l
    |none=>CP masks i (j+1) l)
def zi (n:Nat):List Nat→Bool
  |[]=>true
  |i::l=>cond (Nat.ble (i+1) n) (zi n l) false
def cF:List Operand→List Nat
  |[]=>[]
  |.tmp t::l=>t::cF l
  |_::l=>cF l
def iI (T:List Nat) (s:List (Nat× SV)):List Nat→List (Nat× SV)
  |[]=>[]
  | t :: l => cond (mem t T) (iI T s l) (match look s t with
    |some v=>(t,v)::iI T s l
    |none=>iI T s l)
def gT (E:Env):Op→Bool
  |.store _ _ _=>true
  |.load _ _=>E.tak
  |.call {callee:=.builtin .len,.. }|.call {callee:=.builtin .cap,.. }|.call {callee:=.builtin .min,.. }|.call {callee:=.builtin .max,.. }=>false
  |.call {callee:=.builtin _,.. }=>true
  |.call {callee:=.value (.func g),.. }=>E.wr g
  |.call {callee:=.value _,.. }=>E.wt
  |.call _=>false
  |_=>false
def FA (masks:List Nat) (i j:Nat):Bool:=Nat.beq i j||((masks.getD i 0).testBit j||(masks.getD j 0).testBit i)
def oC (E:Env) (masks:List Nat) (i:Nat):Nat→List Oper→Bool
  |_,[]=>false
  |j,o::l=>cond (gT E o.op) (cond (FA masks i j) (oC E masks i (j+1) l) true) (oC E masks i (j+1) l)
def sy (s:List (Nat× SV)):List Nat→List SV
  |[]=>[]
  | t :: l => match look s t with
    |some v=>v::sy s l
    |none=>sy s l
def oD (h:aD):List Nat→aD
  |[]=>[]
  | i :: l => match look h i with
    |some b=>(i,b)::oD h l
    |none=>oD h l
def Ej:Op→Bool
  |.move _=>true
  |.assign _=>true
  |.extract _ _=>true
  |.nilCheck _=>true
  |.fieldAddr _ _ _=>true
  |_=>false
def FB:Op→Bool
  |.load _ _=>true
  |_=>false
def Ge (E:Env) (masks:List Nat) (i:Nat) (ops:List Oper) (x:SH) (o:Oper):List Nat:=
  cond (oC E masks i 0 ops&&!Ej o.op) (reach x.2 (cond (FB o.op) 0 3) (j8 [] (Aq (sy x.1 (cF o.op.operands.toList))))) []
def zj (E:Env) (masks:List Nat) (i:Nat) (ops:List Oper) (x:SH) (o:Oper):aD:=
  cond (oC E masks i 0 ops) (oD x.2 (Ge E masks i ops x o)) x.2
def CQ (L:List Nat):aD→Bool
  |[]=>false
  |(k,_)::l=>cond (mem k L) true (CQ L l)
def okW (E:Env) (op:Op) (c:CR):Bool:=cond (gT E op) true (isNil c.kil.2&&isNil c.upd)
mutual
def SV.As (T:Kil):SV→Bool
  |.r d _=>!hit T.2 d
  |.own i=>!mem i T.1
  |.sub i _ _=>!mem i T.1
  |.bsl i _=>!mem i T.1
  |.ptr i _ _=>!mem i T.1
  |.inn i _ _=>!(mem i T.1||mem i T.2)
  |.fU d _=>!hit T.2 d
  |.agg cs=>pG T cs
  |.tup cs=>pG T cs
  |.fn _ a b=>pG T a&&pG T b
  |.bn=>true
  |.j7=>true
  |.undef=>true
def pG (T:Kil):List SV→Bool
  |[]=>true
  |v::l=>v.As T&&pG T l
end
def Blk.As (T:Kil):Blk→Bool
  |.box cs=>pG T cs
  |.arr (some d) _ _=>!hit T.2 d
  |.arr none _ _=>true
def AK (k:Nat) (B:Blk):List DR→Bool
  |[]=>true
  |r::l=>cond ((look r.c.upd k).isNone&&(!mem k r.c.kil.1&&B.As r.c.kil)) (AK k B l) false
def F2 (h:aD) (rs:List DR):List Nat→Bool
  |[]=>true
  | k :: l => match look h k with
    |some B=>cond (AK k B rs) (F2 h rs l) false
    |none=>false
def de (cm:DR→Bool) (r:DR):Bool:=isNil r.c.kil.2&&(isNil r.c.upd&&(isNil r.c.news&&cm r))
def zk (b a:DR):Bool:=a.c.v.As b.c.kil&&pG b.c.kil a.CO
def FC (b:DR):aD→Bool
  |[]=>true
  |(k,_)::l=>cond (Nat.ble (k+1) b.n0||Nat.ble (b.n0+b.c.news.length) k) (FC b l) false
def v8 (a b:DR):Bool:=(isNil a.c.kil.2&&isNil b.c.kil.2)&&((isNil b.c.upd&&FC b a.c.upd)||(isNil a.c.upd&&FC a b.c.upd))&&(!(CQ b.see a.c.upd)&&!(CQ a.see b.c.upd))
def ly (cm:DR→Bool) (a b:DR):Bool:=v8 a b||((zk b a&&de cm a)||(zk a b&&de cm b))
def pH (cm:DR→Bool) (masks:List Nat) (i:Nat) (r:DR):Nat→List DR→Bool
  |_,[]=>true
  |j,b::l=>cond ((masks.getD j 0).testBit i) (pH cm masks i r (j+1) l) (cond (ly cm r b) (pH cm masks i r (j+1) l) false)
def rf (cm:DR→Bool) (masks:List Nat):Nat→List DR→Bool
  |_,[]=>true
  |i,r::l=>cond (pH cm masks i r (i+1) l) (rf cm masks (i+1) l) false
def Ek:List DR→Nat→SV→List DR
  |[],_,_=>[]
  |r::l,0,v=>{r with c:={r.c with v:=v}}::l
  |r::l,n+1,v=>r::Ek l n v
def FD:Op→Bool
  |.indexAddr _ _ _=>true
  |_=>false
def FE (h:aD):List Nat→Bool
  |[]=>true
  |i::l=>cond (look h i).isSome (FE h l) false
def ub (x:SH) (o:Oper):List Nat:=j8 [] (Aq (sy x.1 (cF o.op.operands.toList)))
def AL (E:Env) (h0:aD) (x:SH) (o:Oper):Bool:=E.swp&&(FD o.op&&FE h0 (ub x o))
def AM (E:Env) (masks:List Nat) (i:Nat) (ops:List Oper) (h0:aD) (x:SH) (o:Oper):aD:=cond (AL E h0 x o) (oD h0 (ub x o)) (zj E masks i ops x o)
def F3 (E:Env) (masks:List Nat) (i:Nat) (ops:List Oper) (h0:aD) (x:SH) (o:Oper):List Nat:=cond (AL E h0 x o) (ub x o) (Ge E masks i ops x o)
def Em (E:Env) (masks:List Nat) (i:Nat) (ops:List Oper) (h0:aD) (x:SH) (o:Oper) (nid:Nat) (c:CR):DR:=⟨o.dst,nid,c,F3 E masks i ops h0 x o,sy x.1 (cF o.op.operands.toList),AL E h0 x o⟩
def jZ (E:Env) (ops:List Oper) (masks dsts:List Nat) (s0:List (Nat× SV)) (h0:aD):Nat→List Oper→Nat→List DR→(List DR→Nat→Option ρ)→Option ρ
  |_,[],nid,rs,K=>K rs nid
  | i, o :: rest, nid, rs, K =>
    (replay (Nat.testBit (masks.getD i 0)) 0 rs (iI (CP masks i 0 ops) s0 (cF o.op.operands.toList),h0)).bind fun x=>
    match o.guard with
    |none=>sw E (iI [] x.1 (cF o.op.operands.toList)) (AM E masks i ops h0 x o) nid o.op fun c=>cond (okW E o.op c) (jZ E ops masks dsts s0 h0 (i+1) rest (nid+c.news.length) (rs++[Em E masks i ops h0 x o nid c]) K) none
    | some (g, want) => cond (Nat.testBit (masks.getD i 0) g) ((rs[g]?).bind fun r => r.dst.bind fun _ => match r.c.v with
      |.tup []=>jZ E ops masks dsts s0 h0 (i+1) rest nid (rs++[⟨o.dst,nid,{v:=.tup []},[],[],false⟩]) K
      | .r [] (.bool b) => cond b
        (cond want
          (sw E (iI [] x.1 (cF o.op.operands.toList)) (AM E masks i ops h0 x o) nid o.op fun c=>cond (okW E o.op c) (jZ E ops masks dsts s0 h0 (i+1) rest (nid+c.news.length) (Ek rs g (.b true)++[Em E masks i ops h0 x o nid c]) K) none)
          (jZ E ops masks dsts s0 h0 (i+1) rest nid (Ek rs g (.b true)++[⟨o.dst,nid,{v:=.tup []},[],[],false⟩]) K))
        (cond want
          (jZ E ops masks dsts s0 h0 (i+1) rest nid (Ek rs g (.b false)++[⟨o.dst,nid,{v:=.tup []},[],[],false⟩]) K)
          (sw E (iI [] x.1 (cF o.op.operands.toList)) (AM E masks i ops h0 x o) nid o.op fun c=>cond (okW E o.op c) (jZ E ops masks dsts s0 h0 (i+1) rest (nid+c.news.length) (Ek rs g (.b false)++[Em E masks i ops h0 x o nid c]) K) none))
      |_=>none) none
def pI:List Nat→List Nat→Bool
  |[],_=>true
  |i::l,T=>cond (mem i T) false (pI l T)
def sA (L:List Nat):List DR→Bool
  |[]=>true
  |r::l=>cond (pI L r.c.kil.1) (sA L l) false
def qK (h:aD) (rs:List DR) (r:DR):Bool:=cond r.len (sA r.see rs) (F2 h rs r.see)
def rh (cm:DR→Bool):List DR→Bool
  |[]=>true
  |r::l=>cond (!r.len||de cm r) (rh cm l) false
def v9 (E:Env) (ops:List Oper) (st:St) (K:St→Option ρ):Option ρ:=
  cond (E.P.follows .mixedOrders) ((pF [] ops).bind fun masks=>
    cond (jX (fa ops)) (cond (zi st.n (fa ops))
      (jZ E ops masks (fa ops) st.au st.heap 0 ops st.nid [] fun rs nid=>cond (rf (qK st.heap rs) masks 0 rs&&rh (qK st.heap rs) rs)
        ((replay (fun _=>true) 0 rs (st.au,st.heap)).bind fun x=>K {st with au:=x.1,heap:=x.2,nid:=nid}) none) none) none) none
inductive Ex where
  |normal
  |exit (id:Nat)
  |ret
def refine(c:Operand) (b:Bool) (st:St):St:=
  match c with
  |.tmp t=>{st with au:=put st.au t (.b b)}
  |_=>st
abbrev Ev (ρ:Type):=St→(Ex→St→Option ρ)→Option ρ
def inBlock (id:Nat) (K:Ex→St→Option ρ):Ex→St→Option ρ
  |.exit j,st=>cond (Nat.beq j id) (K .normal st) (K (.exit j) st)
  |e,st=>K e st
def CC (i:Nat):List Nat→List Nat
  |[]=>[]
  |k::l=>cond (Nat.beq k i) (CC i l) (k::CC i l)
def xD (i:Nat) (t:Ty) (h:aD) (v:SV):SV:=
  match v.list h t with
  |some p=>.r (CC i p.1) (.sl t p.2)
  |none=>.undef
mutual
def SV.frz (i:Nat) (t:Ty) (h:aD):SV→SV
  |.r d x=>.r (CC i d) x
  |.own j=>cond (Nat.beq j i) (xD i t h (.own j)) (.own j)
  |.sub j o n=>cond (Nat.beq j i) (xD i t h (.sub j o n)) (.sub j o n)
  |.bsl j n=>cond (Nat.beq j i) .undef (.bsl j n)
  |.ptr j x o=>cond (Nat.beq j i) .undef (.ptr j x o)
  |.inn j x c=>cond (Nat.beq j i) .undef (.inn j x c)
  |.fU d cs=>.fU (CC i d) cs
  |.agg cs=>.agg (tO i t h cs)
  |.tup cs=>.tup (tO i t h cs)
  |.fn f a b=>.fn f (tO i t h a) (tO i t h b)
  |.bn=>.bn
  |.j7=>.j7
  |.undef=>.undef
def tO (i:Nat) (t:Ty) (h:aD):List SV→List SV
  |[]=>[]
  |v::l=>v.frz i t h::tO i t h l
end
def Blk.frz (i:Nat) (t:Ty) (h:aD):Blk→Blk
  |.box cs=>.box (tO i t h cs)
  |.arr none t' xs=>.arr none t' xs
  |.arr (some d) t' xs=>.arr (some (CC i d)) t' xs
def wc (i:Nat) (t:Ty) (h:aD):aD→aD
  |[]=>[]
  |(k,b)::l=>cond (Nat.beq k i) (wc i t h l) ((k,b.frz i t h)::wc i t h l)
def zl (i:Nat) (t:Ty) (h:aD):List (Nat× SV)→List (Nat× SV)
  |[]=>[]
  |(k,v)::l=>(k,v.frz i t h)::zl i t h l
def Gf (i:Nat) (st:St):St:=
  match look st.heap i with
  |some (.arr _ t _)=>{st with au:=zl i t st.heap st.au,heap:=wc i t st.heap st.heap}
  |_=>st
def FF (h:aD):SV→List Nat→Option Nat
  |.own i,[]=>some i
  |.sub i _ _,[]=>some i
  | .agg cs, j :: p => match cs[j]? with
    |some v=>FF h v p
    |none=>none
  | .tup cs, j :: p => match cs[j]? with
    |some v=>FF h v p
    |none=>none
  | .ptr i 0 o, j :: p => match look h i with
    | some (.box cs) => match cs[o + j]? with
      |some v=>FF h v p
      |none=>none
    |_=>none
  | .bsl i _, j :: p => match look h i with
    | some (.box cs) => match cs[j]? with
      |some v=>FF h v p
      |none=>none
    |_=>none
  |_,_=>none
termination_by structural _ p=>p
def Gg (i:Nat) (st:St):St:=
  match look st.heap i with
  |some (.arr none t xs)=>{st with heap:=put st.heap i (.arr (some []) t xs)}
  |_=>st
def D1 (st:St) (x:Bool× Nat× List Nat):St:=
  match look st.au x.2.1 with
  | some v => match FF st.heap v x.2.2 with
    |some i=>cond x.1 (Gg i st) (Gf i st)
    |none=>st
  |none=>st
def xE:List (Bool× Nat× List Nat)→St→St
  |[],st=>st
  |x::l,st=>xE l (D1 st x)
def Blk.AO (b:Blk) (K:Blk→Option ρ):Option ρ:=
  match b with
  |.arr none (.ho s) zs=>(mq zs).bind fun xs=>K (.arr none (.st s) xs)
  |.arr none (.hl t) zs=>(mq zs).bind fun xs=>K (.arr none (.sl t) xs)
  |b=>K b
def AP:aD→(aD→Option ρ)→Option ρ
  |[],K=>K []
  |(k,b)::l,K=>b.AO fun b=>AP l fun l=>K ((k,b)::l)
def xF (E:Env) (K:St→Option ρ) (st:St):Option ρ:=cond E.tak (AP st.heap fun h=>K {st with heap:=h}) (K st)
noncomputable def ev (E:Env) (LP:Nat→Ev ρ→Ev ρ) (cb:Nat):Code→Ev ρ
  |.skip,st,K=>K .normal st
  |.label _,st,K=>K .normal st
  |.region id ops false,st,K=>sx E ops.toList ops.toList (AJ (E.wk id) (xE (E.fz id) st)) (xF E (K .normal))
  |.region id ops true,st,K=>v9 E ops.toList (AJ (E.wk id) (xE (E.fz id) st)) (xF E (K .normal))
  | .seq a b, st, K => ev E LP cb a st fun e st => match e with
    |.normal=>ev E LP cb b st K
    |e=>K e st
  |.cond c t f,st,K=>(opd st.au c).bind fun v=>v.asB.bind fun b=>cond b (ev E LP cb t (refine c true st) K) (ev E LP cb f (refine c false st) K)
  |.block id c,st,K=>ev E LP id c st (inBlock id K)
  |.loop c,st,K=>LP cb (fun st K=>ev E LP cb c st K) st K
  |.exit id,st,K=>K (.exit id) st
  |.scope c,st,K=>ev E LP cb c st K
  |.ret,st,K=>K .ret st
  |_,_,_=>none
end Go.Proofs.Ev
namespace Go.Proofs.Ev
def Ext {α:Type} (s s':List (Nat× α)):Prop:=∀t v,look s t=some v→look s' t=some v
theorem Ext.rfl' {α:Type} {s:List (Nat× α)}:Ext s s:=fun _ _ h=>h
def Le {α:Type} (x y:Option α):Prop:=∀a,x=some a→y=some a
theorem Le.refl {α:Type} (x:Option α):Le x x:=fun _ h=>h
theorem Le.bind {α β:Type} {x y:Option α} {f g:α→Option β} (h:Le x y) (hf:∀a,Le (f a) (g a)):Le (x.bind f) (y.bind g):=by
  intro b hb
  rw[Option.bind_eq_some_iff]at hb⊢
  obtain⟨a,h1,h2⟩:=hb
  exact⟨a,h a h1,hf a b h2⟩
theorem Le.cond {α:Type} {b:Bool} {x y x' y':Option α} (h:Le x x') (h':Le y y'):Le (cond b x y) (cond b x' y'):=by cases b<;>assumption
theorem Le.none {α:Type} {y:Option α}:Le Option.none y:=fun _ h=>nomatch h
section
variable {s s':List (Nat× SV)} {h h':aD} {P:Program}
theorem En (hh:Ext h h') (i:Nat):Le (look h i) (look h' i):=fun _=>hh i _
theorem bM (hs:Ext s s') (x:Operand):Le (opd s x) (opd s' x):=by
  cases x with
  |tmp t=>exact fun v hv=>hs t v hv
  |_=>exact Le.refl _
theorem ff (hs:Ext s s'):(l:List Operand)→Le (lL s l) (lL s' l)
  |[]=>Le.refl _
  |x::l=>(bM hs x).bind fun _=>(ff hs l).bind fun _=>Le.refl _
theorem we (hs:Ext s s') (x:Option Operand):Le (CB s x) (CB s' x):=by
  cases x with
  |none=>exact Le.refl _
  |some x=>exact(bM hs x).bind fun _=>Le.refl _
theorem ke (hs:Ext s s'):(l:List (Nat× Operand))→Le (lC s l) (lC s' l)
  |[]=>Le.refl _
  |(_,x)::l=>(bM hs x).bind fun _=>(ke hs l).bind fun _=>Le.refl _
theorem zm (hh:Ext h h') (v:SV):Le (gB h v) (gB h' v):=by
  cases v<;>try exact Le.refl _
  rename_i i x o
  intro cs hcs
  simp only[gB]at hcs⊢
  cases hl:look h i with
  |none=>rw[hl]at hcs;exact nomatch hcs
  |some B=>rw[hl]at hcs;rw[hh i B hl];exact hcs
theorem CS (hh:Ext h h') (v:SV):Le (lenOf h v) (lenOf h' v):=by
  intro n hn
  cases v with
  | own i =>
    simp only[lenOf]at hn⊢
    cases hl:look h i with
    |none=>rw[hl]at hn;exact nomatch hn
    |some B=>rw[hl]at hn;rw[hh i B hl];exact hn
  |r d x=>cases x<;>exact hn
  |_=>exact hn
theorem zn (hh:Ext h h') (T:TypeId) (v:SV) (lo hi:Option SV):Le (fb P T h v lo hi) (fb P T h' v lo hi):=by
  intro cs hcs
  cases v with
  | own i =>
    simp only[fb]at hcs⊢
    cases hl:look h i with
    |none=>rw[hl]at hcs;exact nomatch hcs
    |some B=>rw[hl]at hcs;rw[hh i B hl];exact hcs
  | sub i o n =>
    simp only[fb]at hcs⊢
    cases hl:look h i with
    |none=>rw[hl]at hcs;exact nomatch hcs
    |some B=>rw[hl]at hcs;rw[hh i B hl];exact hcs
  |r d x=>cases x<;>exact hcs
  |_=>exact hcs
theorem qN (hh:Ext h h') (T:TypeId) (v:SV) (k:Int):Le (bf P T h v k) (bf P T h' v k):=by
  intro cs hcs
  cases v with
  | own i =>
    simp only[bf]at hcs⊢
    cases hl:look h i with
    |none=>rw[hl]at hcs;exact nomatch hcs
    |some B=>rw[hl]at hcs;rw[hh i B hl];exact hcs
  | sub i o n =>
    simp only[bf]at hcs⊢
    cases hl:look h i with
    |none=>rw[hl]at hcs;exact nomatch hcs
    |some B=>rw[hl]at hcs;rw[hh i B hl];exact hcs
  |r d x=>cases x<;>exact hcs
  |_=>exact hcs
theorem wg (hh:Ext h h') (t:Ty) (v:SV):Le (v.list h t) (v.list h' t):=by
  intro p hp
  cases v<;>try exact hp
  all_goals
    simp only[SV.list]at hp⊢
    split at hp
    · rename_i hl;rw[hh _ _ hl];exact hp
    · exact nomatch hp
theorem FG (hh:Ext h h') (T:TypeId) (x:SV):Le (slN P T h x) (slN P T h' x):=by
  intro n hn
  cases x with
  | own i =>
    simp only[slN]at hn⊢
    cases hl:look h i with
    |none=>rw[hl]at hn;exact nomatch hn
    |some B=>rw[hl]at hn;rw[hh i B hl];exact hn
  |r d x=>cases x<;>exact hn
  |_=>exact hn
theorem nA (hs:Ext s s') (hh:Ext h h') (op:Op):Le (dH P s h op) (dH P s' h' op):=by
  intro v hv
  unfold dH at hv
  split at hv<;>simp only[dH]
  · exact bM hs _ v hv
  · exact bM hs _ v hv
  · revert hv;exact((bM hs _).bind fun c=>(Le.refl _).bind fun b=>Le.cond (bM hs _) (bM hs _)) v
  · revert hv
    split
    · exact((Le.refl _).bind fun _=>(Le.refl _).bind fun _=>(ke hs _).bind fun _=>Le.refl _) v
    · exact fun h=>nomatch h
  · exact((bM hs _).bind fun a=>(zm hh a).bind fun _=>Le.refl _) v hv
  · exact((bM hs _).bind fun a=>Le.refl _) v hv
  · exact((bM hs _).bind fun a=>(bM hs _).bind fun _=>Le.refl _) v hv
  · exact((bM hs _).bind fun a=>Le.refl _) v hv
  · exact((bM hs _).bind fun a=>Le.cond ((wg hh _ _).bind fun _=>Le.refl _) (Le.refl _)) v hv
  · exact((ff hs _).bind fun a=>(ff hs _).bind fun _=>Le.refl _) v hv
  · exact((bM hs _).bind fun a=>(we hs _).bind fun _=>(we hs _).bind fun _=>zn hh _ _ _ _) v hv
  · exact((bM hs _).bind fun a=>(we hs _).bind fun _=>(bM hs _).bind fun _=>(bM hs _).bind fun _=>(FG hh _ _).bind fun _=>Le.refl _) v hv
  · exact((bM hs _).bind fun a=>Le.refl _) v hv
  · exact((bM hs _).bind fun a=>Le.refl _) v hv
  · exact((bM hs _).bind fun a=>(bM hs _).bind fun _=>(Le.refl _).bind fun _=>qN hh _ _ _) v hv
  · exact((bM hs _).bind fun a=>(bM hs _).bind fun _=>Le.refl _) v hv
  · exact((bM hs _).bind fun a=>Le.refl _) v hv
  · refine((ff hs _).bind fun vs=>?_) v hv
    split
    · exact Le.cond ((CS hh _).bind fun _=>Le.refl _) (Le.refl _)
    · exact Le.refl _
  · exact((ff hs _).bind fun a=>Le.refl _) v hv
  · exact((ff hs _).bind fun a=>Le.refl _) v hv
  · exact((ff hs _).bind fun a=>Le.refl _) v hv
  · exact nomatch hv
theorem uc (hh:Ext h h') (t:Ty) (v:SV):Le (v.asR h t) (v.asR h' t):=by
  cases t with
  |sl t=>exact(wg hh t v).bind fun _=>Le.refl _
  |_=>exact Le.refl _
theorem wj (hh:Ext h h'):(ts:List Ty)→(vs:List SV)→Le (Ap h ts vs) (Ap h' ts vs)
  |[],[]=>Le.refl _
  |t::ts,v::vs=>(uc hh t v).bind fun _=>(wj hh ts vs).bind fun _=>Le.refl _
  |[],_::_=>Le.refl _
  |_::_,[]=>Le.refl _
theorem Eo (hh:Ext h h') (t:Ty) (vs:List SV):Le (F0 h t vs) (F0 h' t vs):=(wj hh _ _).bind fun _=>Le.refl _
theorem xG (hh:Ext h h') (t:Ty):(n:Nat)→(c:List SV)→Le (zf h t n c) (zf h' t n c)
  |0,_=>Le.refl _
  |n+1,_=>(Eo hh t _).bind fun _=>(xG hh t n _).bind fun _=>Le.refl _
theorem sB (hh:Ext h h') (t:Ty) (v:SV):Le (v.Ar h t) (v.Ar h' t):=by
  intro p hp
  cases t with
  | sl t =>
    cases v with
    | own i =>
      simp only[SV.Ar]at hp⊢
      cases hl:look h i with
      |none=>rw[hl]at hp;exact nomatch hp
      |some B=>rw[hl]at hp;rw[hh i B hl];exact hp
    |_=>exact hp
  |_=>exact hp
theorem xH (hh:Ext h h'):(ts:List Ty)→(vs:List SV)→Le (vX h ts vs) (vX h' ts vs)
  |[],[]=>Le.refl _
  |t::ts,v::vs=>(sB hh t v).bind fun _=>(xH hh ts vs).bind fun _=>Le.refl _
  |[],_::_=>Le.refl _
  |_::_,[]=>Le.refl _
theorem gC (hh:Ext h h') (t:Ty):(n:Nat)→(c:List SV)→Le (e9 h t n c) (e9 h' t n c)
  |0,_=>Le.refl _
  |n+1,_=>(xH hh _ _).bind fun _=>(Le.refl _).bind fun _=>(gC hh t n _).bind fun _=>Le.refl _
theorem ud (hh:Ext h h'):(c:List SV)→Le (tY h c) (tY h' c)
  |[]=>Le.refl _
  | v :: l => by
    have ih:=ud hh l
    cases v with
    | own i =>
      refine(En hh i).bind fun b=>?_
      cases b with
      |box _=>exact Le.refl _
      | arr sh _ _ => cases sh with
        |none=>exact ih
        |some _=>exact Le.refl _
    | r d x => cases x with
      |sl _ _=>exact Le.refl _
      |_=>exact ih
    |sub _ _ _=>exact Le.refl _
    |bsl _ _=>exact Le.refl _
    |_=>exact ih
theorem AQ (hh:Ext h h') (t:Ty) (n:Nat) (c:List SV):Le (xz h t n c) (xz h' t n c):=
  (ud hh c).bind fun b=>Le.cond ((gC hh t n c).bind fun _=>Le.refl _) ((xG hh t n c).bind fun _=>Le.refl _)
theorem ri (hh:Ext h h') (t:Ty) (v:SV):Le (lM h t v) (lM h' t v):=by
  have ind:∀(v:SV) (p:List Nat× List t.El),v.list h t=some p→jY h' v p.1=jY h v p.1:=fun v p hp=>by
    cases v with
    | own i =>
      simp only[SV.list]at hp
      cases hl:look h i with
      |none=>rw[hl]at hp;exact nomatch hp
      |some B=>simp only[jY,hl,hh i B hl]
    |_=>rfl
  have lst:∀v:SV,Le ((v.list h t).bind fun p=>cond (kb t) (some (none,[],p.2)) (some (some (jY h v p.1),[],p.2)):Option (Option (List Nat)× List Nat× List t.El)) ((v.list h' t).bind fun p=>cond (kb t) (some (none,[],p.2)) (some (some (jY h' v p.1),[],p.2))):=fun v q hq=>by
    rw[Option.bind_eq_some_iff]at hq⊢
    obtain⟨p,hp,hq⟩:=hq
    exact⟨p,wg hh t v p hp,by rw[ind v p hp];exact hq⟩
  cases v with
  | bsl i n =>
    intro p hp
    simp only[lM]at hp⊢
    cases hl:look h i with
    |none=>rw[hl]at hp;exact nomatch hp
    | some B =>
      rw[hl]at hp;rw[hh i B hl]
      cases B with
      |box cs=>exact((AQ hh t n cs).bind fun _=>Le.refl _) p hp
      |arr _ _ _=>exact nomatch hp
  |r d x=>exact lst (.r d x)
  |bn=>exact lst .bn
  |j7=>exact lst .j7
  |own i=>exact lst (.own i)
  |sub i o n=>exact lst (.sub i o n)
  |ptr i x o=>exact lst (.ptr i x o)
  |inn i x o=>exact lst (.inn i x o)
  |fU d x=>exact lst (.fU d x)
  |agg x=>exact lst (.agg x)
  |tup x=>exact lst (.tup x)
  |fn f a b=>exact lst (.fn f a b)
  |undef=>exact lst .undef
end
end Go.Proofs.Ev
namespace Go.Proofs.Ev
abbrev Cell:=Nat× Nat
def _root_.Go.World.at? (w:World) (p:Cell):Option Value:=w.cell? ⟨p.1,p.2,none⟩
def _root_.Go.World.cD (w:World) (p:Cell):Nat× Nat× Nat:=
  match w.heap[p.1]? with
  |some (.cells c _ fr)=>(fr.1,fr.2,c.size)
  |_=>(0,0,0)
def calm (r:Nat× Nat× Nat):Bool:=decide (r.1=r.2.1∨r.2.2≤r.1)
def whole (r:Nat× Nat× Nat) (o n:Nat):Bool:=calm r&&decide (o=0∧r.2.2=n)
theorem kX {r:Nat× Nat× Nat} {o n:Nat} (h:whole r o n=true):calm r=true:=by
  unfold whole at h
  rw[Bool.and_eq_true]at h
  exact h.1
theorem xI {n:Nat}:whole (0,0,n) 0 n=true:=by simp[whole,calm]
theorem gD {w:World} {b o:Nat} {u:Value} (h:w.at? (b,o)=some u) (hc:calm (w.cD (b,o))=true):w.frozen? ⟨b,o,none⟩=false:=by
  unfold World.at? World.cell? at h
  unfold calm World.cD at hc
  unfold World.frozen?
  cases hb:w.heap[b]? with
  |none=>rfl
  | some ob =>
    cases ob with
    | cells c t fr =>
      simp only[hb,Option.isSome_none,Bool.false_eq_true,if_false]at h
      simp only[hb,decide_eq_true_eq]at hc
      have:=(Array.getElem?_eq_some_iff.1 h).1
      obtain⟨lo,hi⟩:=fr
      simp only at hc⊢
      rw[Bool.and_eq_false_iff,decide_eq_false_iff_not,decide_eq_false_iff_not]
      omega
    |_=>rfl
theorem ue (w:World) (a:Addr) (v:Value) (p:Cell):(w.setCell a v).cD p=w.cD p:=by
  unfold World.cD World.setCell
  simp only[Array.getElem?_modify]
  by_cases e:a.block=p.1
  · rw[if_pos e]
    cases hb:w.heap[p.1]? with
    |none=>rfl
    | some ob =>
      cases ob with
      |cells c t fr=>simp only[Option.map_some];split<;>simp
      |_=>rfl
  · rw[if_neg e]
theorem dq (b:Nat):∀(vs:List Value) (o:Nat) (w:World) (p:Cell),(w.setCells b o vs).cD p=w.cD p
  |[],_,_,_=>rfl
  |v::vs,o,w,p=>(dq b vs (o+1) (w.setCell ⟨b,o,none⟩ v) p).trans (ue w _ v p)
def one:Value→Bool
  |.agg _|.tuple _=>false
  |_=>true
class Tok where
  env:Nat→Value
  AR:∀n,one (env n)=true
  AU:env 0=.slice none 0 0
variable [Tok]
set_option linter.unusedSectionVars false
def reg (b o n:Nat) (p:Cell):Prop:=p.1=b∧o≤p.2∧p.2<o+n
def ax (t:Ty) (xs:List t.El) (i j:Nat) (r:R):Prop:=∃x,xs[i]? =some x∧(t.cells x)[j]? =some r
theorem aJ {t:Ty} {xs:List t.El} {i j:Nat} {r:R} (h:ax t xs i j r):i<xs.length∧j<t.sz:=by
  obtain⟨x,hx,hr⟩:=h
  refine⟨(List.getElem?_eq_some_iff.1 hx).1,?_⟩
  have:=(List.getElem?_eq_some_iff.1 hr).1
  rwa [Ty.bz]at this
theorem cg {t:Ty} {xs:List t.El} {i j:Nat} (hi:i<xs.length) (hj:j<t.sz):∃r,ax t xs i j r:=by
  refine⟨(t.cells xs[i])[j]'(by rw[Ty.bz];exact hj),xs[i],?_,?_⟩<;>simp
theorem kg {i j n s c:Nat} (hi:i<n) (hj:j<s) (h:n≤c):i*s+j<c*s:=by
  have h1:(i+1)*s≤c*s:=Nat.mul_le_mul_right s (by omega)
  have:(i+1)*s=i*s+s:=Nat.succ_mul i s
  omega
inductive fg (w:World) (ok:Cell→Prop):R→Value→Prop
  |int (k:IntKind) (n:Int):fg w ok (.int k n) (.int k n)
  |bool (b:Bool):fg w ok (.bool b) (.bool b)
  |str (l:List UInt8):fg w ok (.str l) (.string ⟨l.toArray⟩)
  |sl (t:Ty) (xs:List t.El) (a:Option Addr) (cap b o:Nat) (vs:Nat→Nat→Value)
      (eK:xs.length≤cap) (ha:xs=[]∨a=some ⟨b,o,none⟩)
      (hc:∀i j r,ax t xs i j r→ok (b,o+(i*t.sz+j))∧w.at? (b,o+(i*t.sz+j))=some (vs i j))
      (hr:∀i j r,ax t xs i j r→fg w ok r (vs i j)):fg w ok (.sl t xs) (.slice a xs.length cap)
  |tok (n:Nat):fg w ok (.tok n) (Tok.env n)
  |jW (v:Value) (h:one v=true):fg w ok .jW v
theorem fg.frame {w w':World} {ok ok':Cell→Prop} {r:R} {v:Value} (h:fg w ok r v)
    (hf:∀p u,ok p→w.at? p=some u→ok' p∧w'.at? p=some u):fg w' ok' r v:=by
  induction h with
  |int=>exact .int _ _
  |bool=>exact .bool _
  |str=>exact .str _
  |tok=>exact .tok _
  |jW v h=>exact .jW v h
  | sl t xs a cap b o vs eK ha hc _ ih =>
    exact .sl t xs a cap b o vs eK ha (fun i j r hr=>hf _ _ (hc i j r hr).1 (hc i j r hr).2) ih
structure Row (w:World) (inner:R→Value→(Cell→Prop)→Prop) (t:Ty) (xs:List t.El) (hdr:Value) (fp:Cell→Prop) where
  a:Option Addr
  cap:Nat
  b:Nat
  o:Nat
  vs:Nat→Nat→Value
  fs:Nat→Nat→Cell→Prop
  uf:hdr=.slice a xs.length cap
  eK:xs.length≤cap
  ha:cap=0∨a=some ⟨b,o,none⟩
  gU:∀j,j<cap*t.sz→(∃v,w.at? (b,o+j)=some v)∧whole (w.cD (b,o+j)) o (cap*t.sz)=true
  hc:∀i j r,ax t xs i j r→w.at? (b,o+(i*t.sz+j))=some (vs i j)
  hr:∀i j r,ax t xs i j r→inner r (vs i j) (fs i j)
  hd1:∀i j r p,ax t xs i j r→fs i j p→¬reg b o (cap*t.sz) p
  hd2:∀i j r i' j' r' p,ax t xs i j r→ax t xs i' j' r'→fs i j p→fs i' j' p→i=i'∧j=j'
  hfp:∀p,fp p↔reg b o (cap*t.sz) p∨∃i j r,ax t xs i j r∧fs i j p
inductive dc (w:World):R→Value→(Cell→Prop)→Prop
  |int (k:IntKind) (n:Int):dc w (.int k n) (.int k n) (fun _=>False)
  |bool (b:Bool):dc w (.bool b) (.bool b) (fun _=>False)
  |str (l:List UInt8):dc w (.str l) (.string ⟨l.toArray⟩) (fun _=>False)
  |sl (t:Ty) (xs:List t.El) (a:Option Addr) (cap b o:Nat) (vs:Nat→Nat→Value) (fs:Nat→Nat→Cell→Prop) (fp:Cell→Prop)
      (eK:xs.length≤cap) (ha:cap=0∨a=some ⟨b,o,none⟩)
      (gU:∀j,j<cap*t.sz→(∃v,w.at? (b,o+j)=some v)∧whole (w.cD (b,o+j)) o (cap*t.sz)=true)
      (hc:∀i j r,ax t xs i j r→w.at? (b,o+(i*t.sz+j))=some (vs i j))
      (hr:∀i j r,ax t xs i j r→dc w r (vs i j) (fs i j))
      (hd1:∀i j r p,ax t xs i j r→fs i j p→¬reg b o (cap*t.sz) p)
      (hd2:∀i j r i' j' r' p,ax t xs i j r→ax t xs i' j' r'→fs i j p→fs i' j' p→i=i'∧j=j')
      (hfp:∀p,fp p↔reg b o (cap*t.sz) p∨∃i j r,ax t xs i j r∧fs i j p):dc w (.sl t xs) (.slice a xs.length cap) fp
  |tok (n:Nat):dc w (.tok n) (Tok.env n) (fun _=>False)
  |jW (v:Value) (h:one v=true):dc w .jW v (fun _=>False)
theorem dc.row {w:World} {t:Ty} {xs:List t.El} {v:Value} {fp:Cell→Prop} (h:dc w (.sl t xs) v fp):Nonempty (Row w (dc w) t xs v fp):=by
  cases h with
  |sl t xs a cap b o vs fs fp eK ha gU hc hr hd1 hd2 hfp=>exact⟨⟨a,cap,b,o,vs,fs,rfl,eK,ha,gU,hc,hr,hd1,hd2,hfp⟩⟩
theorem Row.F4 {w:World} {t:Ty} {xs:List t.El} {v:Value} {fp:Cell→Prop} (h:Row w (dc w) t xs v fp):dc w (.sl t xs) v fp:=by
  obtain⟨a,cap,b,o,vs,fs,rfl,eK,ha,gU,hc,hr,hd1,hd2,hfp⟩:=h
  exact .sl t xs a cap b o vs fs fp eK ha gU hc hr hd1 hd2 hfp
theorem dc.frame {w w':World} {r:R} {v:Value} {fp:Cell→Prop} (h:dc w r v fp)
    (hf:∀p u,fp p→w.at? p=some u→w'.at? p=some u∧w'.cD p=w.cD p):dc w' r v fp:=by
  induction h with
  |int=>exact .int _ _
  |bool=>exact .bool _
  |str=>exact .str _
  |tok=>exact .tok _
  |jW v h=>exact .jW v h
  | sl t xs a cap b o vs fs fp eK ha gU hc _ hd1 hd2 hfp ih =>
    have hin:∀i j r,ax t xs i j r→fp (b,o+(i*t.sz+j)):=fun i j r hr=>(hfp _).2 (.inl ⟨rfl,by simp,by
      have:=kg (aJ hr).1 (aJ hr).2 eK;simp;omega⟩)
    refine .sl t xs a cap b o vs fs fp eK ha (fun j hj=>?_) (fun i j r hr=>(hf _ _ (hin i j r hr) (hc i j r hr)).1)
      (fun i j r hr=>ih i j r hr fun p u hp=>hf p u ((hfp p).2 (.inr ⟨i,j,r,hr,hp⟩))) hd1 hd2 hfp
    obtain⟨⟨v,hv⟩,hi⟩:=gU j hj
    have:=hf (b,o+j) v ((hfp _).2 (.inl ⟨rfl,by simp,by simp;omega⟩)) hv
    exact⟨⟨v,this.1⟩,by rw[this.2];exact hi⟩
theorem dc.CD {w:World} {r:R} {v:Value} {fp:Cell→Prop} {ok:Cell→Prop} (h:dc w r v fp) (hok:∀p,fp p→ok p):fg w ok r v:=by
  induction h with
  |int=>exact .int _ _
  |bool=>exact .bool _
  |str=>exact .str _
  |tok=>exact .tok _
  |jW v h=>exact .jW v h
  | sl t xs a cap b o vs fs fp eK ha gU hc _ hd1 hd2 hfp ih =>
    refine .sl t xs a cap b o vs eK ?_ (fun i j r hr=>⟨hok _ ((hfp _).2 (.inl ⟨rfl,by simp,by
      have:=kg (aJ hr).1 (aJ hr).2 eK;simp;omega⟩)),hc i j r hr⟩)
      (fun i j r hr=>ih i j r hr fun p hp=>hok p ((hfp p).2 (.inr ⟨i,j,r,hr,hp⟩)))
    rcases ha with rfl|h
    · exact .inl (List.length_eq_zero_iff.1 (by omega))
    · exact .inr h
theorem dc.there {w:World} {r:R} {v:Value} {fp:Cell→Prop} (h:dc w r v fp):∀p,fp p→∃u,w.at? p=some u:=by
  induction h with
  |int=>exact fun _ h=>h.elim
  |bool=>exact fun _ h=>h.elim
  |str=>exact fun _ h=>h.elim
  |tok=>exact fun _ h=>h.elim
  |jW=>exact fun _ h=>h.elim
  | sl t xs a cap b o vs fs fp eK ha gU hc _ hd1 hd2 hfp ih =>
    intro p hp
    rcases(hfp p).1 hp with⟨h1,h2,h3⟩|⟨i,j,r,hr,hp⟩
    · obtain⟨p1,p2⟩:=p
      have h1:p1=b:=h1
      simp only at h1 h2 h3
      subst h1
      have:=(gU (p2-o) (by omega)).1
      rwa [show o+(p2-o)=p2 from by omega]at this
    · exact ih i j r hr p hp
structure Pl where
  hdr:Nat→Value
  fp:Nat→Cell→Prop
  base:Cell→Prop
def Blk.gE:Blk→Bool
  |.box _=>true
  |.arr _ _ _=>false
def okd (H:aD) (pl:Pl) (d:List Nat) (p:Cell):Prop:=pl.base p∧∀i B,look H i=some B→(mem i d=true→B.gE=true)→¬pl.fp i p
inductive aj (w:World) (H:aD) (pl:Pl):SV→Value→Prop
  |r (d:List Nat) (x:R) (v:Value) (h:fg w (okd H pl d) x v):aj w H pl (.r d x) v
  |bn:aj w H pl .bn (.slice none 0 0)
  |j7:aj w H pl .j7 (.pointer none)
  |own (i:Nat) (sh:Option (List Nat)) (t:Ty) (xs:List t.El) (h:look H i=some (.arr sh t xs)):aj w H pl (.own i) (pl.hdr i)
  |sub (i o n:Nat) (sh:Option (List Nat)) (t:Ty) (xs:List t.El) (a a':Option Addr) (cap cap':Nat) (h:look H i=some (.arr sh t xs))
      (hh:pl.hdr i=.slice a xs.length cap) (hn:o+n≤xs.length) (hc:n≤cap') (hc':o+cap'=cap) (ha:cap'=0∨a'=a.map (·.add (o*t.sz))):
      aj w H pl (.sub i o n) (.slice a' n cap')
  |bsl (i n:Nat) (cs:List SV) (a:Addr) (h:look H i=some (.box cs)) (hh:pl.hdr i=.pointer (some a)):aj w H pl (.bsl i n) (.slice (some a) n n)
  |nB (i o:Nat) (cs:List SV) (b k:Nat) (h:look H i=some (.box cs)) (hh:pl.hdr i=.pointer (some ⟨b,k,none⟩)):aj w H pl (.ptr i 0 o) (.pointer (some ⟨b,k+o,none⟩))
  |mi (i x o:Nat) (sh:Option (List Nat)) (t:Ty) (xs:List t.El) (b k n cap:Nat) (h:look H i=some (.arr sh t xs)) (hx:x<xs.length)
      (hh:pl.hdr i=.slice (some ⟨b,k,none⟩) n cap):aj w H pl (.ptr i x o) (.pointer (some ⟨b,k+(x*t.sz+o),none⟩))
  |inn (i x c:Nat) (sh:Option (List Nat)) (t:Ty) (xs:List t.El) (b k n cap:Nat) (v:Value) (h:look H i=some (.arr sh t xs)) (hx:x<xs.length) (hc:c<t.sz)
      (hh:pl.hdr i=.slice (some ⟨b,k,none⟩) n cap) (hok:okd H pl [i] (b,k+(x*t.sz+c))) (hv:w.at? (b,k+(x*t.sz+c))=some v) (h1:one v=true):aj w H pl (.inn i x c) v
  |fU (d:List Nat) (cs:List R) (b o:Nat) (vs:Nat→Value) (hc:∀j r,cs[j]? =some r→okd H pl d (b,o+j)∧w.at? (b,o+j)=some (vs j))
      (hr:∀j r,cs[j]? =some r→fg w (okd H pl d) r (vs j)):aj w H pl (.fU d cs) (.pointer (some ⟨b,o,none⟩))
  |agg (cs:List SV) (vs:Array Value) (hl:cs.length=vs.size) (h1:∀(j:Nat) (v:Value),vs[j]? =some v→one v=true) (h:∀(j:Nat) (x:SV) (v:Value),cs[j]? =some x→vs[j]? =some v→aj w H pl x v):aj w H pl (.agg cs) (.agg vs)
  |tup (cs:List SV) (vs:Array Value) (hl:cs.length=vs.size) (h:∀(j:Nat) (x:SV) (v:Value),cs[j]? =some x→vs[j]? =some v→aj w H pl x v):aj w H pl (.tup cs) (.tuple vs)
  |fn (f:Fn) (as bs:List SV) (us vs:Array Value) (hl:as.length=us.size) (h:∀(j:Nat) (x:SV) (v:Value),as[j]? =some x→us[j]? =some v→aj w H pl x v)
      (hl':bs.length=vs.size) (h':∀(j:Nat) (x:SV) (v:Value),bs[j]? =some x→vs[j]? =some v→aj w H pl x v):aj w H pl (.fn f as bs) (.func f us vs)
  |undef (v:Value):aj w H pl .undef v
def cC (w:World) (H:aD) (pl:Pl) (i:Nat):Blk→Prop
  |.box cs=>∃b o,pl.hdr i=.pointer (some ⟨b,o,none⟩)∧(∀p,pl.fp i p↔reg b o cs.length p)∧
      ∀j v,cs[j]? =some v→∃u,w.at? (b,o+j)=some u∧calm (w.cD (b,o+j))=true∧one u=true∧aj w H pl v u
  |.arr none t xs=>Nonempty (Row w (dc w) t xs (pl.hdr i) (pl.fp i))
  |.arr (some d) t xs=>Nonempty (Row w (fun r v f=>fg w (okd H pl d) r v∧∀p,¬f p) t xs (pl.hdr i) (pl.fp i))
structure bH (H:aD) (pl:Pl) (w:World):Prop where
  blk:∀i B,look H i=some B→cC w H pl i B
  dis:∀i j B B' p,look H i=some B→look H j=some B'→pl.fp i p→pl.fp j p→i=j
  ob:∀i B p,look H i=some B→pl.fp i p→pl.base p
  nb:∀p,w.at? p=none→pl.base p
end Go.Proofs.Ev
namespace Go.Proofs.Ev
variable [Tok]
set_option linter.unusedSectionVars false
section lists
variable {α:Type}
theorem aq (k:Nat) (v:α) (l:List (Nat× α)) (n:Nat):look ((k,v)::l) n=if k=n then some v else look l n:=by
  simp only[look]
  cases h:Nat.beq k n
  · have:¬k=n:=fun e=>by subst e;simp at h
    simp[this]
  · have:k=n:=Nat.eq_of_beq_eq_true h
    simp[this]
theorem cE (l:List (Nat× α)) (n m:Nat) (v:α):look (put l n v) m=if n=m then some v else look l m:=by
  induction l with
  |nil=>rw[put,aq]
  | cons x l ih =>
    obtain⟨k,u⟩:=x
    simp only[put]
    cases hk:Nat.beq k n
    · simp only[cond_false,look,ih]
      cases hm:Nat.beq k m
      · simp
      · have h1:k=m:=Nat.eq_of_beq_eq_true hm
        subst h1
        have:¬n=k:=fun e=>by subst e;simp at hk
        simp[this]
    · have h1:k=n:=Nat.eq_of_beq_eq_true hk
      subst h1
      simp only[cond_true,look]
      cases hm:Nat.beq k m
      · have:¬k=m:=fun e=>by subst e;simp at hm
        simp[this]
      · have:k=m:=Nat.eq_of_beq_eq_true hm
        simp[this]
theorem az (l l':List (Nat× α)) (n:Nat):look (l++l') n=(look l n).or (look l' n):=by
  induction l with
  |nil=>simp[look]
  | cons x l ih =>
    obtain⟨k,u⟩:=x
    simp only[List.cons_append,look]
    cases Nat.beq k n<;>simp[ih]
theorem mem_iff (i:Nat) (l:List Nat):mem i l=true↔i∈l:=by
  induction l with
  |nil=>simp[mem]
  | cons k l ih =>
    simp only[mem]
    cases h:Nat.beq k i
    · have:¬i=k:=fun e=>by subst e;simp at h
      simp[ih,this]
    · have:k=i:=Nat.eq_of_beq_eq_true h
      simp[this]
theorem cT (T d:List Nat) (h:hit T d=false):∀i,mem i d=true→mem i T=false:=by
  induction d with
  |nil=>intro i hi;simp[mem]at hi
  | cons k l ih =>
    simp only[hit]at h
    cases hk:mem k T
    · rw[hk]at h
      intro i hi
      rw[mem_iff]at hi
      rcases List.mem_cons.1 hi with rfl|hi
      · exact hk
      · exact ih h i ((mem_iff i l).2 hi)
    · rw[hk]at h;simp at h
theorem aW (n:Nat) (l:List Blk) (i:Nat):look (aI n l) i=if n≤i then l[i-n]? else none:=by
  induction l generalizing n with
  |nil=>simp[aI,look]
  | cons b l ih =>
    rw[aI,aq,ih]
    by_cases h:n=i
    · subst h;simp
    · by_cases h2:n≤i
      · rw[if_neg h,if_pos (by omega),if_pos h2]
        rw[show i-n=(i-(n+1))+1 from by omega];rfl
      · rw[if_neg h,if_neg (by omega),if_neg h2]
theorem ug (u h:aD) (i:Nat):look (lD u h) i=match look u.reverse i with|some b=>some b|none=>look h i:=by
  induction u generalizing h with
  |nil=>simp[lD,look]
  | cons x l ih =>
    obtain⟨k,b⟩:=x
    rw[lD,ih,List.reverse_cons,az,cE,aq]
    cases look l.reverse i with
    |some c=>simp
    |none=>by_cases hk:k=i<;>simp[hk,look]
theorem wm (T:Kil) (s:List (Nat× SV)) (t:Nat):look (xw T s) t=(look s t).map (SV.aG T):=by
  induction s with
  |nil=>rfl
  | cons x l ih =>
    obtain⟨k,v⟩:=x
    rw[xw,aq,aq,ih]
    by_cases h:k=t<;>simp[h]
theorem pJ (T:Kil) (h h':aD) (e:pD T h=some h') (i:Nat):
    look h' i=cond (mem i T.1) none ((look h i).bind (Blk.aG T))∧(∀b,look h i=some b→mem i T.1=false→∃b',b.aG T=some b'):=by
  induction h generalizing h' with
  |nil=>simp only[pD,Option.some.injEq]at e;subst e;simp[look]
  | cons x l ih =>
    obtain⟨k,b⟩:=x
    simp only[pD]at e
    cases hk:mem k T.1
    · simp only[hk,cond_false,Option.bind_eq_some_iff,Option.some.injEq]at e
      obtain⟨b',hb,l',hl,rfl⟩:=e
      rw[aq,aq]
      by_cases hi:k=i
      · subst hi;simp[hk,hb]
      · simpa[hi]using ih l' hl
    · simp only[hk,cond_true]at e
      have:=ih h' e
      rw[aq]
      by_cases hi:k=i
      · subst hi;simp[hk]at this⊢;exact this
      · simpa[hi]using this
theorem ch {α:Type} {l:List α} (h:isNil l=true):l=[]:=by cases l with|nil=>rfl|cons _ _=>exact nomatch h
theorem wo {T:Kil} (h:T.2=[]) (h1:∀i,mem i T.1=true→mem i T.2=true):T=([],[]):=by
  obtain⟨a,b⟩:=T
  simp only at h h1
  subst h
  cases a with
  |nil=>rfl
  |cons x l=>have:=h1 x (by simp[mem]);exact nomatch this
theorem pK (i:Nat) (a b:List Nat):mem i (a++b)=(mem i a||mem i b):=by
  induction a with
  |nil=>simp[mem]
  |cons x l ih=>simp only[List.cons_append,mem,ih];cases Nat.beq x i<;>simp
theorem CR.dg (c:CR):∀i,mem i c.kil.1=true→mem i c.kil.2=true:=fun i h=>by
  show mem i (c.gone++c.gP)=true
  rw[pK,show mem i c.gone=true from h];rfl
theorem iJ (T:Kil) (l:List SV) (j:Nat):(ek T l)[j]? =(l[j]?).map (SV.aG T):=by
  induction l generalizing j with
  |nil=>rfl
  | cons v l ih => cases j with
    |zero=>rfl
    |succ j=>simpa[ek]using ih j
theorem dr (T:Kil) (l:List SV):(ek T l).length=l.length:=by
  induction l with
  |nil=>rfl
  |cons v l ih=>simp[ek,ih]
end lists
def Blk.gQ:Blk→Blk→Prop
  |.box a,.box b=>a.length=b.length
  |.arr _ t xs,.arr _ t' ys=>t.sz=t'.sz∧xs.length=ys.length
  |_,_=>False
theorem Blk.bR (b:Blk):b.gQ b:=by cases b<;>simp[Blk.gQ]
structure gF (T:Kil) (w:World) (H:aD) (pl:Pl) (w':World) (H':aD) (pl':Pl):Prop where
  k1:∀i B,look H i=some B→mem i T.1=false→∃B',look H' i=some B'∧B.gQ B'∧pl'.hdr i=pl.hdr i
  k2:∀d p u,(∀i,mem i d=true→mem i T.2=false)→okd H pl d p→w.at? p=some u→okd H' pl' d p∧w'.at? p=some u
theorem aj.cP {T:Kil} {w w':World} {H H':aD} {pl pl':Pl} (hk:gF T w H pl w' H' pl') {v:SV} {u:Value} (h:aj w H pl v u):
    aj w' H' pl' (v.aG T) u:=by
  induction h with
  | r d x v h =>
    simp only[SV.aG]
    cases hd:hit T.2 d
    · exact .r d x v (h.frame fun p u hp hu=>hk.k2 d p u (cT T.2 d hd) hp hu)
    · exact .undef _
  |bn=>exact .bn
  |j7=>exact .j7
  | own i sh t xs h =>
    simp only[SV.aG]
    cases hi:mem i T.1
    · obtain⟨B',h1,h2,h3⟩:=hk.k1 i _ h hi
      cases B' with
      |box cs=>exact h2.elim
      |arr sh' t' ys=>rw[←h3];exact .own i sh' t' ys h1
    · exact .undef _
  | sub i o n sh t xs a a' cap cap' h hh hn hc hc' ha =>
    simp only[SV.aG]
    cases hi:mem i T.1
    · obtain⟨B',h1,h2,h3⟩:=hk.k1 i _ h hi
      cases B' with
      |box cs=>exact h2.elim
      | arr sh' t' ys =>
        obtain⟨hz,hl⟩:=h2
        exact .sub i o n sh' t' ys a a' cap cap' h1 (by rw[h3,hh,hl]) (hl▸hn) hc hc' (by rw[←hz];exact ha)
    · exact .undef _
  | bsl i n cs a h hh =>
    simp only[SV.aG]
    cases hi:mem i T.1
    · obtain⟨B',h1,h2,h3⟩:=hk.k1 i _ h hi
      cases B' with
      |arr _ _ _=>exact h2.elim
      | box ds =>
        exact .bsl i n ds a h1 (h3.trans hh)
    · exact .undef _
  | nB i o cs b k h hh =>
    simp only[SV.aG]
    cases hi:mem i T.1
    · obtain⟨B',h1,h2,h3⟩:=hk.k1 i _ h hi
      cases B' with
      |arr _ _ _=>exact h2.elim
      |box ds=>exact .nB i o ds b k h1 (h3.trans hh)
    · exact .undef _
  | mi i x o sh t xs b k n cap h hx hh =>
    simp only[SV.aG]
    cases hi:mem i T.1
    · obtain⟨B',h1,h2,h3⟩:=hk.k1 i _ h hi
      cases B' with
      |box cs=>exact h2.elim
      | arr sh' t' ys =>
        obtain⟨hz,hl⟩:=h2
        rw[hz]
        exact .mi i x o sh' t' ys b k n cap h1 (hl▸hx) (h3.trans hh)
    · exact .undef _
  | inn i x c sh t xs b k n cap v h hx hc hh hok hv h1 =>
    simp only[SV.aG]
    cases hi:(mem i T.1||mem i T.2)
    · rw[Bool.or_eq_false_iff]at hi
      obtain⟨B',g1,g2,g3⟩:=hk.k1 i _ h hi.1
      have g4:=hk.k2 [i] _ v (fun j hj=>by
        simp only[mem]at hj
        cases hb:Nat.beq i j<;>simp only[hb,cond_true,cond_false]at hj
        · exact nomatch hj
        · rw[←Nat.eq_of_beq_eq_true hb];exact hi.2) hok hv
      cases B' with
      |box cs=>exact g2.elim
      | arr sh' t' ys =>
        obtain⟨hz,hl⟩:=g2
        rw[hz]at g4 hc
        exact .inn i x c sh' t' ys b k n cap v g1 (hl▸hx) hc (g3.trans hh) g4.1 g4.2 h1
    · exact .undef _
  | fU d cs b o vs hc hr =>
    simp only[SV.aG]
    cases hd:hit T.2 d
    · exact .fU d cs b o vs (fun j r hj=>hk.k2 d _ _ (cT T.2 d hd) (hc j r hj).1 (hc j r hj).2)
        fun j r hj=>(hr j r hj).frame fun p u hp hu=>hk.k2 d p u (cT T.2 d hd) hp hu
    · exact .undef _
  | agg cs vs hl h1 h ih =>
    refine .agg _ vs (by rw[dr,hl]) h1 fun j x v hx hv=>?_
    rw[iJ]at hx
    obtain⟨y,hy,rfl⟩:=Option.map_eq_some_iff.1 hx
    exact ih j y v hy hv
  | tup cs vs hl h ih =>
    refine .tup _ vs (by rw[dr,hl]) fun j x v hx hv=>?_
    rw[iJ]at hx
    obtain⟨y,hy,rfl⟩:=Option.map_eq_some_iff.1 hx
    exact ih j y v hy hv
  | fn f as bs us vs hl h hl' h' ih ih' =>
    refine .fn f _ _ us vs (by rw[dr,hl]) (fun j x v hx hv=>?_) (by rw[dr,hl']) fun j x v hx hv=>?_
    · rw[iJ]at hx
      obtain⟨y,hy,rfl⟩:=Option.map_eq_some_iff.1 hx
      exact ih j y v hy hv
    · rw[iJ]at hx
      obtain⟨y,hy,rfl⟩:=Option.map_eq_some_iff.1 hx
      exact ih' j y v hy hv
  |undef v=>exact .undef _
theorem sC (d:List Nat):hit [] d=false:=by
  induction d with
  |nil=>rfl
  |cons k l ih=>simpa[hit,mem]using ih
mutual
theorem bS:(v:SV)→v.aG ([],[])=v
  |.r d x=>by simp[SV.aG,sC]
  |.own j=>by simp[SV.aG,mem]
  |.sub j o n=>by simp[SV.aG,mem]
  |.bsl j n=>by simp[SV.aG,mem]
  |.ptr j x o=>by simp[SV.aG,mem]
  |.inn j x c=>by simp[SV.aG,mem]
  |.fU d cs=>by simp[SV.aG,sC]
  |.agg cs=>by simp[SV.aG,fh cs]
  |.tup cs=>by simp[SV.aG,fh cs]
  |.fn f a b=>by simp[SV.aG,fh a,fh b]
  |.bn=>by simp[SV.aG]
  |.j7=>by simp[SV.aG]
  |.undef=>by simp[SV.aG]
theorem fh:(l:List SV)→ek ([],[]) l=l
  |[]=>rfl
  |v::l=>by simp[ek,bS v,fh l]
end
theorem aj.oY {w w':World} {H H':aD} {pl pl':Pl} (hk:gF ([],[]) w H pl w' H' pl') {v:SV} {u:Value} (h:aj w H pl v u):
    aj w' H' pl' v u:=by have:=h.cP hk;rwa [bS]at this
end Go.Proofs.Ev
namespace Go.Proofs.Ev
variable [Tok]
set_option linter.unusedSectionVars false
section
variable {w:World} {H:aD} {pl:Pl}
theorem fg.scalar {ok:Cell→Prop} {x:R} {v:Value} (h:fg w ok x v) (ok':Cell→Prop) (hs:∀t xs,x≠.sl t xs):fg w ok' x v:=by
  cases h with
  |int=>exact .int _ _
  |bool=>exact .bool _
  |str=>exact .str _
  |tok=>exact .tok _
  |jW v h=>exact .jW v h
  |sl t xs=>exact(hs t xs rfl).elim
theorem pL {d:List Nat} {x:R} {v:Value} (h:fg w (okd H pl d) x v):aj w H pl (mkR d x) v:=by
  cases x with
  |sl t xs=>exact .r _ _ _ h
  |_=>exact .r _ _ _ (h.scalar _ (fun _ _ e=>nomatch e))
theorem fg.lN {ok:Cell→Prop} {x:R} {v:Value} (h:fg w ok x v):one v=true:=by cases h<;>first|rfl|exact Tok.AR _|assumption
def dI (w:World) (H:aD) (pl:Pl) (s:List (Nat× SV)) (a:Act):Prop:=∀t v,look s t=some v→aj w H pl v (a.tmps.getD t undef)
theorem pM {v:Value} {x:SV} (h:nv v=some x):aj w H pl x v:=by
  unfold nv at h
  split at h<;>first|(cases h)|skip
  · exact .r _ _ _ (.bool _)
  · exact .r _ _ _ (.int _ _)
  · exact .r _ _ _ (.str _)
  · exact .bn
  · exact .j7
theorem rj:∀{vs:List Value} {l:List SV},re vs=some l→l.length=vs.length∧∀(j:Nat) (x:SV) (v:Value),l[j]? =some x→vs[j]? =some v→aj w H pl x v
  |[],l,h=>by cases h;exact⟨rfl,fun j x v hx _=>by simp at hx⟩
  | v :: vs, l, h => by
    simp only[re,Option.bind_eq_some_iff,Option.some.injEq]at h
    obtain⟨x,hx,xs,hxs,rfl⟩:=h
    obtain⟨h1,h2⟩:=rj hxs
    refine⟨by simp[h1],fun j y u hy hu=>?_⟩
    cases j with
    |zero=>simp at hy hu;subst hy hu;exact pM hx
    |succ j=>exact h2 j y u (by simpa using hy) (by simpa using hu)
theorem wq {v:Value} {x:SV} (h:nv v=some x):one v=true:=by
  unfold nv at h
  split at h<;>first|rfl|(cases h)
theorem rk:∀{vs:List Value} {l:List SV},re vs=some l→∀(j:Nat) (v:Value),vs[j]? =some v→one v=true
  |[],l,_,j,v,hv=>by simp at hv
  | u :: vs, l, h, j, v, hv => by
    simp only[re,Option.bind_eq_some_iff,Option.some.injEq]at h
    obtain⟨x,hx,xs,hxs,rfl⟩:=h
    cases j with
    |zero=>simp at hv;subst hv;exact wq hx
    |succ j=>exact rk hxs j v (by simpa using hv)
theorem nC {v:Value} {x:SV} (h:xx v=some x):aj w H pl x v:=by
  unfold xx at h
  split at h
  · simp only[Option.bind_eq_some_iff,Option.some.injEq]at h
    obtain⟨l,hl,rfl⟩:=h
    obtain⟨h1,h2⟩:=rj (w:=w) (H:=H) (pl:=pl) hl
    refine .agg _ _ (by simpa using h1) (fun j v hv=>?_) fun j x v hx hv=>h2 j x v hx (by simpa using hv)
    exact rk hl j v (by simpa using hv)
  · exact pM h
theorem aL {s:List (Nat× SV)} {a:Act} (hs:dI w H pl s a) {o:Operand} {x:SV} (h:opd s o=some x):aj w H pl x (a.eval o):=by
  cases o with
  |tmp t=>exact hs t x h
  |const v=>exact nC h
  | func f =>
    simp only[opd,Option.some.injEq]at h;subst h
    exact .fn _ _ _ _ _ rfl (fun j x v hx _=>by simp at hx) rfl (fun j x v hx _=>by simp at hx)
  |global g=>exact nomatch h
theorem b8 {P:Program} {T:TypeId} {i:TypeInfo} (h:P.info? T=some i) (w:World):(sizeOf T).run P w=.ok i.size w:=by
  simp[sizeOf,typeInfo,h]
theorem bw {P:Program} {T:TypeId} {d:TypeDesc} (h:P.underlying T=some d) (w:World):(underlying T).run P w=.ok d w:=by
  simp[underlying,h]
theorem gp {P:Program} {T:TypeId} {d:TypeDesc} (h:P.underlying T=some d) (w:World):(isAgg T).run P w=.ok (pE P T) w:=by
  simp only[isAgg,Sem.run_bind,bw h,Result.andThen_ok,pE,h]
  cases d<;>rfl
theorem pN (hr:bH H pl w) {p:SV} {u:Value} (hp:aj w H pl p u) {cs:List SV} (h:gB H p=some cs):
    ∃b o,u=.pointer (some ⟨b,o,none⟩)∧∀(j:Nat) (x:SV),cs[j]? =some x→∃y,w.at? (b,o+j)=some y∧one y=true∧aj w H pl x y:=by
  cases hp with
  | fU d cs' b o vs hc hr' =>
    simp only[gB,Option.some.injEq]at h;subst h
    refine⟨b,o,rfl,fun j x hx=>?_⟩
    rw[List.getElem?_map]at hx
    obtain⟨r,hj,rfl⟩:=Option.map_eq_some_iff.1 hx
    exact⟨vs j,(hc j r hj).2,(hr' j r hj).lN,pL (hr' j r hj)⟩
  | nB i o cs' b k hl hh =>
    simp only[gB,hl,Option.some.injEq]at h;subst h
    obtain⟨b',o',e,_,hc⟩:=hr.blk i _ hl
    rw[hh]at e;cases e
    refine⟨b,k+o,rfl,fun j x hx=>?_⟩
    rw[List.getElem?_drop]at hx
    obtain⟨y,h1,_,h3,h4⟩:=hc _ _ hx
    exact⟨y,by rw[Nat.add_assoc];exact h1,h3,h4⟩
  | mi i x o sh t xs b k n cap hl hx hh =>
    simp only[gB,hl,Option.bind_eq_some_iff,Option.some.injEq]at h
    obtain⟨e,he,rfl⟩:=h
    have hb:=hr.blk i _ hl
    refine⟨b,k+(x*t.sz+o),rfl,fun j y hy=>?_⟩
    rw[List.getElem?_drop,List.getElem?_map]at hy
    obtain⟨r,hj,rfl⟩:=Option.map_eq_some_iff.1 hy
    have hcell:ax t xs x (o+j) r:=⟨e,he,hj⟩
    cases sh with
    | none =>
      obtain⟨R⟩:=hb
      obtain⟨a',cap',b',o',vs,fs,h1,h2,h3,h4,h5,h6,h7,h8,h9⟩:=R
      rw[hh]at h1;cases h1
      have hne:cap≠0:=by omega
      have h3:=h3.resolve_left hne
      cases h3
      refine⟨vs x (o+j),by rw[show k+(x*t.sz+o)+j=k+(x*t.sz+(o+j))from by omega];exact h5 _ _ _ hcell,?_,?_⟩
      · exact((h6 _ _ _ hcell).CD (ok:=fun _=>True) (fun _ _=>trivial)).lN
      · refine pL ((h6 _ _ _ hcell).CD fun p hp=>⟨hr.ob i _ p hl ((h9 p).2 (.inr ⟨_,_,_,hcell,hp⟩)),fun i' B hB hm hf=>?_⟩)
        have hp':pl.fp i p:=(h9 p).2 (.inr ⟨_,_,_,hcell,hp⟩)
        have:=hr.dis i' i _ _ p hB hl hf hp'
        subst this
        have hbx:=hm (by simp[AD,mem])
        rw[hl]at hB;cases hB
        simp[Blk.gE]at hbx
    | some d =>
      obtain⟨R⟩:=hb
      obtain⟨a',cap',b',o',vs,fs,h1,h2,h3,h4,h5,h6,h7,h8,h9⟩:=R
      rw[hh]at h1;cases h1
      have hne:cap≠0:=by omega
      have h3:=h3.resolve_left hne
      cases h3
      exact⟨vs x (o+j),by rw[show k+(x*t.sz+o)+j=k+(x*t.sz+(o+j))from by omega];exact h5 _ _ _ hcell,(h6 _ _ _ hcell).1.lN,pL (h6 _ _ _ hcell).1⟩
  |_=>exact nomatch h
theorem rl {α:Type} {n:Nat} {l m:List α} (h:takeN n l=some m):m.length=n∧∀j,j<n→m[j]? =l[j]? :=by
  unfold takeN at h
  cases hn:Nat.ble n l.length
  · simp[hn]at h
  · simp only[hn,cond_true,Option.some.injEq]at h
    subst h
    have:=Nat.le_of_ble_eq_true hn
    exact⟨by simp[this],fun j hj=>by simp[hj]⟩
theorem sD {P:Program} {T:TypeId} {cs:List SV} {v:SV} (h:fB P T cs=some v) (b o:Nat)
    (hc:∀(j:Nat) (x:SV),cs[j]? =some x→∃y,w.at? (b,o+j)=some y∧one y=true∧aj w H pl x y):
    ∃u,(loadVar T ⟨b,o,none⟩).run P w=.ok u w∧aj w H pl v u:=by
  simp only[fB,Option.bind_eq_some_iff]at h
  obtain⟨d,hd,i,hi,l,hl,h⟩:=h
  obtain⟨h1,h2⟩:=rl hl
  have hy:∀j,j<i.size→∃y x,l[j]? =some x∧w.at? (b,o+j)=some y∧aj w H pl x y:=fun j hj=>by
    have hx:l[j]? =some (l[j]'(by omega)):=List.getElem?_eq_getElem (by omega)
    obtain⟨y,h3,_,h5⟩:=hc j _ ((h2 j hj)▸hx)
    exact⟨y,_,hx,h3,h5⟩
  cases ha:pE P T
  · simp only[ha,cond_false]at h
    match l,h1,hl,h,hy,h2 with
    | [x], h1, hl, h, hy, h2 =>
      simp only[Option.some.injEq]at h;subst h
      have h1:i.size=1:=h1.symm
      obtain⟨y,x',h3,h4,h5⟩:=hy 0 (by omega)
      simp at h3;subst h3
      refine⟨y,?_,h5⟩
      have h4:w.cell? ⟨b,o,none⟩=some y:=h4
      simp[loadVar,gp hd,ha,h4]
  · simp only[ha,cond_true,Option.some.injEq]at h;subst h
    let f:Nat→Value:=fun j=>(w.at? (b,o+j)).getD undef
    have hf:∀j,j<i.size→w.cell? (Addr.add ⟨b,o,none⟩ j)=some (f j):=fun j hj=>by
      obtain⟨y,x,_,h4,_⟩:=hy j hj
      have e:Addr.add ⟨b,o,none⟩ j=⟨b,o+j,none⟩:=by
        unfold Addr.add;split
        · rename_i h0;subst h0;rfl
        · rfl
      rw[e]
      show w.at? (b,o+j)=some (f j)
      simp only[f,h4];rfl
    have hone:∀j,j<i.size→one (f j)=true:=fun j hj=>by
      have hx:l[j]? =some (l[j]'(by omega)):=List.getElem?_eq_getElem (by omega)
      obtain⟨y,h3,h4,_⟩:=hc j _ ((h2 j hj)▸hx)
      simp only[f,h3];exact h4
    refine⟨.agg ((List.range i.size).map f).toArray,?_,?_⟩
    · simp[loadVar,gp hd,ha,b8 hi,run_loadCells (P:=P) w ⟨b,o,none⟩ i.size f hf]
    · refine .agg _ _ (by simp[h1]) (fun j v hv=>by
        by_cases hj:j<i.size
        · have:v=f j:=by simp[hj]at hv;exact hv.symm
          rw[this];exact hone j hj
        · simp[hj]at hv) fun j x v hx hv=>?_
      have hj:j<i.size:=by have:=(List.getElem?_eq_some_iff.1 hx).1;omega
      obtain⟨y,x',h3,h4,h5⟩:=hy j hj
      rw[h3]at hx;cases hx
      have:v=f j:=by simp[hj]at hv;exact hv.symm
      subst this
      simp only[f,h4];exact h5
end
end Go.Proofs.Ev
