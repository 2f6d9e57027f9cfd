/- The evaluator over the model's code, and that it is sound: part 1. -/
import Derived.Calls
import Derived.Laws.IdiomCopy
import Derived.Laws.Cells
import Derived.Laws.Sem
set_option linter.unusedVariables false
set_option linter.unusedSimpArgs false
namespace Go.Proofs.Ev
structure Shape where
  h:Int
  w:Int
  c:Int
  deriving DecidableEq
structure Kf where
  sh:Shape
  data:List Int
  deriving DecidableEq
structure Uf where
  kind:Int
  out:Int
  size:Int
  step:Int
  mult:Int
  shift:Int
  zero:Int
  weights:List Int
  Z9:List Int
  deriving DecidableEq
structure Model where
  inp:Shape
  QR:List Uf
  deriving DecidableEq
structure Job where
  model:Model
  at_:Int
  act:Kf
  X9:Int
  deriving DecidableEq
structure Task where
  id:Int
  Ya:List Int
  at_:Int
  due:Int
  born:Int
  deriving DecidableEq
structure ZM where
  now:Int
  slack:Int
  age:Int
  tasks:List Task
  run:Int
  left:Int
  turns:Int
  next:Int
  deriving DecidableEq
structure Request where
  id:Int
  model:Int
  job:Job
  due:Int
  deriving DecidableEq
structure Step where
  kind:Int
  a:Int
  b:Int
  data:List Int
  input:Kf
  deriving DecidableEq
structure Event where
  kind:Int
  a:Int
  b:Int
  out:Kf
  deriving DecidableEq
structure Entry where
  id:Int
  model:Model
  input:Kf
  at_:Int
  due:Int
  end_:Int
  done:Bool
  deriving DecidableEq
structure Y2 where
  id:Int
  model:Int
  due:Int
  deriving DecidableEq
structure Vf where
  id:Int
  Ya:Nat
  at_:Int
  due:Int
  born:Int
  deriving DecidableEq
structure Ml where
  id:Int
  model:Int
  mh:Int
  mw:Int
  mc:Int
  QR:Nat
  jat:Int
  ah:Int
  aw:Int
  ac:Int
  data:Nat
  X9:Int
  due:Int
  deriving DecidableEq
inductive S where
  |shape|KZ|Kg|model|task|request|step|event|entry|Tj|NV|ID
  deriving DecidableEq
inductive Ty where
  |int (k:IntKind)|bool|str|sl (t:Ty)|st (s:S)|tok
  |ho (s:S)|hl (t:Ty)
  deriving DecidableEq
def S.E:S→Type
  |.shape=>Shape|.KZ=>Kf|.Kg=>Uf|.model=>Model|.task=>Task|.request=>Request
  |.step=>Step|.event=>Event|.entry=>Entry|.Tj=>Y2|.NV=>Vf|.ID=>Ml
def Ty.El:Ty→Type
  |.int _=>Int
  |.bool=>Bool
  |.str=>List UInt8
  |.sl t=>List t.El
  |.st s=>s.E
  |.tok=>Nat
  |.ho s=>Option s.E
  |.hl t=>Option (List t.El)
inductive R where
  |int (k:IntKind) (n:Int)
  |bool (b:Bool)
  |str (l:List UInt8)
  |sl (t:Ty) (xs:List t.El)
  |tok (n:Nat)
  |KT
abbrev R.i (n:Int):R:=.int .i64 n
abbrev R.ints (xs:List Int):R:=.sl (.int .i64) xs
abbrev R.bytes (xs:List Int):R:=.sl (.int .u8) xs
def Vg (x:Shape):List R:=[.i x.h,.i x.w,.i x.c]
def Vh (x:Kf):List R:=[.i x.sh.h,.i x.sh.w,.i x.sh.c,.ints x.data]
def XU (x:Uf):List R:=[.i x.kind,.i x.out,.i x.size,.i x.step,.i x.mult,.i x.shift,.i x.zero,.ints x.weights,.ints x.Z9]
def XV (x:Model):List R:=[.i x.inp.h,.i x.inp.w,.i x.inp.c,.sl (.st .Kg) x.QR]
def Y3 (x:Task):List R:=[.i x.id,.ints x.Ya,.i x.at_,.i x.due,.i x.born]
def Tk (x:Request):List R:=[.i x.id,.i x.model,.i x.job.model.inp.h,.i x.job.model.inp.w,.i x.job.model.inp.c,.sl (.st .Kg) x.job.model.QR,.i x.job.at_,.i x.job.act.sh.h,.i x.job.act.sh.w,.i x.job.act.sh.c,.ints x.job.act.data,.i x.job.X9,.i x.due]
def Y4 (x:Step):List R:=[.i x.kind,.i x.a,.i x.b,.bytes x.data,.i x.input.sh.h,.i x.input.sh.w,.i x.input.sh.c,.ints x.input.data]
def XW (x:Event):List R:=[.i x.kind,.i x.a,.i x.b,.i x.out.sh.h,.i x.out.sh.w,.i x.out.sh.c,.ints x.out.data]
def XX (x:Entry):List R:=[.i x.id,.i x.model.inp.h,.i x.model.inp.w,.i x.model.inp.c,.sl (.st .Kg) x.model.QR,.i x.input.sh.h,.i x.input.sh.w,.i x.input.sh.c,.ints x.input.data,.i x.at_,.i x.due,.i x.end_,.bool x.done]
def Yb (x:Y2):List R:=[.i x.id,.i x.model,.i x.due]
def Vi (x:Vf):List R:=[.i x.id,.tok x.Ya,.i x.at_,.i x.due,.i x.born]
def NW (x:Ml):List R:=[.i x.id,.i x.model,.i x.mh,.i x.mw,.i x.mc,.tok x.QR,.i x.jat,.i x.ah,.i x.aw,.i x.ac,.tok x.data,.i x.X9,.i x.due]
def S.sz:S→Nat
  |.shape=>3|.KZ=>4|.Kg=>9|.model=>4|.task=>5|.request=>13|.step=>8|.event=>7|.entry=>13|.Tj=>3|.NV=>5|.ID=>13
def S.cells:(s:S)→s.E→List R
  |.shape=>Vg|.KZ=>Vh|.Kg=>XU|.model=>XV|.task=>Y3|.request=>Tk
  |.step=>Y4|.event=>XW|.entry=>XX|.Tj=>Yb|.NV=>Vi|.ID=>NW
def Ty.sz:Ty→Nat
  |.st s=>s.sz
  |.ho s=>s.sz
  |_=>1
def Ty.cells:(t:Ty)→t.El→List R
  |.int k,n=>[.int k n]
  |.bool,b=>[.bool b]
  |.str,l=>[.str l]
  |.sl t,xs=>[.sl t xs]
  |.st s,x=>s.cells x
  |.tok,n=>[.tok n]
  | .ho s, x => match x with
    |some x=>s.cells x
    |none=>List.replicate s.sz .KT
  | .hl t, x => match x with
    |some xs=>[.sl t xs]
    |none=>[.KT]
theorem S.Hn (s:S) (x:s.E):(s.cells x).length=s.sz:=by cases s<;>rfl
theorem Ty.Hn (t:Ty) (x:t.El):(t.cells x).length=t.sz:=by
  cases t with
  |st s=>exact s.Hn x
  | ho s => cases x with
    |none=>simp[Ty.cells,Ty.sz]
    |some x=>exact s.Hn x
  |hl t=>cases x<;>rfl
  |_=>rfl
theorem Ty.IE (t:Ty):0<t.sz:=by
  cases t with
  |st s=>cases s<;>simp[Ty.sz,S.sz]
  |ho s=>cases s<;>simp[Ty.sz,S.sz]
  |_=>simp[Ty.sz]
def R.asI:R→Option Int
  |.int .i64 n=>some n
  |_=>none
def R.asB:R→Option Bool
  |.bool b=>some b
  |_=>none
def R.asL (t:Ty):R→Option (List t.El)
  |.sl t' xs=>if h:t'=t then some (h▸xs)else none
  |_=>none
def R.asT:R→Option Nat
  |.tok n=>some n
  |_=>none
theorem R.PW {r:R} {n:Nat} (h:r.asT=some n):r=.tok n:=by
  unfold R.asT at h;split at h
  · cases h;rfl
  · cases h
theorem R.GL {r:R} {n:Int} (h:r.asI=some n):r=.int .i64 n:=by
  unfold R.asI at h;split at h
  · cases h;rfl
  · cases h
theorem R.W0 {r:R} {n:Bool} (h:r.asB=some n):r=.bool n:=by
  unfold R.asB at h;split at h
  · cases h;rfl
  · cases h
theorem R.Ib {t:Ty} {r:R} {n:List t.El} (h:r.asL t=some n):r=.sl t n:=by
  unfold R.asL at h;split at h
  · split at h
    · rename_i e;subst e;cases h;rfl
    · cases h
  · cases h
def QS:List R→Option Shape
  |[a',b',c']=>(a'.asI).bind fun a=>(b'.asI).bind fun b=>(c'.asI).bind fun c=>some ⟨a,b,c⟩
  |_=>none
theorem R6 (cs:List R) (x:Shape) (h:QS cs=some x):Vg x=cs:=by
  unfold QS at h
  split at h
  · simp only[Option.bind_eq_some_iff]at h
    obtain⟨a,ha,b,hb,c,hc,h⟩:=h
    cases h
    rw[R.GL ha,R.GL hb,R.GL hc];rfl
  · cases h
def NX:List R→Option Kf
  |[a',b',c',d']=>(a'.asI).bind fun a=>(b'.asI).bind fun b=>(c'.asI).bind fun c=>(d'.asL (.int .i64)).bind fun d=>some ⟨⟨a,b,c⟩,d⟩
  |_=>none
theorem QT (cs:List R) (x:Kf) (h:NX cs=some x):Vh x=cs:=by
  unfold NX at h
  split at h
  · simp only[Option.bind_eq_some_iff]at h
    obtain⟨a,ha,b,hb,c,hc,d,hd,h⟩:=h
    cases h
    rw[R.GL ha,R.GL hb,R.GL hc,R.Ib hd];rfl
  · cases h
def QU:List R→Option Uf
  |[a',b',c',d',e',f',g',h',i']=>(a'.asI).bind fun a=>(b'.asI).bind fun b=>(c'.asI).bind fun c=>(d'.asI).bind fun d=>(e'.asI).bind fun e=>(f'.asI).bind fun f=>(g'.asI).bind fun g=>(h'.asL (.int .i64)).bind fun h=>(i'.asL (.int .i64)).bind fun i=>some ⟨a,b,c,d,e,f,g,h,i⟩
  |_=>none
theorem R7 (cs:List R) (x:Uf) (h:QU cs=some x):XU x=cs:=by
  unfold QU at h
  split at h
  · simp only[Option.bind_eq_some_iff]at h
    obtain⟨a,ha,b,hb,c,hc,d,hd,e,he,f,hf,g,hg,h,hh,i,hi,h⟩:=h
    cases h
    rw[R.GL ha,R.GL hb,R.GL hc,R.GL hd,R.GL he,R.GL hf,R.GL hg,R.Ib hh,R.Ib hi];rfl
  · cases h
def QV:List R→Option Model
  |[a',b',c',d']=>(a'.asI).bind fun a=>(b'.asI).bind fun b=>(c'.asI).bind fun c=>(d'.asL (.st .Kg)).bind fun d=>some ⟨⟨a,b,c⟩,d⟩
  |_=>none
theorem R8 (cs:List R) (x:Model) (h:QV cs=some x):XV x=cs:=by
  unfold QV at h
  split at h
  · simp only[Option.bind_eq_some_iff]at h
    obtain⟨a,ha,b,hb,c,hc,d,hd,h⟩:=h
    cases h
    rw[R.GL ha,R.GL hb,R.GL hc,R.Ib hd];rfl
  · cases h
def Vj:List R→Option Task
  |[a',b',c',d',e']=>(a'.asI).bind fun a=>(b'.asL (.int .i64)).bind fun b=>(c'.asI).bind fun c=>(d'.asI).bind fun d=>(e'.asI).bind fun e=>some ⟨a,b,c,d,e⟩
  |_=>none
theorem Ug (cs:List R) (x:Task) (h:Vj cs=some x):Y3 x=cs:=by
  unfold Vj at h
  split at h
  · simp only[Option.bind_eq_some_iff]at h
    obtain⟨a,ha,b,hb,c,hc,d,hd,e,he,h⟩:=h
    cases h
    rw[R.GL ha,R.Ib hb,R.GL hc,R.GL hd,R.GL he];rfl
  · cases h
def Mm:List R→Option Request
  |[a',b',c',d',e',f',g',h',i',j',k',l',m']=>(a'.asI).bind fun a=>(b'.asI).bind fun b=>(c'.asI).bind fun c=>(d'.asI).bind fun d=>(e'.asI).bind fun e=>(f'.asL (.st .Kg)).bind fun f=>(g'.asI).bind fun g=>(h'.asI).bind fun h=>(i'.asI).bind fun i=>(j'.asI).bind fun j=>(k'.asL (.int .i64)).bind fun k=>(l'.asI).bind fun l=>(m'.asI).bind fun m=>some ⟨a,b,⟨⟨⟨c,d,e⟩,f⟩,g,⟨⟨h,i,j⟩,k⟩,l⟩,m⟩
  |_=>none
theorem PX (cs:List R) (x:Request) (h:Mm cs=some x):Tk x=cs:=by
  unfold Mm at h
  split at h
  · simp only[Option.bind_eq_some_iff]at h
    obtain⟨a,ha,b,hb,c,hc,d,hd,e,he,f,hf,g,hg,h,hh,i,hi,j,hj,k,hk,l,hl,m,hm,h⟩:=h
    cases h
    rw[R.GL ha,R.GL hb,R.GL hc,R.GL hd,R.GL he,R.Ib hf,R.GL hg,R.GL hh,R.GL hi,R.GL hj,R.Ib hk,R.GL hl,R.GL hm];rfl
  · cases h
def Vk:List R→Option Step
  |[a',b',c',d',e',f',g',h']=>(a'.asI).bind fun a=>(b'.asI).bind fun b=>(c'.asI).bind fun c=>(d'.asL (.int .u8)).bind fun d=>(e'.asI).bind fun e=>(f'.asI).bind fun f=>(g'.asI).bind fun g=>(h'.asL (.int .i64)).bind fun h=>some ⟨a,b,c,d,⟨⟨e,f,g⟩,h⟩⟩
  |_=>none
theorem Uh (cs:List R) (x:Step) (h:Vk cs=some x):Y4 x=cs:=by
  unfold Vk at h
  split at h
  · simp only[Option.bind_eq_some_iff]at h
    obtain⟨a,ha,b,hb,c,hc,d,hd,e,he,f,hf,g,hg,h,hh,h⟩:=h
    cases h
    rw[R.GL ha,R.GL hb,R.GL hc,R.Ib hd,R.GL he,R.GL hf,R.GL hg,R.Ib hh];rfl
  · cases h
def QW:List R→Option Event
  |[a',b',c',d',e',f',g']=>(a'.asI).bind fun a=>(b'.asI).bind fun b=>(c'.asI).bind fun c=>(d'.asI).bind fun d=>(e'.asI).bind fun e=>(f'.asI).bind fun f=>(g'.asL (.int .i64)).bind fun g=>some ⟨a,b,c,⟨⟨d,e,f⟩,g⟩⟩
  |_=>none
theorem R9 (cs:List R) (x:Event) (h:QW cs=some x):XW x=cs:=by
  unfold QW at h
  split at h
  · simp only[Option.bind_eq_some_iff]at h
    obtain⟨a,ha,b,hb,c,hc,d,hd,e,he,f,hf,g,hg,h⟩:=h
    cases h
    rw[R.GL ha,R.GL hb,R.GL hc,R.GL hd,R.GL he,R.GL hf,R.Ib hg];rfl
  · cases h
def QX:List R→Option Entry
  |[a',b',c',d',e',f',g',h',i',j',k',l',m']=>(a'.asI).bind fun a=>(b'.asI).bind fun b=>(c'.asI).bind fun c=>(d'.asI).bind fun d=>(e'.asL (.st .Kg)).bind fun e=>(f'.asI).bind fun f=>(g'.asI).bind fun g=>(h'.asI).bind fun h=>(i'.asL (.int .i64)).bind fun i=>(j'.asI).bind fun j=>(k'.asI).bind fun k=>(l'.asI).bind fun l=>(m'.asB).bind fun m=>some ⟨a,⟨⟨b,c,d⟩,e⟩,⟨⟨f,g,h⟩,i⟩,j,k,l,m⟩
  |_=>none
theorem Sa (cs:List R) (x:Entry) (h:QX cs=some x):XX x=cs:=by
  unfold QX at h
  split at h
  · simp only[Option.bind_eq_some_iff]at h
    obtain⟨a,ha,b,hb,c,hc,d,hd,e,he,f,hf,g,hg,h,hh,i,hi,j,hj,k,hk,l,hl,m,hm,h⟩:=h
    cases h
    rw[R.GL ha,R.GL hb,R.GL hc,R.GL hd,R.Ib he,R.GL hf,R.GL hg,R.GL hh,R.Ib hi,R.GL hj,R.GL hk,R.GL hl,R.W0 hm];rfl
  · cases h
def Vl:List R→Option Y2
  |[a',b',c']=>(a'.asI).bind fun a=>(b'.asI).bind fun b=>(c'.asI).bind fun c=>some ⟨a,b,c⟩
  |_=>none
theorem Ui (cs:List R) (x:Y2) (h:Vl cs=some x):Yb x=cs:=by
  unfold Vl at h
  split at h
  · simp only[Option.bind_eq_some_iff]at h
    obtain⟨a,ha,b,hb,c,hc,h⟩:=h
    cases h
    rw[R.GL ha,R.GL hb,R.GL hc];rfl
  · cases h
def Tl:List R→Option Vf
  |[a',b',c',d',e']=>(a'.asI).bind fun a=>(b'.asT).bind fun b=>(c'.asI).bind fun c=>(d'.asI).bind fun d=>(e'.asI).bind fun e=>some ⟨a,b,c,d,e⟩
  |_=>none
theorem Sb (cs:List R) (x:Vf) (hq:Tl cs=some x):Vi x=cs:=by
  unfold Tl at hq
  split at hq
  · simp only[Option.bind_eq_some_iff]at hq
    obtain⟨a,ha,b,hb,c,hc,d,hd,e,he,hq⟩:=hq
    cases hq
    rw[R.GL ha,R.PW hb,R.GL hc,R.GL hd,R.GL he];rfl
  · cases hq
def Mn:List R→Option Ml
  |[a',b',c',d',e',f',g',h',i',j',k',l',m']=>(a'.asI).bind fun a=>(b'.asI).bind fun b=>(c'.asI).bind fun c=>(d'.asI).bind fun d=>(e'.asI).bind fun e=>(f'.asT).bind fun f=>(g'.asI).bind fun g=>(h'.asI).bind fun h=>(i'.asI).bind fun i=>(j'.asI).bind fun j=>(k'.asT).bind fun k=>(l'.asI).bind fun l=>(m'.asI).bind fun m=>some ⟨a,b,c,d,e,f,g,h,i,j,k,l,m⟩
  |_=>none
theorem OR (cs:List R) (x:Ml) (hq:Mn cs=some x):NW x=cs:=by
  unfold Mn at hq
  split at hq
  · simp only[Option.bind_eq_some_iff]at hq
    obtain⟨a,ha,b,hb,c,hc,d,hd,e,he,f,hf,g,hg,h0,hh,i,hi,j,hj,k,hk,l,hl,m,hm,hq⟩:=hq
    cases hq
    rw[R.GL ha,R.GL hb,R.GL hc,R.GL hd,R.GL he,R.PW hf,R.GL hg,R.GL hh,R.GL hi,R.GL hj,R.PW hk,R.GL hl,R.GL hm];rfl
  · cases hq
def S.Is:(s:S)→List R→Option s.E
  |.shape=>QS
  |.KZ=>NX
  |.Kg=>QU
  |.model=>QV
  |.task=>Vj
  |.request=>Mm
  |.step=>Vk
  |.event=>QW
  |.entry=>QX
  |.Tj=>Vl
  |.NV=>Tl
  |.ID=>Mn
def Ty.Nr:(t:Ty)→R→Option t.El
  |.int k,.int k' n=>if k'=k then some n else none
  |.bool,.bool b=>some b
  |.str,.str l=>some l
  |.sl t,.sl t' xs=>if h:t'=t then some (h▸xs)else none
  |.tok,.tok n=>some n
  |.hl t,.sl t' xs=>if h:t'=t then some (some (h▸xs))else none
  |_,_=>none
def Ty.Is:(t:Ty)→List R→Option t.El
  |.st s,cs=>s.Is cs
  |.ho s,cs=>(s.Is cs).bind fun x=>some (some x)
  |t,[r]=>t.Nr r
  |_,_=>none
theorem Ty.Sc (t:Ty) (r:R) (x:t.El) (h:t.Nr r=some x):t.cells x=[r]:=by
  cases t with
  |st s=>cases r<;>exact nomatch h
  | int k =>
    cases r with
    | int k' n =>
      replace h:(if k'=k then some n else none)=some x:=h
      split at h
      · rename_i e;subst e;cases h;rfl
      · cases h
    |_=>exact nomatch h
  | bool =>
    cases r with
    |bool b=>cases h;rfl
    |_=>exact nomatch h
  | str =>
    cases r with
    |str b=>cases h;rfl
    |_=>exact nomatch h
  | sl t =>
    cases r with
    | sl t' xs =>
      replace h:(if h:t'=t then some (h▸xs)else none)=some x:=h
      split at h
      · rename_i e;subst e;cases h;rfl
      · cases h
    |_=>exact nomatch h
  | tok =>
    cases r with
    |tok n=>cases h;rfl
    |_=>exact nomatch h
  |ho s=>cases r<;>exact nomatch h
  | hl t =>
    cases r with
    | sl t' xs =>
      replace h:(if h:t'=t then some (some (h▸xs))else none)=some x:=h
      split at h
      · rename_i e;subst e;cases h;rfl
      · cases h
    |_=>exact nomatch h
theorem S.Hy (s:S) (cs:List R) (x:s.E) (h:s.Is cs=some x):s.cells x=cs:=by
  cases s
  · exact R6 cs x h
  · exact QT cs x h
  · exact R7 cs x h
  · exact R8 cs x h
  · exact Ug cs x h
  · exact PX cs x h
  · exact Uh cs x h
  · exact R9 cs x h
  · exact Sa cs x h
  · exact Ui cs x h
  · exact Sb cs x h
  · exact OR cs x h
theorem Ty.Hy (t:Ty) (cs:List R) (x:t.El) (h:t.Is cs=some x):t.cells x=cs:=by
  cases t with
  |st s=>exact S.Hy s cs x h
  | ho s =>
    replace h:(s.Is cs).bind (fun x=>some (some x))=some x:=h
    obtain⟨y,hy,e⟩:=Option.bind_eq_some_iff.1 h
    cases e
    exact S.Hy s cs y hy
  | _ =>
    match cs,h with
    |[r],h=>exact Ty.Sc _ r x h
end Go.Proofs.Ev
namespace Go.Proofs.Ev
inductive SV where
  |r (d:List Nat) (x:R)
  |H5
  |K0
  |own (i:Nat)
  |sub (i off len:Nat)
  |bsl (i n:Nat)
  |ptr (i idx off:Nat)
  |inn (i x c:Nat)
  |Jp (d:List Nat) (cs:List R)
  |agg (cs:List SV)
  |tup (vs:List SV)
  |fn (f:Fn) (first cap:List SV)
  |undef
abbrev SV.i (n:Int):SV:=.r [] (.int .i64 n)
abbrev SV.b (b:Bool):SV:=.r [] (.bool b)
inductive Blk where
  |box (cs:List SV)
  |arr (sh:Option (List Nat)) (t:Ty) (xs:List t.El)
abbrev GV:=List (Nat× Blk)
structure St where
  G2:List (Nat× SV)
  heap:GV
  nid:Nat
  n:Nat
  gh:List (Option Nat):=[]
def look {α:Type}:List (Nat× α)→Nat→Option α
  |[],_=>none
  |(k,v)::l,n=>cond (Nat.beq k n) (some v) (look l n)
def put {α:Type}:List (Nat× α)→Nat→α→List (Nat× α)
  |[],n,v=>[(n,v)]
  |(k,u)::l,n,v=>cond (Nat.beq k n) ((k,v)::l) ((k,u)::put l n v)
def idx {α:Type} (xs:List α) (i:Int):Option α:=cond (decide (0≤i)) xs[i.toNat]? none
def mem (i:Nat):List Nat→Bool
  |[]=>false
  |k::l=>cond (Nat.beq k i) true (mem i l)
def hit (T:List Nat):List Nat→Bool
  |[]=>false
  |k::l=>cond (mem k T) true (hit T l)
abbrev Kil:=List Nat× List Nat
mutual
def SV.GW (T:Kil):SV→SV
  |.r d x=>cond (hit T.2 d) .undef (.r d x)
  |.own j=>cond (mem j T.1) .undef (.own j)
  |.sub j o n=>cond (mem j T.1) .undef (.sub j o n)
  |.bsl j n=>cond (mem j T.1) .undef (.bsl j n)
  |.ptr j x o=>cond (mem j T.1) .undef (.ptr j x o)
  |.inn j x c=>cond (mem j T.1||mem j T.2) .undef (.inn j x c)
  |.Jp d cs=>cond (hit T.2 d) .undef (.Jp d cs)
  |.agg cs=>.agg (Iz T cs)
  |.tup cs=>.tup (Iz T cs)
  |.fn f a b=>.fn f (Iz T a) (Iz T b)
  |.H5=>.H5
  |.K0=>.K0
  |.undef=>.undef
def Iz (T:Kil):List SV→List SV
  |[]=>[]
  |v::l=>v.GW T::Iz T l
end
def Blk.GW (T:Kil):Blk→Option Blk
  |.box cs=>some (.box (Iz T cs))
  |.arr none t xs=>some (.arr none t xs)
  |.arr (some d) t xs=>cond (hit T.2 d) none (some (.arr (some d) t xs))
def NY (T:Kil):GV→Option GV
  |[]=>some []
  |(k,b)::l=>cond (mem k T.1) (NY T l) ((b.GW T).bind fun b=>(NY T l).bind fun l=>some ((k,b)::l))
def Tm (T:Kil):List (Nat× SV)→List (Nat× SV)
  |[]=>[]
  |(k,v)::l=>(k,v.GW T)::Tm T l
def IG (T:Kil) (h:GV):Option GV:=
  match T.2 with
  |[]=>some h
  |_=>NY T h
def Ku (T:Kil) (s:List (Nat× SV)):List (Nat× SV):=
  match T.2 with
  |[]=>s
  |_=>Tm T s
def SV.list (h:GV) (t:Ty):SV→Option (List Nat× List t.El)
  |.r d x=>(x.asL t).bind fun xs=>some (d,xs)
  |.H5=>some ([],[])
  | .own i => match look h i with
    |some (.arr sh t' xs)=>if e:t'=t then some (i::sh.getD [],e▸xs)else none
    |_=>none
  | .sub i o n => match look h i with
    |some (.arr sh t' xs)=>if e:t'=t then some (i::sh.getD [],((e▸xs).drop o).take n)else none
    |_=>none
  |_=>none
def SV.asInt (k:IntKind):SV→Option Int
  |.r _ (.int k' n)=>cond (decide (k'=k)) (some n) none
  |_=>none
def SV.asI:SV→Option Int
  |.r _ (.int _ n)=>some n
  |_=>none
def SV.asB:SV→Option Bool
  |.r _ (.bool b)=>some b
  |_=>none
def SV.asR (h:GV) (t:Ty) (v:SV):Option (List Nat× R):=
  match t with
  |.sl t'=>(v.list h t').bind fun p=>some (p.1,.sl t' p.2)
  |.st _=>none
  | .tok => match v with
    |.r d (.tok n)=>some (d,.tok n)
    |.H5=>some ([],.tok 0)
    |_=>none
  | _ => match v with
    |.r d x=>some (d,x)
    |_=>none
def S.tys:S→List Ty
  |.shape=>[.int .i64,.int .i64,.int .i64]
  |.KZ=>[.int .i64,.int .i64,.int .i64,.sl (.int .i64)]
  |.Kg=>[.int .i64,.int .i64,.int .i64,.int .i64,.int .i64,.int .i64,.int .i64,.sl (.int .i64),.sl (.int .i64)]
  |.model=>[.int .i64,.int .i64,.int .i64,.sl (.st .Kg)]
  |.task=>[.int .i64,.sl (.int .i64),.int .i64,.int .i64,.int .i64]
  |.request=>[.int .i64,.int .i64,.int .i64,.int .i64,.int .i64,.sl (.st .Kg),.int .i64,.int .i64,.int .i64,.int .i64,.sl (.int .i64),.int .i64,.int .i64]
  |.step=>[.int .i64,.int .i64,.int .i64,.sl (.int .u8),.int .i64,.int .i64,.int .i64,.sl (.int .i64)]
  |.event=>[.int .i64,.int .i64,.int .i64,.int .i64,.int .i64,.int .i64,.sl (.int .i64)]
  |.entry=>[.int .i64,.int .i64,.int .i64,.int .i64,.sl (.st .Kg),.int .i64,.int .i64,.int .i64,.sl (.int .i64),.int .i64,.int .i64,.int .i64,.bool]
  |.Tj=>[.int .i64,.int .i64,.int .i64]
  |.NV=>[.int .i64,.tok,.int .i64,.int .i64,.int .i64]
  |.ID=>[.int .i64,.int .i64,.int .i64,.int .i64,.int .i64,.tok,.int .i64,.int .i64,.int .i64,.int .i64,.tok,.int .i64,.int .i64]
def Ty.tys:Ty→List Ty
  |.st s=>s.tys
  |.ho s=>s.tys
  |.hl t=>[.sl t]
  |t=>[t]
def Vb (h:GV):List Ty→List SV→Option (List Nat× List R)
  |[],[]=>some ([],[])
  |t::ts,v::vs=>(v.asR h t).bind fun p=>(Vb h ts vs).bind fun q=>some (p.1++q.1,p.2::q.2)
  |_,_=>none
def ZD (h:GV) (t:Ty) (vs:List SV):Option (List Nat× t.El):=
  (Vb h t.tys vs).bind fun p=>(t.Is p.2).bind fun x=>some (p.1,x)
def SV.cells:SV→Option (List SV)
  |.agg cs=>some cs
  |.tup _=>none
  |.undef=>none
  |v=>some [v]
mutual
def SV.ids:SV→List Nat
  |.own i=>[i]
  |.sub i _ _=>[i]
  |.bsl i _=>[i]
  |.ptr i _ _=>[i]
  |.agg cs=>Vc cs
  |.tup cs=>Vc cs
  |.fn _ a b=>Vc a++Vc b
  |_=>[]
def Vc:List SV→List Nat
  |[]=>[]
  |v::l=>v.ids++Vc l
end
def K2:List Nat→List Nat→List Nat
  |acc,[]=>acc
  |acc,i::l=>cond (mem i acc) (K2 acc l) (K2 (acc++[i]) l)
def XY (h:GV):List Nat→List Nat
  |[]=>[]
  | i :: l => (match look h i with
    |some (.box cs)=>Vc cs
    |_=>[])++XY h l
def reach (h:GV):Nat→List Nat→List Nat
  |0,L=>L
  |n+1,L=>reach h n (K2 L (XY h L))
def MT:Value→Option SV
  |.bool b=>some (.b b)
  |.int k n=>some (.r [] (.int k n))
  |.string s=>some (.r [] (.str s.data.toList))
  |.slice none 0 0=>some .H5
  |.pointer none=>some .K0
  |_=>none
def O6:List Value→Option (List SV)
  |[]=>some []
  |v::l=>(MT v).bind fun x=>(O6 l).bind fun xs=>some (x::xs)
def Tn:Value→Option SV
  |.agg cs=>(O6 cs.toList).bind fun l=>some (.agg l)
  |v=>MT v
def opd (G2:List (Nat× SV)):Operand→Option SV
  |.tmp t=>look G2 t
  |.const v=>Tn v
  |.func f=>some (.fn (.func f) [] [])
  |.global _=>none
def L0 (G2:List (Nat× SV)):List Operand→Option (List SV)
  |[]=>some []
  |x::l=>(opd G2 x).bind fun v=>(L0 G2 l).bind fun vs=>some (v::vs)
end Go.Proofs.Ev
namespace Go.Proofs.Ev
abbrev TT:=TypeId→Option Ty
def Ns:Nat:=2^38
def NZ (P:Program) (T:TypeId):Bool:=
  match P.underlying T with
  |some (.struct _)=>true
  |some (.array _ _)=>true
  |_=>false
def JN (P:Program) (T:TypeId):Option TypeId:=
  match P.underlying T with
  |some (.slice e)=>some e
  |_=>none
def MU (P:Program) (T:TypeId) (f:Nat):Option Field:=
  match P.underlying T with
  |some (.struct fs)=>(fs[f]?).bind fun f=>(P.info? f.type).bind fun i=>cond (Nat.beq i.size 0) none (some f)
  |_=>none
def IY (P:Program) (T:TypeId):Option Nat:=(P.info? T).bind fun i=>some i.size
def Mo (P:Program):List Field→Option (List (Nat× Nat))
  |[]=>some []
  |f::fs=>(IY P f.type).bind fun s=>(Mo P fs).bind fun l=>some ((f.offset,s)::l)
def takeN {α:Type} (n:Nat) (l:List α):Option (List α):=cond (Nat.ble n l.length) (some (l.take n)) none
def Jd (P:Program) (T:TypeId) (cs:List SV):Option SV:=
  (P.underlying T).bind fun _=>(P.info? T).bind fun i=>(takeN i.size cs).bind fun l=>
    cond (NZ P T) (some (.agg l)) (match l with|[v]=>some v|_=>none)
def mkR (d:List Nat):R→SV
  |.sl t xs=>.r d (.sl t xs)
  |x=>.r [] x
def Vm (i:Nat):Option (List Nat)→List Nat
  |none=>[i]
  |some d=>d
def JB (h:GV):SV→Option (List SV)
  |.Jp d cs=>some (cs.map (mkR d))
  | .ptr i x o => match look h i with
    |some (.box cs)=>some (cs.drop o)
    |some (.arr sh t xs)=>(xs[x]?).bind fun e=>some (((t.cells e).map (mkR (Vm i sh))).drop o)
    |_=>none
  |_=>none
def Ir (P:Program) (T:TypeId):Option (List SV):=
  (P.info? T).bind fun i=>i.zero.bind fun z=>(Tn z).bind fun v=>v.cells
def K3 (place:Nat→Option (Nat× Nat)):List SV→List (Nat× SV)→Option (List SV)
  |cs,[]=>some cs
  |cs,(k,v)::l=>(place k).bind fun p=>v.cells.bind fun vs=>
      cond (Nat.beq vs.length p.2) (cond (Nat.ble (p.1+vs.length) cs.length) (K3 place (cs.take p.1++vs++cs.drop (p.1+vs.length)) l) none) none
def YW (op:BinOp) (k:IntKind) (a b:Int):Option R:=
  match op with
  |.add=>some (.int k (k.wrap (a+b)))
  |.sub=>some (.int k (k.wrap (a-b)))
  |.mul=>some (.int k (k.wrap (a*b)))
  |.quo=>cond (decide (b=0)) none (some (.int k (k.wrap (a.tdiv b))))
  |.rem=>cond (decide (b=0)) none (some (.int k (a.tmod b)))
  |.and=>some (.int k (k.wrap (BitVec.ofInt k.bits a&&& BitVec.ofInt k.bits b).toNat))
  |.or=>some (.int k (k.wrap (BitVec.ofInt k.bits a||| BitVec.ofInt k.bits b).toNat))
  |.xor=>some (.int k (k.wrap (BitVec.ofInt k.bits a^^^ BitVec.ofInt k.bits b).toNat))
  |.eql=>some (.bool (a==b))
  |.neq=>some (.bool (a !=b))
  |.lss=>some (.bool (decide (a<b)))
  |.leq=>some (.bool (decide (a≤b)))
  |.gtr=>some (.bool (decide (a>b)))
  |.geq=>some (.bool (decide (a≥b)))
  |_=>none
def QY (op:BinOp) (k:IntKind) (a b:Int):Option R:=
  cond (decide (b<0)) none
    (match op with
     |.shl=>some (.int k (k.wrap (a*2^(min b.toNat k.bits))))
     |.shr=>some (.int k (a.fdiv (2^(min b.toNat k.bits))))
     |_=>none)
def Y5 (op:BinOp) (a b:List UInt8):Option R:=
  match op with
  |.add=>cond (decide (a.length+b.length≤Ns)) (some (.str (a++b))) none
  |.eql=>some (.bool (a==b))
  |.neq=>some (.bool (!(a==b)))
  |.lss=>some (.bool (Op.bytesLess a b))
  |.leq=>some (.bool (Op.bytesLess a b||a==b))
  |.gtr=>some (.bool (!(Op.bytesLess a b||a==b)))
  |.geq=>some (.bool (!(Op.bytesLess a b)))
  |_=>none
def W3 (P:Program) (xs ys:List SV):List Field→Option Bool
  |[]=>some true
  | f :: fs => cond (decide (f.name = "_")) none (match P.underlying f.type, xs[f.offset]?, ys[f.offset]? with
    |some (.int _),some (.r _ (.int k a)),some (.r _ (.int l b))=>cond (decide (k=l)) ((W3 P xs ys fs).bind fun t=>some (cond (a==b) t false)) none
    |_,_,_=>none)
def Y6 (P:Program) (T:TypeId) (xs ys:List SV):Option Bool:=
  cond (P.stoodInHeld T) none (cond (P.eqGuardType P.depth T) none (match P.underlying T with
    |some (.struct fs)=>W3 P xs ys fs.toList
    |_=>none))
def Vn:BinOp→Bool
  |.shl|.shr=>true
  |_=>false
def isEq:BinOp→Option Bool
  |.eql=>some true
  |.neq=>some false
  |_=>none
def bin (P:Program) (T:TypeId) (op:BinOp) (x y:SV):Option SV:=
  match x,y with
  |.r _ (.int k a),.r _ (.int l b)=>cond (Vn op) ((QY op k a b).bind fun r=>some (.r [] r)) (cond (decide (k=l)) ((YW op k a b).bind fun r=>some (.r [] r)) none)
  |.r _ (.str a),.r _ (.str b)=>(Y5 op a b).bind fun r=>some (.r [] r)
  | .r _ (.bool a), .r _ (.bool b) => match P.underlying T with
    |some .bool=>(isEq op).bind fun e=>some (.b (cond e (a==b) (!(a==b))))
    |_=>none
  |.agg a,.agg b=>(isEq op).bind fun e=>(Y6 P T a b).bind fun t=>some (.b (cond e t (!t)))
  |_,_=>none
def un (op:UnOp) (x:SV):Option SV:=
  match op,x with
  |.neg,.r _ (.int k n)=>some (.r [] (.int k (k.wrap (0-n))))
  |.not,.r _ (.bool b)=>some (.b (!b))
  |_,_=>none
def lenOf (h:GV):SV→Option Nat
  |.r _ (.str l)=>some l.length
  |.r _ (.sl _ xs)=>some xs.length
  |.H5=>some 0
  | .own i => match look h i with
    |some (.arr _ _ xs)=>some xs.length
    |_=>none
  |.sub _ _ n=>some n
  |.bsl _ n=>some n
  |_=>none
def ZE (P:Program) (T:TypeId):SV→Bool
  | .r _ (.str _) => match P.underlying T with
    |some .string=>true
    |_=>false
  | _ => match P.underlying T with
    |some (.slice _)=>true
    |_=>false
def bounds (n:Nat) (lo hi:Option SV):Option (Nat× Nat):=
  (match hi with
   |none=>some n
   |some v=>v.asI.bind fun x=>cond (decide (0≤x∧x≤(n:Int))) (some x.toNat) none).bind fun h=>
  (match lo with
   |none=>some 0
   |some v=>v.asI.bind fun x=>cond (decide (0≤x∧x≤(h:Int))) (some x.toNat) none).bind fun l=>some (l,h)
def slT (P:Program) (T:TypeId) (t:Ty):Bool:=
  match P.underlying T with
  | some (.slice e) => match IY P e with
    |some n=>Nat.beq n t.sz
    |none=>false
  |_=>false
def To (P:Program) (T:TypeId):Bool:=
  match P.underlying T with
  |some (.slice e)=>(IY P e).isSome
  |_=>false
def isStr (P:Program) (T:TypeId):Bool:=
  match P.underlying T with
  |some .string=>true
  |_=>false
def I1 (P:Program) (T:TypeId) (h:GV) (x:SV) (lo hi:Option SV):Option SV:=
  match x with
  |.r d (.str l)=>cond (isStr P T) ((bounds l.length lo hi).bind fun b=>some (.r d (.str ((l.take b.2).drop b.1)))) none
  |.r d (.sl t xs)=>cond (slT P T t) ((bounds xs.length lo hi).bind fun b=>some (.r d (.sl t ((xs.take b.2).drop b.1)))) none
  |.H5=>cond (To P T) ((bounds 0 lo hi).bind fun _=>some .H5) none
  | .own i => match look h i with
    |some (.arr _ t xs)=>cond (slT P T t) ((bounds xs.length lo hi).bind fun b=>some (.sub i b.1 (b.2-b.1))) none
    |_=>none
  | .sub i o n => match look h i with
    |some (.arr _ t _)=>cond (slT P T t) ((bounds n lo hi).bind fun b=>some (.sub i (o+b.1) (b.2-b.1))) none
    |_=>none
  |_=>none
def slN (P:Program) (T:TypeId) (h:GV) (x:SV):Option Nat:=
  match x with
  |.r _ (.sl t xs)=>cond (slT P T t) (some xs.length) none
  | .own i => match look h i with
    |some (.arr _ t xs)=>cond (slT P T t) (some xs.length) none
    |_=>none
  |_=>none
def NI (P:Program) (T:TypeId) (h:GV) (x:SV) (lo:Option SV) (hi m:SV):Option SV:=
  (slN P T h x).bind fun n=>m.asI.bind fun z=>cond (decide (0≤z∧z≤(n:Int))) ((bounds z.toNat lo (some hi)).bind fun _=>some .undef) none
def He (P:Program) (T:TypeId) (h:GV) (x:SV) (k:Int):Option SV:=
  match x with
  |.r d (.sl t xs)=>cond (slT P T t) ((idx xs k).bind fun e=>some (.Jp d (t.cells e))) none
  | .own i => match look h i with
    |some (.arr _ t xs)=>cond (slT P T t) (cond (decide (0≤k∧k<(xs.length:Int))) (some (.ptr i k.toNat 0)) none) none
    |_=>none
  | .sub i o n => match look h i with
    |some (.arr _ t _)=>cond (slT P T t) (cond (decide (0≤k∧k<(n:Int))) (some (.ptr i (o+k.toNat) 0)) none) none
    |_=>none
  |.bsl i n=>(JN P T).bind fun e=>(IY P e).bind fun sz=>cond (decide (0≤k∧k<(n:Int))) (some (.ptr i 0 (k.toNat*sz))) none
  |_=>none
def Vo (P:Program) (src dst:TypeId) (x:SV):Option SV:=
  match P.underlying src,P.underlying dst,x with
  |some (.int _),some (.int k),.r _ (.int _ n)=>some (.r [] (.int k (k.wrap n)))
  |some .string,some .string,.r _ (.str l)=>some (.r [] (.str l))
  |_,_,_=>none
def Nt (P:Program) (T:TypeId):Bool:=
  match JN P T with
  | some e => match P.underlying e with
    |some (.int .u8)=>true
    |_=>false
  |none=>false
def bytesOf (l:List Int):List UInt8:=l.map fun n=>UInt8.ofNat n.toNat
def WV (G2:List (Nat× SV)):Option Operand→Option (Option SV)
  |none=>some none
  |some x=>(opd G2 x).bind fun v=>some (some v)
def LU (G2:List (Nat× SV)):List (Nat× Operand)→Option (List (Nat× SV))
  |[]=>some []
  |(k,x)::l=>(opd G2 x).bind fun v=>(LU G2 l).bind fun vs=>some ((k,v)::vs)
def Iu (P:Program) (s:List (Nat× SV)) (h:GV) (op:Op):Option SV:=
  match op with
  |.move x|.assign x=>opd s x
  |.pick c a b=>(opd s c).bind fun c=>c.asB.bind fun c=>cond c (opd s a) (opd s b)
  | .build T parts =>
    match P.underlying T with
    | some (.struct fs) => (Mo P fs.toList).bind fun pl => (Ir P T).bind fun z => (LU s parts.toList).bind fun ps =>
      (K3 (fun k=>pl[k]?) z ps).bind fun cs=>some (.agg cs)
    |_=>none
  |.load T a=>(opd s a).bind fun a=>(JB h a).bind fun cs=>Jd P T cs
  | .nilCheck x => (opd s x).bind fun v => match v with
    |.ptr i x o=>some (.ptr i x o)
    |.Jp d cs=>some (.Jp d cs)
    |_=>none
  |.binOp op T x y _=>(opd s x).bind fun x=>(opd s y).bind fun y=>bin P T op x y
  |.unOp op _ x=>(opd s x).bind fun x=>un op x
  |.convert src dst x=>(opd s x).bind fun x=>cond (Nt P src&&isStr P dst) ((x.list h (.int .u8)).bind fun p=>some (.r [] (.str (bytesOf p.2)))) (Vo P src dst x)
  |.makeFunc fn first cap=>(L0 s first.toList).bind fun a=>(L0 s cap.toList).bind fun b=>some (.fn fn a b)
  |.slice T x lo hi none=>(opd s x).bind fun x=>(WV s lo).bind fun lo=>(WV s hi).bind fun hi=>I1 P T h x lo hi
  |.slice T x lo (some hi) (some m)=>(opd s x).bind fun x=>(WV s lo).bind fun lo=>(opd s hi).bind fun hi=>(opd s m).bind fun m=>NI P T h x lo hi m
  | .fieldAddr T x f => (opd s x).bind fun x => (MU P T f).bind fun f => match x with
    |.Jp d cs=>some (.Jp d (cs.drop f.offset))
    |.ptr i k o=>some (.ptr i k (o+f.offset))
    |_=>none
  | .field T x f => (opd s x).bind fun x => (MU P T f).bind fun f => match x with
    |.agg cs=>Jd P f.type (cs.drop f.offset)
    |_=>none
  |.indexAddr T x k=>(opd s x).bind fun x=>(opd s k).bind fun k=>k.asI.bind fun k=>He P T h x k
  | .index T x k => (opd s x).bind fun x => (opd s k).bind fun k => k.asI.bind fun k => match x with
    |.r _ (.str l)=>cond (isStr P T) ((idx l k).bind fun c=>some (.r [] (.int .u8 c.toNat))) none
    |_=>none
  | .extract x k => (opd s x).bind fun x => match x with
    |.tup vs=>vs[k]?
    |_=>none
  | .call { callee := .builtin .len, args, argTypes } => (L0 s args.toList).bind fun vs => match vs, argTypes.toList with
    |[v],T::_=>cond (ZE P T v) ((lenOf h v).bind fun n=>some (.i n)) none
    |_,_=>none
  | .call { callee := .builtin .cap, args, argTypes } => (L0 s args.toList).bind fun vs => match vs, argTypes.toList with
    |[.H5],T::_=>cond (To P T) (some (.i 0)) none
    |_,_=>none
  | .call { callee := .builtin .min, args, .. } => (L0 s args.toList).bind fun vs => match vs with
    |[.r _ (.int k a),.r _ (.int _ b)]=>some (.r [] (.int k (if b<a then b else a)))
    |[.r _ (.int k a),.r _ (.int _ b),.r _ (.int _ c)]=>some (.r [] (.int k (if c<(if b<a then b else a)then c else(if b<a then b else a))))
    |_=>none
  | .call { callee := .builtin .max, args, .. } => (L0 s args.toList).bind fun vs => match vs with
    |[.r _ (.int k a),.r _ (.int _ b)]=>some (.r [] (.int k (if b>a then b else a)))
    |_=>none
  |_=>none
def PY {α:Type} (h:GV) (v:SV) (K:List SV→Option α):Option α:=
  match v with
  |.Jp d cs=>K (cs.map (mkR d))
  | .ptr i x o => match look h i with
    |some (.box cs)=>K (cs.drop o)
    |some (.arr sh t xs)=>(xs[x]?).bind fun e=>K (((t.cells e).map (mkR (Vm i sh))).drop o)
    |_=>none
  |_=>none
def Yc {α:Type} (op:BinOp) (k:IntKind) (a b:Int) (K:R→Option α):Option α:=
  match op with
  |.quo=>cond (decide (b=0)) none (K (.int k (k.wrap (a.tdiv b))))
  |.rem=>cond (decide (b=0)) none (K (.int k (a.tmod b)))
  |op=>(YW op k a b).bind K
def Sd {α:Type} (op:BinOp) (k:IntKind) (a b:Int) (K:R→Option α):Option α:=
  cond (decide (b<0)) none
    (match op with
     |.shl=>K (.int k (k.wrap (a*2^(min b.toNat k.bits))))
     |.shr=>K (.int k (a.fdiv (2^(min b.toNat k.bits))))
     |_=>none)
def Yd {α:Type} (op:BinOp) (a b:List UInt8) (K:R→Option α):Option α:=
  match op with
  |.add=>cond (decide (a.length+b.length≤Ns)) (K (.str (a++b))) none
  |op=>(Y5 op a b).bind K
def ZN {α:Type} (P:Program) (T:TypeId) (op:BinOp) (x y:SV) (K:SV→Option α):Option α:=
  match x,y with
  |.r _ (.int k a),.r _ (.int l b)=>cond (Vn op) (Sd op k a b fun r=>K (.r [] r)) (cond (decide (k=l)) (Yc op k a b fun r=>K (.r [] r)) none)
  |.r _ (.str a),.r _ (.str b)=>Yd op a b fun r=>K (.r [] r)
  |x,y=>(bin P T op x y).bind K
def K4 {α:Type} (n:Nat) (lo hi:Option SV) (K:Nat→Nat→Option α):Option α:=
  let lower (h:Nat):Option α:=match lo with
    |none=>K 0 h
    |some v=>v.asI.bind fun x=>cond (decide (0≤x∧x≤(h:Int))) (K x.toNat h) none
  match hi with
  |none=>lower n
  |some v=>v.asI.bind fun x=>cond (decide (0≤x∧x≤(n:Int))) (lower x.toNat) none
def Vp {α:Type} (P:Program) (T:TypeId) (h:GV) (x:SV) (lo hi:Option SV) (K:SV→Option α):Option α:=
  match x with
  |.r d (.str l)=>cond (isStr P T) (K4 l.length lo hi fun a b=>K (.r d (.str ((l.take b).drop a)))) none
  |.r d (.sl t xs)=>cond (slT P T t) (K4 xs.length lo hi fun a b=>K (.r d (.sl t ((xs.take b).drop a)))) none
  |.H5=>cond (To P T) (K4 0 lo hi fun _ _=>K .H5) none
  | .own i => match look h i with
    |some (.arr _ t xs)=>cond (slT P T t) (K4 xs.length lo hi fun a b=>K (.sub i a (b-a))) none
    |_=>none
  | .sub i o n => match look h i with
    |some (.arr _ t _)=>cond (slT P T t) (K4 n lo hi fun a b=>K (.sub i (o+a) (b-a))) none
    |_=>none
  |_=>none
def MV {α:Type} (P:Program) (T:TypeId) (h:GV) (x:SV) (k:Int) (K:SV→Option α):Option α:=
  match x with
  |.r d (.sl t xs)=>cond (slT P T t) ((idx xs k).bind fun e=>K (.Jp d (t.cells e))) none
  | .own i => match look h i with
    |some (.arr _ t xs)=>cond (slT P T t) (cond (decide (0≤k∧k<(xs.length:Int))) (K (.ptr i k.toNat 0)) none) none
    |_=>none
  | .sub i o n => match look h i with
    |some (.arr _ t _)=>cond (slT P T t) (cond (decide (0≤k∧k<(n:Int))) (K (.ptr i (o+k.toNat) 0)) none) none
    |_=>none
  |x=>(He P T h x k).bind K
def QZ {α:Type} (P:Program) (T:TypeId) (h:GV) (x:SV) (lo:Option SV) (hi m:SV) (K:SV→Option α):Option α:=
  (slN P T h x).bind fun n=>m.asI.bind fun z=>cond (decide (0≤z∧z≤(n:Int))) (K4 z.toNat lo (some hi) fun _ _=>K .undef) none
def Kv {α:Type} (P:Program) (s:List (Nat× SV)) (h:GV) (op:Op) (K:SV→Option α):Option α:=
  match op with
  |.load T a=>(opd s a).bind fun a=>PY h a fun cs=>(Jd P T cs).bind K
  |.binOp op T x y _=>(opd s x).bind fun x=>(opd s y).bind fun y=>ZN P T op x y K
  |.slice T x lo hi none=>(opd s x).bind fun x=>(WV s lo).bind fun lo=>(WV s hi).bind fun hi=>Vp P T h x lo hi K
  |.slice T x lo (some hi) (some m)=>(opd s x).bind fun x=>(WV s lo).bind fun lo=>(opd s hi).bind fun hi=>(opd s m).bind fun m=>QZ P T h x lo hi m K
  |.indexAddr T x k=>(opd s x).bind fun x=>(opd s k).bind fun k=>k.asI.bind fun k=>MV P T h x k K
  | .index T x k => (opd s x).bind fun x => (opd s k).bind fun k => k.asI.bind fun k => match x with
    |.r _ (.str l)=>cond (isStr P T) ((idx l k).bind fun c=>K (.r [] (.int .u8 c.toNat))) none
    |_=>none
  |op=>(Iu P s h op).bind K
theorem HC {α β:Type} (b:Bool) (x y:Option α) (K:α→Option β):(cond b x y).bind K=cond b (x.bind K) (y.bind K):=by cases b<;>rfl
theorem Se {α:Type} (h:GV) (v:SV) (K:List SV→Option α):PY h v K=(JB h v).bind K:=by
  unfold PY JB
  split
  · rfl
  · split
    · rfl
    · rw[Option.bind_assoc];rfl
    · rfl
  · rfl
theorem W4 {α:Type} (op:BinOp) (k:IntKind) (a b:Int) (K:R→Option α):Yc op k a b K=(YW op k a b).bind K:=by
  unfold Yc
  split
  · show _=(cond _ none (some _)).bind K;rw[HC];rfl
  · show _=(cond _ none (some _)).bind K;rw[HC];rfl
  · rfl
theorem Uj {α:Type} (op:BinOp) (k:IntKind) (a b:Int) (K:R→Option α):Sd op k a b K=(QY op k a b).bind K:=by
  unfold Sd QY
  rw[HC]
  cases op<;>rfl
theorem W5 {α:Type} (op:BinOp) (a b:List UInt8) (K:R→Option α):Yd op a b K=(Y5 op a b).bind K:=by
  unfold Yd
  split
  · show _=(cond _ (some _) none).bind K;rw[HC];rfl
  · rfl
theorem Ye {α:Type} (P:Program) (T:TypeId) (op:BinOp) (x y:SV) (K:SV→Option α):ZN P T op x y K=(bin P T op x y).bind K:=by
  unfold ZN
  split
  · simp only[bin,HC,Uj,W4,Option.bind_assoc,Option.bind_some,Option.bind_none]
  · simp only[bin,W5,Option.bind_assoc,Option.bind_some]
  · rfl
theorem Jw {α:Type} (n:Nat) (lo hi:Option SV) (K:Nat→Nat→Option α):K4 n lo hi K=(bounds n lo hi).bind fun b=>K b.1 b.2:=by
  unfold K4 bounds
  cases hi<;>cases lo<;>simp only[Option.bind_assoc,Option.bind_some,HC,Option.bind_none]
theorem Vq {α:Type} (P:Program) (T:TypeId) (h:GV) (x:SV) (lo hi:Option SV) (K:SV→Option α):Vp P T h x lo hi K=(I1 P T h x lo hi).bind K:=by
  unfold Vp I1
  split
  · simp only[HC,Jw,Option.bind_assoc,Option.bind_some,Option.bind_none]
  · simp only[HC,Jw,Option.bind_assoc,Option.bind_some,Option.bind_none]
  · simp only[HC,Jw,Option.bind_assoc,Option.bind_some,Option.bind_none]
  · split
    · simp only[HC,Jw,Option.bind_assoc,Option.bind_some,Option.bind_none]
    · rfl
  · split
    · simp only[HC,Jw,Option.bind_assoc,Option.bind_some,Option.bind_none]
    · rfl
  · rfl
theorem PZ {α:Type} (P:Program) (T:TypeId) (h:GV) (x:SV) (k:Int) (K:SV→Option α):MV P T h x k K=(He P T h x k).bind K:=by
  unfold MV
  split
  · simp only[He,HC,Option.bind_assoc,Option.bind_some,Option.bind_none]
  · simp only[He]
    split
    · simp only[HC,Option.bind_some,Option.bind_none]
    · rfl
  · simp only[He]
    split
    · simp only[HC,Option.bind_some,Option.bind_none]
    · rfl
  · rfl
theorem Kw {α:Type} (P:Program) (s:List (Nat× SV)) (h:GV) (op:Op) (K:SV→Option α):Kv P s h op K=(Iu P s h op).bind K:=by
  unfold Kv
  split
  · simp only[Iu,Se,Option.bind_assoc]
  · simp only[Iu,Ye,Option.bind_assoc]
  · simp only[Iu,Vq,Option.bind_assoc]
  · simp only[Iu,QZ,NI,Jw,Option.bind_assoc,HC,Option.bind_some,Option.bind_none]
  · simp only[Iu,PZ,Option.bind_assoc]
  · simp only[Iu,Option.bind_assoc]
    congr 1;funext x;congr 1;funext k;congr 1;funext k
    split
    · simp only[HC,Option.bind_assoc,Option.bind_some,Option.bind_none]
    · rfl
  · rfl
structure CR where
  v:SV
  news:List Blk:=[]
  upd:GV:=[]
  gone:List Nat:=[]
  JO:List Nat:=[]
def CR.kil (c:CR):Kil:=(c.gone,c.gone++c.JO)
abbrev Out:=SV× List Blk
abbrev Orc:=(ρ:Type)→Nat→List SV→GV→(CR→Option ρ)→Option ρ
def Y7:Orc:=fun _ _ _ _ _=>none
def GY:Nat→List Blk→GV
  |_,[]=>[]
  |n,b::l=>(n,b)::GY (n+1) l
inductive Co where
  |Vr (sh:Bool) (t:Ty)
  |ro (t:Ty)
  |drop
  |dep (j:Nat)
  |Yf (t j:Nat)
inductive Ht where
  |slot (t:Nat)
  |cell (t j:Nat)
  |box (i j:Nat)
  |Z3 (t j:Nat)
  |gh (k:Nat)
def coV (n:Nat) (h:GV):Co→SV→SV× List Blk
  |.Vr sh t,.H5=>(.own n,[.arr (cond sh (some []) none) t []])
  | .ro t, v => match v.list h t with
    |some p=>(.r p.1 (.sl t p.2),[])
    |none=>(v,[])
  |.drop,_=>(.undef,[])
  |.dep j,.r d x=>(.r (cond (mem j d) d (d++[j])) x,[])
  |_,v=>(v,[])
def W6 (st:St) (i j:Nat) (c:Co):St:=
  match look st.heap i with
  | some (.box cs) => match cs[j]? with
    |some v=>{st with heap:=put (st.heap++GY st.nid (coV st.nid st.heap c v).2) i (.box (cs.set j (coV st.nid st.heap c v).1)),nid:=st.nid+(coV st.nid st.heap c v).2.length}
    |none=>st
  |_=>st
def Q0 (st:St):Ht× Co→St
  | (.slot t, c) => match look st.G2 t with
    |some v=>{st with G2:=put st.G2 t (coV st.nid st.heap c v).1,heap:=st.heap++GY st.nid (coV st.nid st.heap c v).2,nid:=st.nid+(coV st.nid st.heap c v).2.length}
    |none=>st
  | (.cell t j, c) => match look st.G2 t with
    | some (.agg cs) => match cs[j]? with
      |some v=>{st with G2:=put st.G2 t (.agg (cs.set j (coV st.nid st.heap c v).1)),heap:=st.heap++GY st.nid (coV st.nid st.heap c v).2,nid:=st.nid+(coV st.nid st.heap c v).2.length}
      |none=>st
    |_=>st
  |(.box i j,c)=>W6 st i j c
  | (.Z3 t j, c) => match look st.G2 t with
    |some (.ptr i _ _)=>W6 st i j c
    |_=>st
  |(.gh k,_)=>{st with gh:=st.gh.set k none}
def ZO (st:St):Co→Co
  | .Yf t j => match look st.G2 t with
    | some (.ptr i _ _) => match look st.heap i with
      | some (.box cs) => match cs[j]? with
        |some (.own k)=>.dep k
        |_=>.dep 0
      |_=>.dep 0
    |_=>.dep 0
  |c=>c
def Y8 (st:St) (x:Ht× Co):St:=Q0 st (x.1,ZO st x.2)
def Vs:List (Ht× Co)→St→St
  |[],st=>st
  |x::l,st=>Vs l (Y8 st x)
structure Env where
  P:Program
  tt:TT
  orc:FuncId→Orc
  wr:FuncId→Bool:=fun _=>false
  wt:Bool:=false
  inn:Bool:=false
  fz:Nat→List (Bool× Nat× List Nat):=fun _=>[]
  wk:Nat→List (Ht× Co):=fun _=>[]
  lit:Bool:=false
  tak:Bool:=false
  swp:Bool:=false
def LV:GV→GV→GV
  |[],h=>h
  |(k,b)::l,h=>LV l (put h k b)
def Y9 (s:List (Nat× SV)) (n:Nat) (dst:Option Tmp) (v:SV):Option (List (Nat× SV)):=
  match dst with
  |some t=>cond (Nat.ble (t+1) n) (some (put s t v)) none
  |none=>some s
def St.take (st:St) (dst:Option Tmp) (c:CR):Option St:=
  (IG c.kil (LV c.upd st.heap)).bind fun h=>(Y9 (Ku c.kil st.G2) st.n dst c.v).bind fun s=>
    some {st with G2:=s,heap:=h++GY st.nid c.news,nid:=st.nid+c.news.length}
def setCells (cs:List SV) (o:Nat) (vs:List SV):Option (List SV):=
  cond (Nat.ble (o+vs.length) cs.length) (some (cs.take o++vs++cs.drop (o+vs.length))) none
def K5:Ty→Bool
  |.sl _=>false
  |.ho _|.hl _=>false
  |.st .shape|.st .Tj|.st .NV|.st .ID=>true
  |.st _=>false
  |_=>true
def isNil {α:Type}:List α→Bool
  |[]=>true
  |_=>false
def Uk (h:GV) (t:Ty):Nat→List SV→Option (List Nat× List t.El)
  |0,_=>some ([],[])
  |n+1,cs=>(ZD h t (cs.take t.sz)).bind fun p=>(Uk h t n (cs.drop t.sz)).bind fun q=>some (p.1++q.1,p.2::q.2)
def SV.Vd (h:GV) (t:Ty) (v:SV):Option (List Nat× R):=
  match t with
  | .sl t' => match v with
    |.H5=>some ([],.sl t' [])
    | .own i => match look h i with
      |some (.arr none t1 xs)=>if e:t1=t' then some ([i],.sl t' (e▸xs))else none
      |_=>none
    |_=>none
  |.st _=>none
  | .tok => match v with
    |.r _ (.tok n)=>some ([],.tok n)
    |.H5=>some ([],.tok 0)
    |_=>none
  | _ => match v with
    |.r _ (.int k n)=>some ([],.int k n)
    |.r _ (.bool b)=>some ([],.bool b)
    |.r _ (.str l)=>some ([],.str l)
    |_=>none
def Sf (h:GV):List Ty→List SV→Option (List Nat× List R)
  |[],[]=>some ([],[])
  |t::ts,v::vs=>(v.Vd h t).bind fun p=>(Sf h ts vs).bind fun q=>some (p.1++q.1,p.2::q.2)
  |_,_=>none
def IZ (h:GV) (t:Ty):Nat→List SV→Option (List Nat× List t.El)
  |0,_=>some ([],[])
  |n+1,cs=>(Sf h t.tys (cs.take t.sz)).bind fun p=>(t.Is p.2).bind fun x=>(IZ h t n (cs.drop t.sz)).bind fun q=>some (p.1++q.1,x::q.2)
def KU:List Nat→Bool
  |[]=>true
  |i::l=>cond (mem i l) false (KU l)
def Q1 (h:GV):List SV→Option Bool
  |[]=>some true
  | .own i :: l => (look h i).bind fun b => match b with
    |.arr none _ _=>Q1 h l
    |.arr (some _) _ _=>some false
    |.box _=>none
  |.r _ (.sl _ _)::_=>some false
  |.sub _ _ _::_=>some false
  |.bsl _ _::_=>some false
  |_::l=>Q1 h l
def Tp (h:GV) (t:Ty) (n:Nat) (cs:List SV):Option (Option (List Nat)× List Nat× List t.El):=
  (Q1 h cs).bind fun b=>cond b ((IZ h t n cs).bind fun q=>cond (KU q.1) (some (none,q.1,q.2)) none) ((Uk h t n cs).bind fun q=>some (some q.1,[],q.2))
def KV (h:GV):SV→List Nat→List Nat
  | .own i, d => match look h i with
    |some (.arr (some d') _ _)=>d'
    |_=>d
  |_,d=>d
def L1 (h:GV) (t:Ty) (v:SV):Option (Option (List Nat)× List Nat× List t.El):=
  match v with
  | .bsl i n => match look h i with
    |some (.box cs)=>(Tp h t n cs).bind fun q=>some (q.1,i::q.2.1,q.2.2)
    |_=>none
  |_=>(v.list h t).bind fun p=>cond (K5 t) (some (none,[],p.2)) (some (some (KV h v p.1),[],p.2))
def Tq (a b:Option (List Nat)):Option (Option (List Nat)):=
  match a,b with
  |none,none=>some none
  |some d,some d'=>some (some (d++d'))
  |some d,none=>some (some d)
  |none,some d=>some (some d)
def K6 (P:Program) (T:TypeId):Bool:=
  match P.info? T with
  |some i=>Nat.ble i.bytes 512
  |none=>false
def Za (E:Env) (s:List (Nat× SV)) (h:GV) (T:TypeId) (a:Operand):Option SV:=
  cond E.inn (cond (To E.P T) (match opd s a with
    | some (.ptr i x o) => match look h i with
      |some (.arr none t _)=>cond (Nat.ble (o+1) t.sz) (some (.inn i x o)) none
      |_=>none
    |_=>none) none) none
def LQ {α:Type} (xs:List α) (x:Nat):List (Option α):=(xs.map some).set x none
def Q3 {α:Type}:List (Option α)→Option (List α)
  |[]=>some []
  |none::_=>none
  |some x::l=>(Q3 l).bind fun l=>some (x::l)
def MW (n:Nat):List R→List SV
  |[]=>[]
  |.sl _ _::l=>.own n::MW (n+1) l
  |r::l=>.r [] r::MW n l
def J5:List R→List Blk
  |[]=>[]
  |.sl t ys::l=>.arr none t ys::J5 l
  |_::l=>J5 l
def Zb (P:Program) (s:List (Nat× SV)) (h:GV) (src dst:TypeId) (x:Operand):Option Nat:=
  cond (Nat.beq src dst&&Nt P src) (match opd s x with
    | some (.own i) => match look h i with
      |some (.arr _ _ (_::_))=>some i
      |_=>none
    |_=>none) none
def Sg (h:GV):SV→Option (Nat× Nat× Nat)
  |.sub i o n=>some (i,o,n)
  | .own i => match look h i with
    |some (.arr _ _ xs)=>some (i,0,xs.length)
    |_=>none
  |_=>none
variable {ρ:Type}
def NJ (P:Program) (T:TypeId) (h:GV) (i:Nat) (sh:Option (List Nat)) (t:Ty) (ys:List t.El) (k o:Nat) (x:SV) (K:CR→Option ρ):Option ρ:=
  x.cells.bind fun xs=>(IY P T).bind fun sz=>cond (Nat.beq sz xs.length&&Nat.ble (o+sz) t.sz) (
    match sh with
    |none=>(Sf h ((t.tys.drop o).take sz) xs).bind fun p=>cond (KU (i::p.1)) (
        cond (Nat.beq sz t.sz)
          ((t.Is p.2).bind fun y=>K {v:=.undef,upd:=[(i,.arr none t (ys.set k y))],gone:=p.1,JO:=[i]})
          ((ys[k]?).bind fun e=>(t.Is ((t.cells e).take o++p.2++(t.cells e).drop (o+sz))).bind fun y=>K {v:=.undef,upd:=[(i,.arr none t (ys.set k y))],gone:=p.1,JO:=[i]})) none
    |some d=>(Vb h ((t.tys.drop o).take sz) xs).bind fun p=>cond (mem i p.1) none (
        cond (Nat.beq sz t.sz)
          ((t.Is p.2).bind fun y=>K {v:=.undef,upd:=[(i,.arr (some (d++p.1)) t (ys.set k y))],JO:=[i]})
          ((ys[k]?).bind fun e=>(t.Is ((t.cells e).take o++p.2++(t.cells e).drop (o+sz))).bind fun y=>K {v:=.undef,upd:=[(i,.arr (some (d++p.1)) t (ys.set k y))],JO:=[i]}))) none
def Zc (P:Program) (T:TypeId):Bool:=
  match P.underlying T with
  |some (.int _)=>true
  |_=>false
def Z4 (E:Env) (h:GV) (nid n sz:Nat) (t:Ty) (cs:List SV) (K:CR→Option ρ):Option ρ:=
  cond (E.lit&&Nat.beq t.sz sz) (match IZ h t n cs with
    |some ([],xs)=>K {v:=.own nid,news:=[.arr none t xs]}
    |_=>K {v:=.bsl nid n,news:=[.box cs]}) (K {v:=.bsl nid n,news:=[.box cs]})
def Si (E:Env) (h:GV) (nid:Nat) (e:TypeId) (sz:Nat) (t:Ty) (T':TypeId) (b x:SV) (K:CR→Option ρ):Option ρ:=
  match b with
  |.H5=>cond (Zc E.P T'&&(K6 E.P e&&Nat.beq t.sz sz)) (x.asI.bind fun l=>(Ir E.P e).bind fun z=>(IZ h t 1 z).bind fun q=>cond (isNil q.1&&Nat.beq z.length sz) (match q.2 with
      |[y]=>cond (decide (1≤l∧l≤(Ns:Int))) (K {v:=.own nid,news:=[.arr none t (List.replicate l.toNat y)]}) none
      |_=>none) none) none
  |_=>none
def Sj (h:GV) (t:Ty) (b x:SV) (K:CR→Option ρ):Option ρ:=
  match b,x with
  | .sub i 0 a, .sub i' o n => cond (Nat.beq i i') (match look h i with
    |some (.arr (some d) t' xs)=>if he:t'=t then cond (mem i d) none (cond (Nat.ble (a+n) xs.length&&(Nat.ble (o+n) xs.length&&Nat.ble 1 xs.length))
        (K {v:=.sub i 0 (a+n),upd:=[(i,.arr (some d) t ((he▸xs).take a++((he▸xs).drop o).take n++(he▸xs).drop (a+n)))],JO:=[i]}) none)else none
    |_=>none) none
  |_,_=>none
def Zd (E:Env) (s:List (Nat× SV)) (h:GV) (nid:Nat) (T:TypeId) (a:Operand) (K:CR→Option ρ) (D:Option ρ):Option ρ:=
  cond E.tak (match opd s a with
    | some (.ptr i x 0) => match look h i with
      |some (.arr none (.st st) xs)=>cond (K5 (.st st)) D ((xs[x]?).bind fun e=>(Jd E.P T (MW nid (st.cells e))).bind fun v=>
          K {v:=v,news:=J5 (st.cells e),upd:=[(i,.arr none (.ho st) (LQ xs x))],JO:=[i]})
      |_=>D
    |_=>D) D
def P0 (E:Env) (s:List (Nat× SV)) (h:GV) (nid:Nat) (op:Op) (K:CR→Option ρ):Option ρ:=
  match op with
  |.alloc T=>(Ir E.P T).bind fun z=>K {v:=.ptr nid 0 0,news:=[.box z]}
  |.box _ x=>(opd s x).bind fun v=>v.cells.bind fun cs=>K {v:=.ptr nid 0 0,news:=[.box cs]}
  | .buildSlice T n parts =>
    (JN E.P T).bind fun e=>(IY E.P e).bind fun sz=>(LU s parts.toList).bind fun ps=>(Ir E.P e).bind fun z=>
      cond (Nat.ble (n*sz) 16777216&&Nat.beq z.length sz) ((K3 (fun i=>some (i*sz,sz)) (List.replicate (n*sz) .undef) ps).bind fun cs=>
        match E.tt e with
        |none=>K {v:=.bsl nid n,news:=[.box cs]}
        |some t=>cond ((K5 t||Nat.beq n 0)&&Nat.beq t.sz sz) ((IZ h t n cs).bind fun x=>cond (isNil x.1) (K {v:=.own nid,news:=[.arr none t x.2]}) none) (Z4 E h nid n sz t cs K)) none
  | .makeSlice T l c =>
    (JN E.P T).bind fun e=>(IY E.P e).bind fun sz=>(E.tt e).bind fun t=>(Ir E.P e).bind fun z=>(opd s l).bind fun l=>(opd s c).bind fun c=>l.asI.bind fun l=>c.asI.bind fun c=>
      cond (K6 E.P e&&Nat.beq t.sz sz) ((IZ h t 1 z).bind fun x=>cond (isNil x.1&&Nat.beq z.length sz) (match x.2 with
        |[y]=>cond (decide (0≤l∧l≤c∧c≤(Ns:Int))) (K {v:=.own nid,news:=[.arr none t (List.replicate l.toNat y)]}) none
        |_=>none) none) none
  | .call { callee := .builtin .append, args, argTypes } => (L0 s args.toList).bind fun vs => match vs, argTypes.toList with
    | [b, x], [T, T'] => (JN E.P T).bind fun e => (IY E.P e).bind fun sz => (E.tt e).bind fun t => cond (K6 E.P e && (Nat.beq t.sz sz && Nat.beq T T')) ((Ir E.P e).bind fun z => cond (Nat.beq z.length sz)
      ((L1 h t x).bind fun y=>match b with
        |.H5=>cond (hit y.2.1 (y.1.getD [])) none (cond (Nat.ble y.2.2.length Ns) (K {v:=.own nid,news:=[.arr y.1 t y.2.2],gone:=y.2.1}) none)
        | .own i => match look h i with
          | some (.arr sh t' xs) => if he : t' = t then
              (Tq sh y.1).bind fun sh'=>cond (mem i y.2.1) none (cond (hit (i::y.2.1) (sh'.getD [])) none (cond (Nat.ble (xs.length+y.2.2.length) Ns) (K {v:=.own nid,news:=[.arr sh' t ((he▸xs)++y.2.2)],gone:=i::y.2.1}) none))
            else none
          |_=>none
        |b=>Sj h t b x K) none) (Si E h nid e sz t T' b x K)
    |_,_=>none
  | .call { callee := .builtin .clear, args, argTypes } => (L0 s args.toList).bind fun vs => match vs, argTypes.toList with
    | [v], [T] => (JN E.P T).bind fun e => (Ir E.P e).bind fun z => (Sg h v).bind fun p => match look h p.1 with
      | some (.arr sh t xs) => cond (Nat.beq z.length t.sz) ((IZ h t 1 z).bind fun x => cond (isNil x.1) (match x.2 with
        |[y]=>K {v:=.undef,upd:=[(p.1,.arr sh t (xs.take p.2.1++List.replicate p.2.2 y++xs.drop (p.2.1+p.2.2)))],JO:=[p.1]}
        |_=>none) none) none
      |_=>none
    |_,_=>none
  | .store T a x => (opd s a).bind fun a => (opd s x).bind fun x => match a with
    | .ptr i k o => match look h i with
      |some (.box cs)=>cond (Nat.beq k 0) (x.cells.bind fun xs=>(IY E.P T).bind fun sz=>cond (Nat.beq sz xs.length) ((setCells cs o xs).bind fun cs=>K {v:=.undef,upd:=[(i,.box cs)]}) none) none
      |some (.arr sh t ys)=>NJ E.P T h i sh t ys k o x K
      |_=>none
    |_=>none
  | .call { callee := .value f, args, .. } => (opd s f).bind fun f => (L0 s args.toList).bind fun vs => match f with
    |.fn (.func g) first cap=>E.orc g ρ nid (first++vs++cap) h K
    |_=>none
  | .load T a => match Za E s h T a with
    |some v=>K {v:=v}
    |none=>Zd E s h nid T a K (Kv E.P s h (.load T a) fun v=>K {v:=v})
  | .convert src dst x => match Zb E.P s h src dst x with
    |some i=>K {v:=.own i}
    |none=>Kv E.P s h (.convert src dst x) fun v=>K {v:=v}
  |op=>Kv E.P s h op fun v=>K {v:=v}
noncomputable def both (x y:Option ρ):Option ρ:=open Classical in if x=y then x else none
def Tr:Op→Option (TypeId× Operand× Bool)
  |.binOp .eql T x (.const (.slice none 0 0)) _=>some (T,x,true)
  |.binOp .neq T x (.const (.slice none 0 0)) _=>some (T,x,false)
  |_=>none
noncomputable def ZP (h:GV) (v:SV) (K:Bool→Option ρ):Option ρ:=
  match v with
  |.H5=>K true
  |.r _ (.sl _ xs)=>cond (isNil xs) (both (K true) (K false)) (K false)
  | .own i => match look h i with
    |some (.arr _ _ xs)=>cond (isNil xs) (both (K true) (K false)) (K false)
    |_=>none
  |_=>none
noncomputable def YX (E:Env) (o:Oper) (st:St) (K:St→Option ρ):Option ρ:=
  match Tr o.op with
  |some (T,x,e)=>cond (To E.P T) ((opd st.G2 x).bind fun v=>ZP st.heap v fun b=>(st.take o.dst {v:=.b (cond b e (!e))}).bind K) none
  |none=>P0 E st.G2 st.heap st.nid o.op fun c=>(st.take o.dst c).bind K
def Yg (ops:List Oper) (j:Nat):Option Tmp:=(ops[j]?).bind (·.dst)
def Q4 (o:Oper) (st:St) (K:St→Option ρ):Option ρ:=
  (Y9 st.G2 st.n o.dst (.tup [])).bind fun s=>K {st with G2:=s}
noncomputable def P1 (E:Env) (all:List Oper):List Oper→St→(St→Option ρ)→Option ρ
  |[],st,K=>K st
  | o :: rest, st, K =>
    match o.guard with
    |none=>YX E o st fun st=>P1 E all rest st K
    | some (j, want) => (Yg all j).bind fun t => (look st.G2 t).bind fun v => match v with
      |.tup []=>Q4 o st fun st=>P1 E all rest st K
      | v => v.asB.bind fun b =>
        cond b
          (cond want (YX E o {st with G2:=put st.G2 t (.b true)} fun st=>P1 E all rest st K)
            (Q4 o {st with G2:=put st.G2 t (.b true)} fun st=>P1 E all rest st K))
          (cond want (Q4 o {st with G2:=put st.G2 t (.b false)} fun st=>P1 E all rest st K)
            (YX E o {st with G2:=put st.G2 t (.b false)} fun st=>P1 E all rest st K))
def after (H:GV) (nid:Nat) (c:CR):Option GV:=
  (IG c.kil (LV c.upd H)).bind fun h=>some (h++GY nid c.news)
structure DR where
  dst:Option Tmp
  n0:Nat
  c:CR
  see:List Nat
  W7:List SV:=[]
  len:Bool:=false
abbrev SH:=List (Nat× SV)× GV
def Tt (s:List (Nat× SV)) (dst:Option Tmp) (v:SV):List (Nat× SV):=
  match dst with
  |some t=>put s t v
  |none=>s
def Ul:GV→Nat→Blk→GV
  |[],_,_=>[]
  |(k,u)::l,n,b=>cond (Nat.beq k n) ((k,b)::l) ((k,u)::Ul l n b)
def I2:GV→GV→GV
  |[],h=>h
  |(k,b)::l,h=>I2 l (Ul h k b)
def DR.app (r:DR) (x:SH):Option SH:=
  (IG r.c.kil (I2 r.c.upd x.2)).bind fun h=>some (Tt (Ku r.c.kil x.1) r.dst r.c.v,h++GY r.n0 r.c.news)
def replay (p:Nat→Bool):Nat→List DR→SH→Option SH
  |_,[],x=>some x
  |j,r::l,x=>cond (p j) ((r.app x).bind fun x=>replay p (j+1) l x) (replay p (j+1) l x)
def MX (n:Nat):List Edge→Bool
  |[]=>true
  |e::l=>cond (Region.binds .any e) (cond (Nat.ble (e.on+1) n) (MX n l) false) (MX n l)
def Q5 (masks:List Nat):List Edge→Nat
  |[]=>0
  |e::l=>cond (Region.binds .any e) ((masks.getD e.on 0||| 2^e.on)||| Q5 masks l) (Q5 masks l)
def N0:List Nat→List Oper→Option (List Nat)
  |acc,[]=>some acc
  |acc,o::l=>cond (MX acc.length o.after.toList) (N0 (acc++[Q5 acc o.after.toList]) l) none
def I0:List Oper→List Nat
  |[]=>[]
  | o :: l => match o.dst with
    |some t=>t::I0 l
    |none=>I0 l
def W8 (masks:List Nat) (i:Nat):Nat→List Oper→List Nat
  |_,[]=>[]
  | j, o :: l => cond ((masks.getD j 0).testBit i) (W8 masks i (j + 1) l) (match o.dst with
    |some t=>t::W8 masks i (j+1) l
    |none=>W8 masks i (j+1) l)
def Um (n:Nat):List Nat→Bool
  |[]=>true
  |i::l=>cond (Nat.ble (i+1) n) (Um n l) false
def HY:List Operand→List Nat
  |[]=>[]
  |.tmp t::l=>t::HY l
  |_::l=>HY l
def Kh (T:List Nat) (s:List (Nat× SV)):List Nat→List (Nat× SV)
  |[]=>[]
  | t :: l => cond (mem t T) (Kh T s l) (match look s t with
    |some v=>(t,v)::Kh T s l
    |none=>Kh T s l)
def JQ (E:Env):Op→Bool
  |.store _ _ _=>true
  |.load _ _=>E.tak
  |.call {callee:=.builtin .len,.. }|.call {callee:=.builtin .cap,.. }|.call {callee:=.builtin .min,.. }|.call {callee:=.builtin .max,.. }=>false
  |.call {callee:=.builtin _,.. }=>true
  |.call {callee:=.value (.func g),.. }=>E.wr g
  |.call {callee:=.value _,.. }=>E.wt
  |.call _=>false
  |_=>false
def Ze (masks:List Nat) (i j:Nat):Bool:=Nat.beq i j||((masks.getD i 0).testBit j||(masks.getD j 0).testBit i)
def Nu (E:Env) (masks:List Nat) (i:Nat):Nat→List Oper→Bool
  |_,[]=>false
  |j,o::l=>cond (JQ E o.op) (cond (Ze masks i j) (Nu E masks i (j+1) l) true) (Nu E masks i (j+1) l)
def P2 (s:List (Nat× SV)):List Nat→List SV
  |[]=>[]
  | t :: l => match look s t with
    |some v=>v::P2 s l
    |none=>P2 s l
def Nv (h:GV):List Nat→GV
  |[]=>[]
  | i :: l => match look h i with
    |some b=>(i,b)::Nv h l
    |none=>Nv h l
def Yh:Op→Bool
  |.move _=>true
  |.assign _=>true
  |.extract _ _=>true
  |.nilCheck _=>true
  |.fieldAddr _ _ _=>true
  |_=>false
def Zf:Op→Bool
  |.load _ _=>true
  |_=>false
def ZQ (E:Env) (masks:List Nat) (i:Nat) (ops:List Oper) (x:SH) (o:Oper):List Nat:=
  cond (Nu E masks i 0 ops&&!Yh o.op) (reach x.2 (cond (Zf o.op) 0 3) (K2 [] (Vc (P2 x.1 (HY o.op.operands.toList))))) []
def Un (E:Env) (masks:List Nat) (i:Nat) (ops:List Oper) (x:SH) (o:Oper):GV:=
  cond (Nu E masks i 0 ops) (Nv x.2 (ZQ E masks i ops x o)) x.2
def W9 (L:List Nat):GV→Bool
  |[]=>false
  |(k,_)::l=>cond (mem k L) true (W9 L l)
def okW (E:Env) (op:Op) (c:CR):Bool:=cond (JQ E op) true (isNil c.kil.2&&isNil c.upd)
mutual
def SV.Ve (T:Kil):SV→Bool
  |.r d _=>!hit T.2 d
  |.own i=>!mem i T.1
  |.sub i _ _=>!mem i T.1
  |.bsl i _=>!mem i T.1
  |.ptr i _ _=>!mem i T.1
  |.inn i _ _=>!(mem i T.1||mem i T.2)
  |.Jp d _=>!hit T.2 d
  |.agg cs=>N1 T cs
  |.tup cs=>N1 T cs
  |.fn _ a b=>N1 T a&&N1 T b
  |.H5=>true
  |.K0=>true
  |.undef=>true
def N1 (T:Kil):List SV→Bool
  |[]=>true
  |v::l=>v.Ve T&&N1 T l
end
def Blk.Ve (T:Kil):Blk→Bool
  |.box cs=>N1 T cs
  |.arr (some d) _ _=>!hit T.2 d
  |.arr none _ _=>true
def Vt (k:Nat) (B:Blk):List DR→Bool
  |[]=>true
  |r::l=>cond ((look r.c.upd k).isNone&&(!mem k r.c.kil.1&&B.Ve r.c.kil)) (Vt k B l) false
def ZF (h:GV) (rs:List DR):List Nat→Bool
  |[]=>true
  | k :: l => match look h k with
    |some B=>cond (Vt k B rs) (ZF h rs l) false
    |none=>false
def Ig (cm:DR→Bool) (r:DR):Bool:=isNil r.c.kil.2&&(isNil r.c.upd&&(isNil r.c.news&&cm r))
def Uo (b a:DR):Bool:=a.c.v.Ve b.c.kil&&N1 b.c.kil a.W7
def Zg (b:DR):GV→Bool
  |[]=>true
  |(k,_)::l=>cond (Nat.ble (k+1) b.n0||Nat.ble (b.n0+b.c.news.length) k) (Zg b l) false
def Sl (a b:DR):Bool:=(isNil a.c.kil.2&&isNil b.c.kil.2)&&((isNil b.c.upd&&Zg b a.c.upd)||(isNil a.c.upd&&Zg a b.c.upd))&&(!(W9 b.see a.c.upd)&&!(W9 a.see b.c.upd))
def LR (cm:DR→Bool) (a b:DR):Bool:=Sl a b||((Uo b a&&Ig cm a)||(Uo a b&&Ig cm b))
def N2 (cm:DR→Bool) (masks:List Nat) (i:Nat) (r:DR):Nat→List DR→Bool
  |_,[]=>true
  |j,b::l=>cond ((masks.getD j 0).testBit i) (N2 cm masks i r (j+1) l) (cond (LR cm r b) (N2 cm masks i r (j+1) l) false)
def O7 (cm:DR→Bool) (masks:List Nat):Nat→List DR→Bool
  |_,[]=>true
  |i,r::l=>cond (N2 cm masks i r (i+1) l) (O7 cm masks (i+1) l) false
def Yi:List DR→Nat→SV→List DR
  |[],_,_=>[]
  |r::l,0,v=>{r with c:={r.c with v:=v}}::l
  |r::l,n+1,v=>r::Yi l n v
def Zh:Op→Bool
  |.indexAddr _ _ _=>true
  |_=>false
def Zi (h:GV):List Nat→Bool
  |[]=>true
  |i::l=>cond (look h i).isSome (Zi h l) false
def Q6 (x:SH) (o:Oper):List Nat:=K2 [] (Vc (P2 x.1 (HY o.op.operands.toList)))
def Vu (E:Env) (h0:GV) (x:SH) (o:Oper):Bool:=E.swp&&(Zh o.op&&Zi h0 (Q6 x o))
def Vv (E:Env) (masks:List Nat) (i:Nat) (ops:List Oper) (h0:GV) (x:SH) (o:Oper):GV:=cond (Vu E h0 x o) (Nv h0 (Q6 x o)) (Un E masks i ops x o)
def ZG (E:Env) (masks:List Nat) (i:Nat) (ops:List Oper) (h0:GV) (x:SH) (o:Oper):List Nat:=cond (Vu E h0 x o) (Q6 x o) (ZQ E masks i ops x o)
def Yj (E:Env) (masks:List Nat) (i:Nat) (ops:List Oper) (h0:GV) (x:SH) (o:Oper) (nid:Nat) (c:CR):DR:=⟨o.dst,nid,c,ZG E masks i ops h0 x o,P2 x.1 (HY o.op.operands.toList),Vu E h0 x o⟩
def KW (E:Env) (ops:List Oper) (masks dsts:List Nat) (s0:List (Nat× SV)) (h0:GV):Nat→List Oper→Nat→List DR→(List DR→Nat→Option ρ)→Option ρ
  |_,[],nid,rs,K=>K rs nid
  | i, o :: rest, nid, rs, K =>
    (replay (Nat.testBit (masks.getD i 0)) 0 rs (Kh (W8 masks i 0 ops) s0 (HY o.op.operands.toList),h0)).bind fun x=>
    match o.guard with
    |none=>P0 E (Kh [] x.1 (HY o.op.operands.toList)) (Vv E masks i ops h0 x o) nid o.op fun c=>cond (okW E o.op c) (KW E ops masks dsts s0 h0 (i+1) rest (nid+c.news.length) (rs++[Yj E masks i ops h0 x o nid c]) K) none
    | some (g, want) => cond (Nat.testBit (masks.getD i 0) g) ((rs[g]?).bind fun r => r.dst.bind fun _ => match r.c.v with
      |.tup []=>KW E ops masks dsts s0 h0 (i+1) rest nid (rs++[⟨o.dst,nid,{v:=.tup []},[],[],false⟩]) K
      | .r [] (.bool b) => cond b
        (cond want
          (P0 E (Kh [] x.1 (HY o.op.operands.toList)) (Vv E masks i ops h0 x o) nid o.op fun c=>cond (okW E o.op c) (KW E ops masks dsts s0 h0 (i+1) rest (nid+c.news.length) (Yi rs g (.b true)++[Yj E masks i ops h0 x o nid c]) K) none)
          (KW E ops masks dsts s0 h0 (i+1) rest nid (Yi rs g (.b true)++[⟨o.dst,nid,{v:=.tup []},[],[],false⟩]) K))
        (cond want
          (KW E ops masks dsts s0 h0 (i+1) rest nid (Yi rs g (.b false)++[⟨o.dst,nid,{v:=.tup []},[],[],false⟩]) K)
          (P0 E (Kh [] x.1 (HY o.op.operands.toList)) (Vv E masks i ops h0 x o) nid o.op fun c=>cond (okW E o.op c) (KW E ops masks dsts s0 h0 (i+1) rest (nid+c.news.length) (Yi rs g (.b false)++[Yj E masks i ops h0 x o nid c]) K) none))
      |_=>none) none
def N3:List Nat→List Nat→Bool
  |[],_=>true
  |i::l,T=>cond (mem i T) false (N3 l T)
def P3 (L:List Nat):List DR→Bool
  |[]=>true
  |r::l=>cond (N3 L r.c.kil.1) (P3 L l) false
def OP (h:GV) (rs:List DR) (r:DR):Bool:=cond r.len (P3 r.see rs) (ZF h rs r.see)
def O8 (cm:DR→Bool):List DR→Bool
  |[]=>true
  |r::l=>cond (!r.len||Ig cm r) (O8 cm l) false
def Sm (E:Env) (ops:List Oper) (st:St) (K:St→Option ρ):Option ρ:=
  cond (E.P.follows .mixedOrders) ((N0 [] ops).bind fun masks=>
    cond (KU (I0 ops)) (cond (Um st.n (I0 ops))
      (KW E ops masks (I0 ops) st.G2 st.heap 0 ops st.nid [] fun rs nid=>cond (O7 (OP st.heap rs) masks 0 rs&&O8 (OP st.heap rs) rs)
        ((replay (fun _=>true) 0 rs (st.G2,st.heap)).bind fun x=>K {st with G2:=x.1,heap:=x.2,nid:=nid}) none) none) none) none
inductive Ex where
  |normal
  |exit (id:Nat)
  |ret
def refine(c:Operand) (b:Bool) (st:St):St:=
  match c with
  |.tmp t=>{st with G2:=put st.G2 t (.b b)}
  |_=>st
abbrev Ev (ρ:Type):=St→(Ex→St→Option ρ)→Option ρ
def inBlock (id:Nat) (K:Ex→St→Option ρ):Ex→St→Option ρ
  |.exit j,st=>cond (Nat.beq j id) (K .normal st) (K (.exit j) st)
  |e,st=>K e st
def WW (i:Nat):List Nat→List Nat
  |[]=>[]
  |k::l=>cond (Nat.beq k i) (WW i l) (k::WW i l)
def Tu (i:Nat) (t:Ty) (h:GV) (v:SV):SV:=
  match v.list h t with
  |some p=>.r (WW i p.1) (.sl t p.2)
  |none=>.undef
mutual
def SV.frz (i:Nat) (t:Ty) (h:GV):SV→SV
  |.r d x=>.r (WW i d) x
  |.own j=>cond (Nat.beq j i) (Tu i t h (.own j)) (.own j)
  |.sub j o n=>cond (Nat.beq j i) (Tu i t h (.sub j o n)) (.sub j o n)
  |.bsl j n=>cond (Nat.beq j i) .undef (.bsl j n)
  |.ptr j x o=>cond (Nat.beq j i) .undef (.ptr j x o)
  |.inn j x c=>cond (Nat.beq j i) .undef (.inn j x c)
  |.Jp d cs=>.Jp (WW i d) cs
  |.agg cs=>.agg (QQ i t h cs)
  |.tup cs=>.tup (QQ i t h cs)
  |.fn f a b=>.fn f (QQ i t h a) (QQ i t h b)
  |.H5=>.H5
  |.K0=>.K0
  |.undef=>.undef
def QQ (i:Nat) (t:Ty) (h:GV):List SV→List SV
  |[]=>[]
  |v::l=>v.frz i t h::QQ i t h l
end
def Blk.frz (i:Nat) (t:Ty) (h:GV):Blk→Blk
  |.box cs=>.box (QQ i t h cs)
  |.arr none t' xs=>.arr none t' xs
  |.arr (some d) t' xs=>.arr (some (WW i d)) t' xs
def Sn (i:Nat) (t:Ty) (h:GV):GV→GV
  |[]=>[]
  |(k,b)::l=>cond (Nat.beq k i) (Sn i t h l) ((k,b.frz i t h)::Sn i t h l)
def Up (i:Nat) (t:Ty) (h:GV):List (Nat× SV)→List (Nat× SV)
  |[]=>[]
  |(k,v)::l=>(k,v.frz i t h)::Up i t h l
def ZR (i:Nat) (st:St):St:=
  match look st.heap i with
  |some (.arr _ t _)=>{st with G2:=Up i t st.heap st.G2,heap:=Sn i t st.heap st.heap}
  |_=>st
def Zj (h:GV):SV→List Nat→Option Nat
  |.own i,[]=>some i
  |.sub i _ _,[]=>some i
  | .agg cs, j :: p => match cs[j]? with
    |some v=>Zj h v p
    |none=>none
  | .tup cs, j :: p => match cs[j]? with
    |some v=>Zj h v p
    |none=>none
  | .ptr i 0 o, j :: p => match look h i with
    | some (.box cs) => match cs[o + j]? with
      |some v=>Zj h v p
      |none=>none
    |_=>none
  | .bsl i _, j :: p => match look h i with
    | some (.box cs) => match cs[j]? with
      |some v=>Zj h v p
      |none=>none
    |_=>none
  |_,_=>none
termination_by structural _ p=>p
def ZS (i:Nat) (st:St):St:=
  match look st.heap i with
  |some (.arr none t xs)=>{st with heap:=put st.heap i (.arr (some []) t xs)}
  |_=>st
def XZ (st:St) (x:Bool× Nat× List Nat):St:=
  match look st.G2 x.2.1 with
  | some v => match Zj st.heap v x.2.2 with
    |some i=>cond x.1 (ZS i st) (ZR i st)
    |none=>st
  |none=>st
def Tv:List (Bool× Nat× List Nat)→St→St
  |[],st=>st
  |x::l,st=>Tv l (XZ st x)
def Blk.Vw (b:Blk) (K:Blk→Option ρ):Option ρ:=
  match b with
  |.arr none (.ho s) zs=>(Q3 zs).bind fun xs=>K (.arr none (.st s) xs)
  |.arr none (.hl t) zs=>(Q3 zs).bind fun xs=>K (.arr none (.sl t) xs)
  |b=>K b
def Vx:GV→(GV→Option ρ)→Option ρ
  |[],K=>K []
  |(k,b)::l,K=>b.Vw fun b=>Vx l fun l=>K ((k,b)::l)
def Tw (E:Env) (K:St→Option ρ) (st:St):Option ρ:=cond E.tak (Vx st.heap fun h=>K {st with heap:=h}) (K st)
noncomputable def ev (E:Env) (LP:Nat→Ev ρ→Ev ρ) (cb:Nat):Code→Ev ρ
  |.skip,st,K=>K .normal st
  |.label _,st,K=>K .normal st
  |.region id ops false,st,K=>P1 E ops.toList ops.toList (Vs (E.wk id) (Tv (E.fz id) st)) (Tw E (K .normal))
  |.region id ops true,st,K=>Sm E ops.toList (Vs (E.wk id) (Tv (E.fz id) st)) (Tw E (K .normal))
  | .seq a b, st, K => ev E LP cb a st fun e st => match e with
    |.normal=>ev E LP cb b st K
    |e=>K e st
  |.cond c t f,st,K=>(opd st.G2 c).bind fun v=>v.asB.bind fun b=>cond b (ev E LP cb t (refine c true st) K) (ev E LP cb f (refine c false st) K)
  |.block id c,st,K=>ev E LP id c st (inBlock id K)
  |.loop c,st,K=>LP cb (fun st K=>ev E LP cb c st K) st K
  |.exit id,st,K=>K (.exit id) st
  |.scope c,st,K=>ev E LP cb c st K
  |.ret,st,K=>K .ret st
  |_,_,_=>none
end Go.Proofs.Ev
namespace Go.Proofs.Ev
def Ext {α:Type} (s s':List (Nat× α)):Prop:=∀t v,look s t=some v→look s' t=some v
theorem Ext.rfl' {α:Type} {s:List (Nat× α)}:Ext s s:=fun _ _ h=>h
def Le {α:Type} (x y:Option α):Prop:=∀a,x=some a→y=some a
theorem Le.refl {α:Type} (x:Option α):Le x x:=fun _ h=>h
theorem Le.bind {α β:Type} {x y:Option α} {f g:α→Option β} (h:Le x y) (hf:∀a,Le (f a) (g a)):Le (x.bind f) (y.bind g):=by
  intro b hb
  rw[Option.bind_eq_some_iff]at hb⊢
  obtain⟨a,h1,h2⟩:=hb
  exact⟨a,h a h1,hf a b h2⟩
theorem Le.cond {α:Type} {b:Bool} {x y x' y':Option α} (h:Le x x') (h':Le y y'):Le (cond b x y) (cond b x' y'):=by cases b<;>assumption
theorem Le.none {α:Type} {y:Option α}:Le Option.none y:=fun _ h=>nomatch h
section
variable {s s':List (Nat× SV)} {h h':GV} {P:Program}
theorem Yk (hh:Ext h h') (i:Nat):Le (look h i) (look h' i):=fun _=>hh i _
theorem Hu (hs:Ext s s') (x:Operand):Le (opd s x) (opd s' x):=by
  cases x with
  |tmp t=>exact fun v hv=>hs t v hv
  |_=>exact Le.refl _
theorem I3 (hs:Ext s s'):(l:List Operand)→Le (L0 s l) (L0 s' l)
  |[]=>Le.refl _
  |x::l=>(Hu hs x).bind fun _=>(I3 hs l).bind fun _=>Le.refl _
theorem Sp (hs:Ext s s') (x:Option Operand):Le (WV s x) (WV s' x):=by
  cases x with
  |none=>exact Le.refl _
  |some x=>exact(Hu hs x).bind fun _=>Le.refl _
theorem K7 (hs:Ext s s'):(l:List (Nat× Operand))→Le (LU s l) (LU s' l)
  |[]=>Le.refl _
  |(_,x)::l=>(Hu hs x).bind fun _=>(K7 hs l).bind fun _=>Le.refl _
theorem Uq (hh:Ext h h') (v:SV):Le (JB h v) (JB h' v):=by
  cases v<;>try exact Le.refl _
  rename_i i x o
  intro cs hcs
  simp only[JB]at hcs⊢
  cases hl:look h i with
  |none=>rw[hl]at hcs;exact nomatch hcs
  |some B=>rw[hl]at hcs;rw[hh i B hl];exact hcs
theorem Xa (hh:Ext h h') (v:SV):Le (lenOf h v) (lenOf h' v):=by
  intro n hn
  cases v with
  | own i =>
    simp only[lenOf]at hn⊢
    cases hl:look h i with
    |none=>rw[hl]at hn;exact nomatch hn
    |some B=>rw[hl]at hn;rw[hh i B hl];exact hn
  |r d x=>cases x<;>exact hn
  |_=>exact hn
theorem Ur (hh:Ext h h') (T:TypeId) (v:SV) (lo hi:Option SV):Le (I1 P T h v lo hi) (I1 P T h' v lo hi):=by
  intro cs hcs
  cases v with
  | own i =>
    simp only[I1]at hcs⊢
    cases hl:look h i with
    |none=>rw[hl]at hcs;exact nomatch hcs
    |some B=>rw[hl]at hcs;rw[hh i B hl];exact hcs
  | sub i o n =>
    simp only[I1]at hcs⊢
    cases hl:look h i with
    |none=>rw[hl]at hcs;exact nomatch hcs
    |some B=>rw[hl]at hcs;rw[hh i B hl];exact hcs
  |r d x=>cases x<;>exact hcs
  |_=>exact hcs
theorem OS (hh:Ext h h') (T:TypeId) (v:SV) (k:Int):Le (He P T h v k) (He P T h' v k):=by
  intro cs hcs
  cases v with
  | own i =>
    simp only[He]at hcs⊢
    cases hl:look h i with
    |none=>rw[hl]at hcs;exact nomatch hcs
    |some B=>rw[hl]at hcs;rw[hh i B hl];exact hcs
  | sub i o n =>
    simp only[He]at hcs⊢
    cases hl:look h i with
    |none=>rw[hl]at hcs;exact nomatch hcs
    |some B=>rw[hl]at hcs;rw[hh i B hl];exact hcs
  |r d x=>cases x<;>exact hcs
  |_=>exact hcs
theorem Sq (hh:Ext h h') (t:Ty) (v:SV):Le (v.list h t) (v.list h' t):=by
  intro p hp
  cases v<;>try exact hp
  all_goals
    simp only[SV.list]at hp⊢
    split at hp
    · rename_i hl;rw[hh _ _ hl];exact hp
    · exact nomatch hp
theorem Zk (hh:Ext h h') (T:TypeId) (x:SV):Le (slN P T h x) (slN P T h' x):=by
  intro n hn
  cases x with
  | own i =>
    simp only[slN]at hn⊢
    cases hl:look h i with
    |none=>rw[hl]at hn;exact nomatch hn
    |some B=>rw[hl]at hn;rw[hh i B hl];exact hn
  |r d x=>cases x<;>exact hn
  |_=>exact hn
theorem MY (hs:Ext s s') (hh:Ext h h') (op:Op):Le (Iu P s h op) (Iu P s' h' op):=by
  intro v hv
  unfold Iu at hv
  split at hv<;>simp only[Iu]
  · exact Hu hs _ v hv
  · exact Hu hs _ v hv
  · revert hv;exact((Hu hs _).bind fun c=>(Le.refl _).bind fun b=>Le.cond (Hu hs _) (Hu hs _)) v
  · revert hv
    split
    · exact((Le.refl _).bind fun _=>(Le.refl _).bind fun _=>(K7 hs _).bind fun _=>Le.refl _) v
    · exact fun h=>nomatch h
  · exact((Hu hs _).bind fun a=>(Uq hh a).bind fun _=>Le.refl _) v hv
  · exact((Hu hs _).bind fun a=>Le.refl _) v hv
  · exact((Hu hs _).bind fun a=>(Hu hs _).bind fun _=>Le.refl _) v hv
  · exact((Hu hs _).bind fun a=>Le.refl _) v hv
  · exact((Hu hs _).bind fun a=>Le.cond ((Sq hh _ _).bind fun _=>Le.refl _) (Le.refl _)) v hv
  · exact((I3 hs _).bind fun a=>(I3 hs _).bind fun _=>Le.refl _) v hv
  · exact((Hu hs _).bind fun a=>(Sp hs _).bind fun _=>(Sp hs _).bind fun _=>Ur hh _ _ _ _) v hv
  · exact((Hu hs _).bind fun a=>(Sp hs _).bind fun _=>(Hu hs _).bind fun _=>(Hu hs _).bind fun _=>(Zk hh _ _).bind fun _=>Le.refl _) v hv
  · exact((Hu hs _).bind fun a=>Le.refl _) v hv
  · exact((Hu hs _).bind fun a=>Le.refl _) v hv
  · exact((Hu hs _).bind fun a=>(Hu hs _).bind fun _=>(Le.refl _).bind fun _=>OS hh _ _ _) v hv
  · exact((Hu hs _).bind fun a=>(Hu hs _).bind fun _=>Le.refl _) v hv
  · exact((Hu hs _).bind fun a=>Le.refl _) v hv
  · refine((I3 hs _).bind fun vs=>?_) v hv
    split
    · exact Le.cond ((Xa hh _).bind fun _=>Le.refl _) (Le.refl _)
    · exact Le.refl _
  · exact((I3 hs _).bind fun a=>Le.refl _) v hv
  · exact((I3 hs _).bind fun a=>Le.refl _) v hv
  · exact((I3 hs _).bind fun a=>Le.refl _) v hv
  · exact nomatch hv
theorem Q7 (hh:Ext h h') (t:Ty) (v:SV):Le (v.asR h t) (v.asR h' t):=by
  cases t with
  |sl t=>exact(Sq hh t v).bind fun _=>Le.refl _
  |_=>exact Le.refl _
theorem Sr (hh:Ext h h'):(ts:List Ty)→(vs:List SV)→Le (Vb h ts vs) (Vb h' ts vs)
  |[],[]=>Le.refl _
  |t::ts,v::vs=>(Q7 hh t v).bind fun _=>(Sr hh ts vs).bind fun _=>Le.refl _
  |[],_::_=>Le.refl _
  |_::_,[]=>Le.refl _
theorem Yl (hh:Ext h h') (t:Ty) (vs:List SV):Le (ZD h t vs) (ZD h' t vs):=(Sr hh _ _).bind fun _=>Le.refl _
theorem Tx (hh:Ext h h') (t:Ty):(n:Nat)→(c:List SV)→Le (Uk h t n c) (Uk h' t n c)
  |0,_=>Le.refl _
  |n+1,_=>(Yl hh t _).bind fun _=>(Tx hh t n _).bind fun _=>Le.refl _
theorem P4 (hh:Ext h h') (t:Ty) (v:SV):Le (v.Vd h t) (v.Vd h' t):=by
  intro p hp
  cases t with
  | sl t =>
    cases v with
    | own i =>
      simp only[SV.Vd]at hp⊢
      cases hl:look h i with
      |none=>rw[hl]at hp;exact nomatch hp
      |some B=>rw[hl]at hp;rw[hh i B hl];exact hp
    |_=>exact hp
  |_=>exact hp
theorem Tz (hh:Ext h h'):(ts:List Ty)→(vs:List SV)→Le (Sf h ts vs) (Sf h' ts vs)
  |[],[]=>Le.refl _
  |t::ts,v::vs=>(P4 hh t v).bind fun _=>(Tz hh ts vs).bind fun _=>Le.refl _
  |[],_::_=>Le.refl _
  |_::_,[]=>Le.refl _
theorem JC (hh:Ext h h') (t:Ty):(n:Nat)→(c:List SV)→Le (IZ h t n c) (IZ h' t n c)
  |0,_=>Le.refl _
  |n+1,_=>(Tz hh _ _).bind fun _=>(Le.refl _).bind fun _=>(JC hh t n _).bind fun _=>Le.refl _
theorem Q8 (hh:Ext h h'):(c:List SV)→Le (Q1 h c) (Q1 h' c)
  |[]=>Le.refl _
  | v :: l => by
    have ih:=Q8 hh l
    cases v with
    | own i =>
      refine(Yk hh i).bind fun b=>?_
      cases b with
      |box _=>exact Le.refl _
      | arr sh _ _ => cases sh with
        |none=>exact ih
        |some _=>exact Le.refl _
    | r d x => cases x with
      |sl _ _=>exact Le.refl _
      |_=>exact ih
    |sub _ _ _=>exact Le.refl _
    |bsl _ _=>exact Le.refl _
    |_=>exact ih
theorem Vy (hh:Ext h h') (t:Ty) (n:Nat) (c:List SV):Le (Tp h t n c) (Tp h' t n c):=
  (Q8 hh c).bind fun b=>Le.cond ((JC hh t n c).bind fun _=>Le.refl _) ((Tx hh t n c).bind fun _=>Le.refl _)
theorem O9 (hh:Ext h h') (t:Ty) (v:SV):Le (L1 h t v) (L1 h' t v):=by
  have ind:∀(v:SV) (p:List Nat× List t.El),v.list h t=some p→KV h' v p.1=KV h v p.1:=fun v p hp=>by
    cases v with
    | own i =>
      simp only[SV.list]at hp
      cases hl:look h i with
      |none=>rw[hl]at hp;exact nomatch hp
      |some B=>simp only[KV,hl,hh i B hl]
    |_=>rfl
  have lst:∀v:SV,Le ((v.list h t).bind fun p=>cond (K5 t) (some (none,[],p.2)) (some (some (KV h v p.1),[],p.2)):Option (Option (List Nat)× List Nat× List t.El)) ((v.list h' t).bind fun p=>cond (K5 t) (some (none,[],p.2)) (some (some (KV h' v p.1),[],p.2))):=fun v q hq=>by
    rw[Option.bind_eq_some_iff]at hq⊢
    obtain⟨p,hp,hq⟩:=hq
    exact⟨p,Sq hh t v p hp,by rw[ind v p hp];exact hq⟩
  cases v with
  | bsl i n =>
    intro p hp
    simp only[L1]at hp⊢
    cases hl:look h i with
    |none=>rw[hl]at hp;exact nomatch hp
    | some B =>
      rw[hl]at hp;rw[hh i B hl]
      cases B with
      |box cs=>exact((Vy hh t n cs).bind fun _=>Le.refl _) p hp
      |arr _ _ _=>exact nomatch hp
  |r d x=>exact lst (.r d x)
  |H5=>exact lst .H5
  |K0=>exact lst .K0
  |own i=>exact lst (.own i)
  |sub i o n=>exact lst (.sub i o n)
  |ptr i x o=>exact lst (.ptr i x o)
  |inn i x o=>exact lst (.inn i x o)
  |Jp d x=>exact lst (.Jp d x)
  |agg x=>exact lst (.agg x)
  |tup x=>exact lst (.tup x)
  |fn f a b=>exact lst (.fn f a b)
  |undef=>exact lst .undef
end
end Go.Proofs.Ev
namespace Go.Proofs.Ev
abbrev Cell:=Nat× Nat
def _root_.Go.World.at? (w:World) (p:Cell):Option Value:=w.cell? ⟨p.1,p.2,none⟩
def _root_.Go.World.HW (w:World) (p:Cell):Nat× Nat× Nat:=
  match w.heap[p.1]? with
  |some (.cells c _ fr)=>(fr.1,fr.2,c.size)
  |_=>(0,0,0)
def calm (r:Nat× Nat× Nat):Bool:=decide (r.1=r.2.1∨r.2.2≤r.1)
def whole (r:Nat× Nat× Nat) (o n:Nat):Bool:=calm r&&decide (o=0∧r.2.2=n)
theorem Ly {r:Nat× Nat× Nat} {o n:Nat} (h:whole r o n=true):calm r=true:=by
  unfold whole at h
  rw[Bool.and_eq_true]at h
  exact h.1
theorem TA {n:Nat}:whole (0,0,n) 0 n=true:=by simp[whole,calm]
theorem JD {w:World} {b o:Nat} {u:Value} (h:w.at? (b,o)=some u) (hc:calm (w.HW (b,o))=true):w.frozen? ⟨b,o,none⟩=false:=by
  unfold World.at? World.cell? at h
  unfold calm World.HW at hc
  unfold World.frozen?
  cases hb:w.heap[b]? with
  |none=>rfl
  | some ob =>
    cases ob with
    | cells c t fr =>
      simp only[hb,Option.isSome_none,Bool.false_eq_true,if_false]at h
      simp only[hb,decide_eq_true_eq]at hc
      have:=(Array.getElem?_eq_some_iff.1 h).1
      obtain⟨lo,hi⟩:=fr
      simp only at hc⊢
      rw[Bool.and_eq_false_iff,decide_eq_false_iff_not,decide_eq_false_iff_not]
      omega
    |_=>rfl
theorem Q9 (w:World) (a:Addr) (v:Value) (p:Cell):(w.setCell a v).HW p=w.HW p:=by
  unfold World.HW World.setCell
  simp only[Array.getElem?_modify]
  by_cases e:a.block=p.1
  · rw[if_pos e]
    cases hb:w.heap[p.1]? with
    |none=>rfl
    | some ob =>
      cases ob with
      |cells c t fr=>simp only[Option.map_some];split<;>simp
      |_=>rfl
  · rw[if_neg e]
theorem Ii (b:Nat):∀(vs:List Value) (o:Nat) (w:World) (p:Cell),(w.setCells b o vs).HW p=w.HW p
  |[],_,_,_=>rfl
  |v::vs,o,w,p=>(Ii b vs (o+1) (w.setCell ⟨b,o,none⟩ v) p).trans (Q9 w _ v p)
def one:Value→Bool
  |.agg _|.tuple _=>false
  |_=>true
class Tok where
  env:Nat→Value
  Vz:∀n,one (env n)=true
  VA:env 0=.slice none 0 0
variable [Tok]
set_option linter.unusedSectionVars false
def reg (b o n:Nat) (p:Cell):Prop:=p.1=b∧o≤p.2∧p.2<o+n
def GM (t:Ty) (xs:List t.El) (i j:Nat) (r:R):Prop:=∃x,xs[i]? =some x∧(t.cells x)[j]? =some r
theorem GZ {t:Ty} {xs:List t.El} {i j:Nat} {r:R} (h:GM t xs i j r):i<xs.length∧j<t.sz:=by
  obtain⟨x,hx,hr⟩:=h
  refine⟨(List.getElem?_eq_some_iff.1 hx).1,?_⟩
  have:=(List.getElem?_eq_some_iff.1 hr).1
  rwa [Ty.Hn]at this
theorem HP {t:Ty} {xs:List t.El} {i j:Nat} (hi:i<xs.length) (hj:j<t.sz):∃r,GM t xs i j r:=by
  refine⟨(t.cells xs[i])[j]'(by rw[Ty.Hn];exact hj),xs[i],?_,?_⟩<;>simp
theorem K8 {i j n s c:Nat} (hi:i<n) (hj:j<s) (h:n≤c):i*s+j<c*s:=by
  have h1:(i+1)*s≤c*s:=Nat.mul_le_mul_right s (by omega)
  have:(i+1)*s=i*s+s:=Nat.succ_mul i s
  omega
inductive I4 (w:World) (ok:Cell→Prop):R→Value→Prop
  |int (k:IntKind) (n:Int):I4 w ok (.int k n) (.int k n)
  |bool (b:Bool):I4 w ok (.bool b) (.bool b)
  |str (l:List UInt8):I4 w ok (.str l) (.string ⟨l.toArray⟩)
  |sl (t:Ty) (xs:List t.El) (a:Option Addr) (cap b o:Nat) (vs:Nat→Nat→Value)
      (IH:xs.length≤cap) (ha:xs=[]∨a=some ⟨b,o,none⟩)
      (hc:∀i j r,GM t xs i j r→ok (b,o+(i*t.sz+j))∧w.at? (b,o+(i*t.sz+j))=some (vs i j))
      (hr:∀i j r,GM t xs i j r→I4 w ok r (vs i j)):I4 w ok (.sl t xs) (.slice a xs.length cap)
  |tok (n:Nat):I4 w ok (.tok n) (Tok.env n)
  |KT (v:Value) (h:one v=true):I4 w ok .KT v
theorem I4.frame {w w':World} {ok ok':Cell→Prop} {r:R} {v:Value} (h:I4 w ok r v)
    (hf:∀p u,ok p→w.at? p=some u→ok' p∧w'.at? p=some u):I4 w' ok' r v:=by
  induction h with
  |int=>exact .int _ _
  |bool=>exact .bool _
  |str=>exact .str _
  |tok=>exact .tok _
  |KT v h=>exact .KT v h
  | sl t xs a cap b o vs IH ha hc _ ih =>
    exact .sl t xs a cap b o vs IH ha (fun i j r hr=>hf _ _ (hc i j r hr).1 (hc i j r hr).2) ih
structure Row (w:World) (inner:R→Value→(Cell→Prop)→Prop) (t:Ty) (xs:List t.El) (hdr:Value) (fp:Cell→Prop) where
  a:Option Addr
  cap:Nat
  b:Nat
  o:Nat
  vs:Nat→Nat→Value
  fs:Nat→Nat→Cell→Prop
  Ra:hdr=.slice a xs.length cap
  IH:xs.length≤cap
  ha:cap=0∨a=some ⟨b,o,none⟩
  JR:∀j,j<cap*t.sz→(∃v,w.at? (b,o+j)=some v)∧whole (w.HW (b,o+j)) o (cap*t.sz)=true
  hc:∀i j r,GM t xs i j r→w.at? (b,o+(i*t.sz+j))=some (vs i j)
  hr:∀i j r,GM t xs i j r→inner r (vs i j) (fs i j)
  hd1:∀i j r p,GM t xs i j r→fs i j p→¬reg b o (cap*t.sz) p
  hd2:∀i j r i' j' r' p,GM t xs i j r→GM t xs i' j' r'→fs i j p→fs i' j' p→i=i'∧j=j'
  hfp:∀p,fp p↔reg b o (cap*t.sz) p∨∃i j r,GM t xs i j r∧fs i j p
inductive Ie (w:World):R→Value→(Cell→Prop)→Prop
  |int (k:IntKind) (n:Int):Ie w (.int k n) (.int k n) (fun _=>False)
  |bool (b:Bool):Ie w (.bool b) (.bool b) (fun _=>False)
  |str (l:List UInt8):Ie w (.str l) (.string ⟨l.toArray⟩) (fun _=>False)
  |sl (t:Ty) (xs:List t.El) (a:Option Addr) (cap b o:Nat) (vs:Nat→Nat→Value) (fs:Nat→Nat→Cell→Prop) (fp:Cell→Prop)
      (IH:xs.length≤cap) (ha:cap=0∨a=some ⟨b,o,none⟩)
      (JR:∀j,j<cap*t.sz→(∃v,w.at? (b,o+j)=some v)∧whole (w.HW (b,o+j)) o (cap*t.sz)=true)
      (hc:∀i j r,GM t xs i j r→w.at? (b,o+(i*t.sz+j))=some (vs i j))
      (hr:∀i j r,GM t xs i j r→Ie w r (vs i j) (fs i j))
      (hd1:∀i j r p,GM t xs i j r→fs i j p→¬reg b o (cap*t.sz) p)
      (hd2:∀i j r i' j' r' p,GM t xs i j r→GM t xs i' j' r'→fs i j p→fs i' j' p→i=i'∧j=j')
      (hfp:∀p,fp p↔reg b o (cap*t.sz) p∨∃i j r,GM t xs i j r∧fs i j p):Ie w (.sl t xs) (.slice a xs.length cap) fp
  |tok (n:Nat):Ie w (.tok n) (Tok.env n) (fun _=>False)
  |KT (v:Value) (h:one v=true):Ie w .KT v (fun _=>False)
theorem Ie.row {w:World} {t:Ty} {xs:List t.El} {v:Value} {fp:Cell→Prop} (h:Ie w (.sl t xs) v fp):Nonempty (Row w (Ie w) t xs v fp):=by
  cases h with
  |sl t xs a cap b o vs fs fp IH ha JR hc hr hd1 hd2 hfp=>exact⟨⟨a,cap,b,o,vs,fs,rfl,IH,ha,JR,hc,hr,hd1,hd2,hfp⟩⟩
theorem Row.ZH {w:World} {t:Ty} {xs:List t.El} {v:Value} {fp:Cell→Prop} (h:Row w (Ie w) t xs v fp):Ie w (.sl t xs) v fp:=by
  obtain⟨a,cap,b,o,vs,fs,rfl,IH,ha,JR,hc,hr,hd1,hd2,hfp⟩:=h
  exact .sl t xs a cap b o vs fs fp IH ha JR hc hr hd1 hd2 hfp
theorem Ie.frame {w w':World} {r:R} {v:Value} {fp:Cell→Prop} (h:Ie w r v fp)
    (hf:∀p u,fp p→w.at? p=some u→w'.at? p=some u∧w'.HW p=w.HW p):Ie w' r v fp:=by
  induction h with
  |int=>exact .int _ _
  |bool=>exact .bool _
  |str=>exact .str _
  |tok=>exact .tok _
  |KT v h=>exact .KT v h
  | sl t xs a cap b o vs fs fp IH ha JR hc _ hd1 hd2 hfp ih =>
    have hin:∀i j r,GM t xs i j r→fp (b,o+(i*t.sz+j)):=fun i j r hr=>(hfp _).2 (.inl ⟨rfl,by simp,by
      have:=K8 (GZ hr).1 (GZ hr).2 IH;simp;omega⟩)
    refine .sl t xs a cap b o vs fs fp IH ha (fun j hj=>?_) (fun i j r hr=>(hf _ _ (hin i j r hr) (hc i j r hr)).1)
      (fun i j r hr=>ih i j r hr fun p u hp=>hf p u ((hfp p).2 (.inr ⟨i,j,r,hr,hp⟩))) hd1 hd2 hfp
    obtain⟨⟨v,hv⟩,hi⟩:=JR j hj
    have:=hf (b,o+j) v ((hfp _).2 (.inl ⟨rfl,by simp,by simp;omega⟩)) hv
    exact⟨⟨v,this.1⟩,by rw[this.2];exact hi⟩
theorem Ie.WX {w:World} {r:R} {v:Value} {fp:Cell→Prop} {ok:Cell→Prop} (h:Ie w r v fp) (hok:∀p,fp p→ok p):I4 w ok r v:=by
  induction h with
  |int=>exact .int _ _
  |bool=>exact .bool _
  |str=>exact .str _
  |tok=>exact .tok _
  |KT v h=>exact .KT v h
  | sl t xs a cap b o vs fs fp IH ha JR hc _ hd1 hd2 hfp ih =>
    refine .sl t xs a cap b o vs IH ?_ (fun i j r hr=>⟨hok _ ((hfp _).2 (.inl ⟨rfl,by simp,by
      have:=K8 (GZ hr).1 (GZ hr).2 IH;simp;omega⟩)),hc i j r hr⟩)
      (fun i j r hr=>ih i j r hr fun p hp=>hok p ((hfp p).2 (.inr ⟨i,j,r,hr,hp⟩)))
    rcases ha with rfl|h
    · exact .inl (List.length_eq_zero_iff.1 (by omega))
    · exact .inr h
theorem Ie.there {w:World} {r:R} {v:Value} {fp:Cell→Prop} (h:Ie w r v fp):∀p,fp p→∃u,w.at? p=some u:=by
  induction h with
  |int=>exact fun _ h=>h.elim
  |bool=>exact fun _ h=>h.elim
  |str=>exact fun _ h=>h.elim
  |tok=>exact fun _ h=>h.elim
  |KT=>exact fun _ h=>h.elim
  | sl t xs a cap b o vs fs fp IH ha JR hc _ hd1 hd2 hfp ih =>
    intro p hp
    rcases(hfp p).1 hp with⟨h1,h2,h3⟩|⟨i,j,r,hr,hp⟩
    · obtain⟨p1,p2⟩:=p
      have h1:p1=b:=h1
      simp only at h1 h2 h3
      subst h1
      have:=(JR (p2-o) (by omega)).1
      rwa [show o+(p2-o)=p2 from by omega]at this
    · exact ih i j r hr p hp
structure Pl where
  hdr:Nat→Value
  fp:Nat→Cell→Prop
  base:Cell→Prop
def Blk.JE:Blk→Bool
  |.box _=>true
  |.arr _ _ _=>false
def okd (H:GV) (pl:Pl) (d:List Nat) (p:Cell):Prop:=pl.base p∧∀i B,look H i=some B→(mem i d=true→B.JE=true)→¬pl.fp i p
inductive GG (w:World) (H:GV) (pl:Pl):SV→Value→Prop
  |r (d:List Nat) (x:R) (v:Value) (h:I4 w (okd H pl d) x v):GG w H pl (.r d x) v
  |H5:GG w H pl .H5 (.slice none 0 0)
  |K0:GG w H pl .K0 (.pointer none)
  |own (i:Nat) (sh:Option (List Nat)) (t:Ty) (xs:List t.El) (h:look H i=some (.arr sh t xs)):GG w H pl (.own i) (pl.hdr i)
  |sub (i o n:Nat) (sh:Option (List Nat)) (t:Ty) (xs:List t.El) (a a':Option Addr) (cap cap':Nat) (h:look H i=some (.arr sh t xs))
      (hh:pl.hdr i=.slice a xs.length cap) (hn:o+n≤xs.length) (hc:n≤cap') (hc':o+cap'=cap) (ha:cap'=0∨a'=a.map (·.add (o*t.sz))):
      GG w H pl (.sub i o n) (.slice a' n cap')
  |bsl (i n:Nat) (cs:List SV) (a:Addr) (h:look H i=some (.box cs)) (hh:pl.hdr i=.pointer (some a)):GG w H pl (.bsl i n) (.slice (some a) n n)
  |MZ (i o:Nat) (cs:List SV) (b k:Nat) (h:look H i=some (.box cs)) (hh:pl.hdr i=.pointer (some ⟨b,k,none⟩)):GG w H pl (.ptr i 0 o) (.pointer (some ⟨b,k+o,none⟩))
  |Mj (i x o:Nat) (sh:Option (List Nat)) (t:Ty) (xs:List t.El) (b k n cap:Nat) (h:look H i=some (.arr sh t xs)) (hx:x<xs.length)
      (hh:pl.hdr i=.slice (some ⟨b,k,none⟩) n cap):GG w H pl (.ptr i x o) (.pointer (some ⟨b,k+(x*t.sz+o),none⟩))
  |inn (i x c:Nat) (sh:Option (List Nat)) (t:Ty) (xs:List t.El) (b k n cap:Nat) (v:Value) (h:look H i=some (.arr sh t xs)) (hx:x<xs.length) (hc:c<t.sz)
      (hh:pl.hdr i=.slice (some ⟨b,k,none⟩) n cap) (hok:okd H pl [i] (b,k+(x*t.sz+c))) (hv:w.at? (b,k+(x*t.sz+c))=some v) (h1:one v=true):GG w H pl (.inn i x c) v
  |Jp (d:List Nat) (cs:List R) (b o:Nat) (vs:Nat→Value) (hc:∀j r,cs[j]? =some r→okd H pl d (b,o+j)∧w.at? (b,o+j)=some (vs j))
      (hr:∀j r,cs[j]? =some r→I4 w (okd H pl d) r (vs j)):GG w H pl (.Jp d cs) (.pointer (some ⟨b,o,none⟩))
  |agg (cs:List SV) (vs:Array Value) (hl:cs.length=vs.size) (h1:∀(j:Nat) (v:Value),vs[j]? =some v→one v=true) (h:∀(j:Nat) (x:SV) (v:Value),cs[j]? =some x→vs[j]? =some v→GG w H pl x v):GG w H pl (.agg cs) (.agg vs)
  |tup (cs:List SV) (vs:Array Value) (hl:cs.length=vs.size) (h:∀(j:Nat) (x:SV) (v:Value),cs[j]? =some x→vs[j]? =some v→GG w H pl x v):GG w H pl (.tup cs) (.tuple vs)
  |fn (f:Fn) (as bs:List SV) (us vs:Array Value) (hl:as.length=us.size) (h:∀(j:Nat) (x:SV) (v:Value),as[j]? =some x→us[j]? =some v→GG w H pl x v)
      (hl':bs.length=vs.size) (h':∀(j:Nat) (x:SV) (v:Value),bs[j]? =some x→vs[j]? =some v→GG w H pl x v):GG w H pl (.fn f as bs) (.func f us vs)
  |undef (v:Value):GG w H pl .undef v
def HV (w:World) (H:GV) (pl:Pl) (i:Nat):Blk→Prop
  |.box cs=>∃b o,pl.hdr i=.pointer (some ⟨b,o,none⟩)∧(∀p,pl.fp i p↔reg b o cs.length p)∧
      ∀j v,cs[j]? =some v→∃u,w.at? (b,o+j)=some u∧calm (w.HW (b,o+j))=true∧one u=true∧GG w H pl v u
  |.arr none t xs=>Nonempty (Row w (Ie w) t xs (pl.hdr i) (pl.fp i))
  |.arr (some d) t xs=>Nonempty (Row w (fun r v f=>I4 w (okd H pl d) r v∧∀p,¬f p) t xs (pl.hdr i) (pl.fp i))
structure Hq (H:GV) (pl:Pl) (w:World):Prop where
  blk:∀i B,look H i=some B→HV w H pl i B
  dis:∀i j B B' p,look H i=some B→look H j=some B'→pl.fp i p→pl.fp j p→i=j
  ob:∀i B p,look H i=some B→pl.fp i p→pl.base p
  nb:∀p,w.at? p=none→pl.base p
end Go.Proofs.Ev
namespace Go.Proofs.Ev
variable [Tok]
set_option linter.unusedSectionVars false
section lists
variable {α:Type}
theorem GK (k:Nat) (v:α) (l:List (Nat× α)) (n:Nat):look ((k,v)::l) n=if k=n then some v else look l n:=by
  simp only[look]
  cases h:Nat.beq k n
  · have:¬k=n:=fun e=>by subst e;simp at h
    simp[this]
  · have:k=n:=Nat.eq_of_beq_eq_true h
    simp[this]
theorem HX (l:List (Nat× α)) (n m:Nat) (v:α):look (put l n v) m=if n=m then some v else look l m:=by
  induction l with
  |nil=>rw[put,GK]
  | cons x l ih =>
    obtain⟨k,u⟩:=x
    simp only[put]
    cases hk:Nat.beq k n
    · simp only[cond_false,look,ih]
      cases hm:Nat.beq k m
      · simp
      · have h1:k=m:=Nat.eq_of_beq_eq_true hm
        subst h1
        have:¬n=k:=fun e=>by subst e;simp at hk
        simp[this]
    · have h1:k=n:=Nat.eq_of_beq_eq_true hk
      subst h1
      simp only[cond_true,look]
      cases hm:Nat.beq k m
      · have:¬k=m:=fun e=>by subst e;simp at hm
        simp[this]
      · have:k=m:=Nat.eq_of_beq_eq_true hm
        simp[this]
theorem GR (l l':List (Nat× α)) (n:Nat):look (l++l') n=(look l n).or (look l' n):=by
  induction l with
  |nil=>simp[look]
  | cons x l ih =>
    obtain⟨k,u⟩:=x
    simp only[List.cons_append,look]
    cases Nat.beq k n<;>simp[ih]
theorem mem_iff (i:Nat) (l:List Nat):mem i l=true↔i∈l:=by
  induction l with
  |nil=>simp[mem]
  | cons k l ih =>
    simp only[mem]
    cases h:Nat.beq k i
    · have:¬i=k:=fun e=>by subst e;simp at h
      simp[ih,this]
    · have:k=i:=Nat.eq_of_beq_eq_true h
      simp[this]
theorem H9 (T d:List Nat) (h:hit T d=false):∀i,mem i d=true→mem i T=false:=by
  induction d with
  |nil=>intro i hi;simp[mem]at hi
  | cons k l ih =>
    simp only[hit]at h
    cases hk:mem k T
    · rw[hk]at h
      intro i hi
      rw[mem_iff]at hi
      rcases List.mem_cons.1 hi with rfl|hi
      · exact hk
      · exact ih h i ((mem_iff i l).2 hi)
    · rw[hk]at h;simp at h
theorem Ha (n:Nat) (l:List Blk) (i:Nat):look (GY n l) i=if n≤i then l[i-n]? else none:=by
  induction l generalizing n with
  |nil=>simp[GY,look]
  | cons b l ih =>
    rw[GY,GK,ih]
    by_cases h:n=i
    · subst h;simp
    · by_cases h2:n≤i
      · rw[if_neg h,if_pos (by omega),if_pos h2]
        rw[show i-n=(i-(n+1))+1 from by omega];rfl
      · rw[if_neg h,if_neg (by omega),if_neg h2]
theorem Rb (u h:GV) (i:Nat):look (LV u h) i=match look u.reverse i with|some b=>some b|none=>look h i:=by
  induction u generalizing h with
  |nil=>simp[LV,look]
  | cons x l ih =>
    obtain⟨k,b⟩:=x
    rw[LV,ih,List.reverse_cons,GR,HX,GK]
    cases look l.reverse i with
    |some c=>simp
    |none=>by_cases hk:k=i<;>simp[hk,look]
theorem Ss (T:Kil) (s:List (Nat× SV)) (t:Nat):look (Tm T s) t=(look s t).map (SV.GW T):=by
  induction s with
  |nil=>rfl
  | cons x l ih =>
    obtain⟨k,v⟩:=x
    rw[Tm,GK,GK,ih]
    by_cases h:k=t<;>simp[h]
theorem N4 (T:Kil) (h h':GV) (e:NY T h=some h') (i:Nat):
    look h' i=cond (mem i T.1) none ((look h i).bind (Blk.GW T))∧(∀b,look h i=some b→mem i T.1=false→∃b',b.GW T=some b'):=by
  induction h generalizing h' with
  |nil=>simp only[NY,Option.some.injEq]at e;subst e;simp[look]
  | cons x l ih =>
    obtain⟨k,b⟩:=x
    simp only[NY]at e
    cases hk:mem k T.1
    · simp only[hk,cond_false,Option.bind_eq_some_iff,Option.some.injEq]at e
      obtain⟨b',hb,l',hl,rfl⟩:=e
      rw[GK,GK]
      by_cases hi:k=i
      · subst hi;simp[hk,hb]
      · simpa[hi]using ih l' hl
    · simp only[hk,cond_true]at e
      have:=ih h' e
      rw[GK]
      by_cases hi:k=i
      · subst hi;simp[hk]at this⊢;exact this
      · simpa[hi]using this
theorem HQ {α:Type} {l:List α} (h:isNil l=true):l=[]:=by cases l with|nil=>rfl|cons _ _=>exact nomatch h
theorem Su {T:Kil} (h:T.2=[]) (h1:∀i,mem i T.1=true→mem i T.2=true):T=([],[]):=by
  obtain⟨a,b⟩:=T
  simp only at h h1
  subst h
  cases a with
  |nil=>rfl
  |cons x l=>have:=h1 x (by simp[mem]);exact nomatch this
theorem N5 (i:Nat) (a b:List Nat):mem i (a++b)=(mem i a||mem i b):=by
  induction a with
  |nil=>simp[mem]
  |cons x l ih=>simp only[List.cons_append,mem,ih];cases Nat.beq x i<;>simp
theorem CR.Ih (c:CR):∀i,mem i c.kil.1=true→mem i c.kil.2=true:=fun i h=>by
  show mem i (c.gone++c.JO)=true
  rw[N5,show mem i c.gone=true from h];rfl
theorem Ki (T:Kil) (l:List SV) (j:Nat):(Iz T l)[j]? =(l[j]?).map (SV.GW T):=by
  induction l generalizing j with
  |nil=>rfl
  | cons v l ih => cases j with
    |zero=>rfl
    |succ j=>simpa[Iz]using ih j
theorem Ij (T:Kil) (l:List SV):(Iz T l).length=l.length:=by
  induction l with
  |nil=>rfl
  |cons v l ih=>simp[Iz,ih]
end lists
def Blk.JP:Blk→Blk→Prop
  |.box a,.box b=>a.length=b.length
  |.arr _ t xs,.arr _ t' ys=>t.sz=t'.sz∧xs.length=ys.length
  |_,_=>False
theorem Blk.Hz (b:Blk):b.JP b:=by cases b<;>simp[Blk.JP]
structure JF (T:Kil) (w:World) (H:GV) (pl:Pl) (w':World) (H':GV) (pl':Pl):Prop where
  k1:∀i B,look H i=some B→mem i T.1=false→∃B',look H' i=some B'∧B.JP B'∧pl'.hdr i=pl.hdr i
  k2:∀d p u,(∀i,mem i d=true→mem i T.2=false)→okd H pl d p→w.at? p=some u→okd H' pl' d p∧w'.at? p=some u
theorem GG.HL {T:Kil} {w w':World} {H H':GV} {pl pl':Pl} (hk:JF T w H pl w' H' pl') {v:SV} {u:Value} (h:GG w H pl v u):
    GG w' H' pl' (v.GW T) u:=by
  induction h with
  | r d x v h =>
    simp only[SV.GW]
    cases hd:hit T.2 d
    · exact .r d x v (h.frame fun p u hp hu=>hk.k2 d p u (H9 T.2 d hd) hp hu)
    · exact .undef _
  |H5=>exact .H5
  |K0=>exact .K0
  | own i sh t xs h =>
    simp only[SV.GW]
    cases hi:mem i T.1
    · obtain⟨B',h1,h2,h3⟩:=hk.k1 i _ h hi
      cases B' with
      |box cs=>exact h2.elim
      |arr sh' t' ys=>rw[←h3];exact .own i sh' t' ys h1
    · exact .undef _
  | sub i o n sh t xs a a' cap cap' h hh hn hc hc' ha =>
    simp only[SV.GW]
    cases hi:mem i T.1
    · obtain⟨B',h1,h2,h3⟩:=hk.k1 i _ h hi
      cases B' with
      |box cs=>exact h2.elim
      | arr sh' t' ys =>
        obtain⟨hz,hl⟩:=h2
        exact .sub i o n sh' t' ys a a' cap cap' h1 (by rw[h3,hh,hl]) (hl▸hn) hc hc' (by rw[←hz];exact ha)
    · exact .undef _
  | bsl i n cs a h hh =>
    simp only[SV.GW]
    cases hi:mem i T.1
    · obtain⟨B',h1,h2,h3⟩:=hk.k1 i _ h hi
      cases B' with
      |arr _ _ _=>exact h2.elim
      | box ds =>
        exact .bsl i n ds a h1 (h3.trans hh)
    · exact .undef _
  | MZ i o cs b k h hh =>
    simp only[SV.GW]
    cases hi:mem i T.1
    · obtain⟨B',h1,h2,h3⟩:=hk.k1 i _ h hi
      cases B' with
      |arr _ _ _=>exact h2.elim
      |box ds=>exact .MZ i o ds b k h1 (h3.trans hh)
    · exact .undef _
  | Mj i x o sh t xs b k n cap h hx hh =>
    simp only[SV.GW]
    cases hi:mem i T.1
    · obtain⟨B',h1,h2,h3⟩:=hk.k1 i _ h hi
      cases B' with
      |box cs=>exact h2.elim
      | arr sh' t' ys =>
        obtain⟨hz,hl⟩:=h2
        rw[hz]
        exact .Mj i x o sh' t' ys b k n cap h1 (hl▸hx) (h3.trans hh)
    · exact .undef _
  | inn i x c sh t xs b k n cap v h hx hc hh hok hv h1 =>
    simp only[SV.GW]
    cases hi:(mem i T.1||mem i T.2)
    · rw[Bool.or_eq_false_iff]at hi
      obtain⟨B',g1,g2,g3⟩:=hk.k1 i _ h hi.1
      have g4:=hk.k2 [i] _ v (fun j hj=>by
        simp only[mem]at hj
        cases hb:Nat.beq i j<;>simp only[hb,cond_true,cond_false]at hj
        · exact nomatch hj
        · rw[←Nat.eq_of_beq_eq_true hb];exact hi.2) hok hv
      cases B' with
      |box cs=>exact g2.elim
      | arr sh' t' ys =>
        obtain⟨hz,hl⟩:=g2
        rw[hz]at g4 hc
        exact .inn i x c sh' t' ys b k n cap v g1 (hl▸hx) hc (g3.trans hh) g4.1 g4.2 h1
    · exact .undef _
  | Jp d cs b o vs hc hr =>
    simp only[SV.GW]
    cases hd:hit T.2 d
    · exact .Jp d cs b o vs (fun j r hj=>hk.k2 d _ _ (H9 T.2 d hd) (hc j r hj).1 (hc j r hj).2)
        fun j r hj=>(hr j r hj).frame fun p u hp hu=>hk.k2 d p u (H9 T.2 d hd) hp hu
    · exact .undef _
  | agg cs vs hl h1 h ih =>
    refine .agg _ vs (by rw[Ij,hl]) h1 fun j x v hx hv=>?_
    rw[Ki]at hx
    obtain⟨y,hy,rfl⟩:=Option.map_eq_some_iff.1 hx
    exact ih j y v hy hv
  | tup cs vs hl h ih =>
    refine .tup _ vs (by rw[Ij,hl]) fun j x v hx hv=>?_
    rw[Ki]at hx
    obtain⟨y,hy,rfl⟩:=Option.map_eq_some_iff.1 hx
    exact ih j y v hy hv
  | fn f as bs us vs hl h hl' h' ih ih' =>
    refine .fn f _ _ us vs (by rw[Ij,hl]) (fun j x v hx hv=>?_) (by rw[Ij,hl']) fun j x v hx hv=>?_
    · rw[Ki]at hx
      obtain⟨y,hy,rfl⟩:=Option.map_eq_some_iff.1 hx
      exact ih j y v hy hv
    · rw[Ki]at hx
      obtain⟨y,hy,rfl⟩:=Option.map_eq_some_iff.1 hx
      exact ih' j y v hy hv
  |undef v=>exact .undef _
theorem P5 (d:List Nat):hit [] d=false:=by
  induction d with
  |nil=>rfl
  |cons k l ih=>simpa[hit,mem]using ih
mutual
theorem HA:(v:SV)→v.GW ([],[])=v
  |.r d x=>by simp[SV.GW,P5]
  |.own j=>by simp[SV.GW,mem]
  |.sub j o n=>by simp[SV.GW,mem]
  |.bsl j n=>by simp[SV.GW,mem]
  |.ptr j x o=>by simp[SV.GW,mem]
  |.inn j x c=>by simp[SV.GW,mem]
  |.Jp d cs=>by simp[SV.GW,P5]
  |.agg cs=>by simp[SV.GW,I5 cs]
  |.tup cs=>by simp[SV.GW,I5 cs]
  |.fn f a b=>by simp[SV.GW,I5 a,I5 b]
  |.H5=>by simp[SV.GW]
  |.K0=>by simp[SV.GW]
  |.undef=>by simp[SV.GW]
theorem I5:(l:List SV)→Iz ([],[]) l=l
  |[]=>rfl
  |v::l=>by simp[Iz,HA v,I5 l]
end
theorem GG.NC {w w':World} {H H':GV} {pl pl':Pl} (hk:JF ([],[]) w H pl w' H' pl') {v:SV} {u:Value} (h:GG w H pl v u):
    GG w' H' pl' v u:=by have:=h.HL hk;rwa [HA]at this
end Go.Proofs.Ev
namespace Go.Proofs.Ev
variable [Tok]
set_option linter.unusedSectionVars false
section
variable {w:World} {H:GV} {pl:Pl}
theorem I4.scalar {ok:Cell→Prop} {x:R} {v:Value} (h:I4 w ok x v) (ok':Cell→Prop) (hs:∀t xs,x≠.sl t xs):I4 w ok' x v:=by
  cases h with
  |int=>exact .int _ _
  |bool=>exact .bool _
  |str=>exact .str _
  |tok=>exact .tok _
  |KT v h=>exact .KT v h
  |sl t xs=>exact(hs t xs rfl).elim
theorem N6 {d:List Nat} {x:R} {v:Value} (h:I4 w (okd H pl d) x v):GG w H pl (mkR d x) v:=by
  cases x with
  |sl t xs=>exact .r _ _ _ h
  |_=>exact .r _ _ _ (h.scalar _ (fun _ _ e=>nomatch e))
theorem I4.L3 {ok:Cell→Prop} {x:R} {v:Value} (h:I4 w ok x v):one v=true:=by cases h<;>first|rfl|exact Tok.Vz _|assumption
def Iv (w:World) (H:GV) (pl:Pl) (s:List (Nat× SV)) (a:Act):Prop:=∀t v,look s t=some v→GG w H pl v (a.tmps.getD t undef)
theorem N7 {v:Value} {x:SV} (h:MT v=some x):GG w H pl x v:=by
  unfold MT at h
  split at h<;>first|(cases h)|skip
  · exact .r _ _ _ (.bool _)
  · exact .r _ _ _ (.int _ _)
  · exact .r _ _ _ (.str _)
  · exact .H5
  · exact .K0
theorem Pa:∀{vs:List Value} {l:List SV},O6 vs=some l→l.length=vs.length∧∀(j:Nat) (x:SV) (v:Value),l[j]? =some x→vs[j]? =some v→GG w H pl x v
  |[],l,h=>by cases h;exact⟨rfl,fun j x v hx _=>by simp at hx⟩
  | v :: vs, l, h => by
    simp only[O6,Option.bind_eq_some_iff,Option.some.injEq]at h
    obtain⟨x,hx,xs,hxs,rfl⟩:=h
    obtain⟨h1,h2⟩:=Pa hxs
    refine⟨by simp[h1],fun j y u hy hu=>?_⟩
    cases j with
    |zero=>simp at hy hu;subst hy hu;exact N7 hx
    |succ j=>exact h2 j y u (by simpa using hy) (by simpa using hu)
theorem Sv {v:Value} {x:SV} (h:MT v=some x):one v=true:=by
  unfold MT at h
  split at h<;>first|rfl|(cases h)
theorem Pb:∀{vs:List Value} {l:List SV},O6 vs=some l→∀(j:Nat) (v:Value),vs[j]? =some v→one v=true
  |[],l,_,j,v,hv=>by simp at hv
  | u :: vs, l, h, j, v, hv => by
    simp only[O6,Option.bind_eq_some_iff,Option.some.injEq]at h
    obtain⟨x,hx,xs,hxs,rfl⟩:=h
    cases j with
    |zero=>simp at hv;subst hv;exact Sv hx
    |succ j=>exact Pb hxs j v (by simpa using hv)
theorem M0 {v:Value} {x:SV} (h:Tn v=some x):GG w H pl x v:=by
  unfold Tn at h
  split at h
  · simp only[Option.bind_eq_some_iff,Option.some.injEq]at h
    obtain⟨l,hl,rfl⟩:=h
    obtain⟨h1,h2⟩:=Pa (w:=w) (H:=H) (pl:=pl) hl
    refine .agg _ _ (by simpa using h1) (fun j v hv=>?_) fun j x v hx hv=>h2 j x v hx (by simpa using hv)
    exact Pb hl j v (by simpa using hv)
  · exact N7 h
theorem G1 {s:List (Nat× SV)} {a:Act} (hs:Iv w H pl s a) {o:Operand} {x:SV} (h:opd s o=some x):GG w H pl x (a.eval o):=by
  cases o with
  |tmp t=>exact hs t x h
  |const v=>exact M0 h
  | func f =>
    simp only[opd,Option.some.injEq]at h;subst h
    exact .fn _ _ _ _ _ rfl (fun j x v hx _=>by simp at hx) rfl (fun j x v hx _=>by simp at hx)
  |global g=>exact nomatch h
theorem HF {P:Program} {T:TypeId} {i:TypeInfo} (h:P.info? T=some i) (w:World):(sizeOf T).run P w=.ok i.size w:=by
  simp[sizeOf,typeInfo,h]
theorem Hm {P:Program} {T:TypeId} {d:TypeDesc} (h:P.underlying T=some d) (w:World):(underlying T).run P w=.ok d w:=by
  simp[underlying,h]
theorem Jx {P:Program} {T:TypeId} {d:TypeDesc} (h:P.underlying T=some d) (w:World):(isAgg T).run P w=.ok (NZ P T) w:=by
  simp only[isAgg,Sem.run_bind,Hm h,Result.andThen_ok,NZ,h]
  cases d<;>rfl
theorem N8 (hr:Hq H pl w) {p:SV} {u:Value} (hp:GG w H pl p u) {cs:List SV} (h:JB H p=some cs):
    ∃b o,u=.pointer (some ⟨b,o,none⟩)∧∀(j:Nat) (x:SV),cs[j]? =some x→∃y,w.at? (b,o+j)=some y∧one y=true∧GG w H pl x y:=by
  cases hp with
  | Jp d cs' b o vs hc hr' =>
    simp only[JB,Option.some.injEq]at h;subst h
    refine⟨b,o,rfl,fun j x hx=>?_⟩
    rw[List.getElem?_map]at hx
    obtain⟨r,hj,rfl⟩:=Option.map_eq_some_iff.1 hx
    exact⟨vs j,(hc j r hj).2,(hr' j r hj).L3,N6 (hr' j r hj)⟩
  | MZ i o cs' b k hl hh =>
    simp only[JB,hl,Option.some.injEq]at h;subst h
    obtain⟨b',o',e,_,hc⟩:=hr.blk i _ hl
    rw[hh]at e;cases e
    refine⟨b,k+o,rfl,fun j x hx=>?_⟩
    rw[List.getElem?_drop]at hx
    obtain⟨y,h1,_,h3,h4⟩:=hc _ _ hx
    exact⟨y,by rw[Nat.add_assoc];exact h1,h3,h4⟩
  | Mj i x o sh t xs b k n cap hl hx hh =>
    simp only[JB,hl,Option.bind_eq_some_iff,Option.some.injEq]at h
    obtain⟨e,he,rfl⟩:=h
    have hb:=hr.blk i _ hl
    refine⟨b,k+(x*t.sz+o),rfl,fun j y hy=>?_⟩
    rw[List.getElem?_drop,List.getElem?_map]at hy
    obtain⟨r,hj,rfl⟩:=Option.map_eq_some_iff.1 hy
    have hcell:GM t xs x (o+j) r:=⟨e,he,hj⟩
    cases sh with
    | none =>
      obtain⟨R⟩:=hb
      obtain⟨a',cap',b',o',vs,fs,h1,h2,h3,h4,h5,h6,h7,h8,h9⟩:=R
      rw[hh]at h1;cases h1
      have hne:cap≠0:=by omega
      have h3:=h3.resolve_left hne
      cases h3
      refine⟨vs x (o+j),by rw[show k+(x*t.sz+o)+j=k+(x*t.sz+(o+j))from by omega];exact h5 _ _ _ hcell,?_,?_⟩
      · exact((h6 _ _ _ hcell).WX (ok:=fun _=>True) (fun _ _=>trivial)).L3
      · refine N6 ((h6 _ _ _ hcell).WX fun p hp=>⟨hr.ob i _ p hl ((h9 p).2 (.inr ⟨_,_,_,hcell,hp⟩)),fun i' B hB hm hf=>?_⟩)
        have hp':pl.fp i p:=(h9 p).2 (.inr ⟨_,_,_,hcell,hp⟩)
        have:=hr.dis i' i _ _ p hB hl hf hp'
        subst this
        have hbx:=hm (by simp[Vm,mem])
        rw[hl]at hB;cases hB
        simp[Blk.JE]at hbx
    | some d =>
      obtain⟨R⟩:=hb
      obtain⟨a',cap',b',o',vs,fs,h1,h2,h3,h4,h5,h6,h7,h8,h9⟩:=R
      rw[hh]at h1;cases h1
      have hne:cap≠0:=by omega
      have h3:=h3.resolve_left hne
      cases h3
      exact⟨vs x (o+j),by rw[show k+(x*t.sz+o)+j=k+(x*t.sz+(o+j))from by omega];exact h5 _ _ _ hcell,(h6 _ _ _ hcell).1.L3,N6 (h6 _ _ _ hcell).1⟩
  |_=>exact nomatch h
theorem Pc {α:Type} {n:Nat} {l m:List α} (h:takeN n l=some m):m.length=n∧∀j,j<n→m[j]? =l[j]? :=by
  unfold takeN at h
  cases hn:Nat.ble n l.length
  · simp[hn]at h
  · simp only[hn,cond_true,Option.some.injEq]at h
    subst h
    have:=Nat.le_of_ble_eq_true hn
    exact⟨by simp[this],fun j hj=>by simp[hj]⟩
theorem P6 {P:Program} {T:TypeId} {cs:List SV} {v:SV} (h:Jd P T cs=some v) (b o:Nat)
    (hc:∀(j:Nat) (x:SV),cs[j]? =some x→∃y,w.at? (b,o+j)=some y∧one y=true∧GG w H pl x y):
    ∃u,(loadVar T ⟨b,o,none⟩).run P w=.ok u w∧GG w H pl v u:=by
  simp only[Jd,Option.bind_eq_some_iff]at h
  obtain⟨d,hd,i,hi,l,hl,h⟩:=h
  obtain⟨h1,h2⟩:=Pc hl
  have hy:∀j,j<i.size→∃y x,l[j]? =some x∧w.at? (b,o+j)=some y∧GG w H pl x y:=fun j hj=>by
    have hx:l[j]? =some (l[j]'(by omega)):=List.getElem?_eq_getElem (by omega)
    obtain⟨y,h3,_,h5⟩:=hc j _ ((h2 j hj)▸hx)
    exact⟨y,_,hx,h3,h5⟩
  cases ha:NZ P T
  · simp only[ha,cond_false]at h
    match l,h1,hl,h,hy,h2 with
    | [x], h1, hl, h, hy, h2 =>
      simp only[Option.some.injEq]at h;subst h
      have h1:i.size=1:=h1.symm
      obtain⟨y,x',h3,h4,h5⟩:=hy 0 (by omega)
      simp at h3;subst h3
      refine⟨y,?_,h5⟩
      have h4:w.cell? ⟨b,o,none⟩=some y:=h4
      simp[loadVar,Jx hd,ha,h4]
  · simp only[ha,cond_true,Option.some.injEq]at h;subst h
    let f:Nat→Value:=fun j=>(w.at? (b,o+j)).getD undef
    have hf:∀j,j<i.size→w.cell? (Addr.add ⟨b,o,none⟩ j)=some (f j):=fun j hj=>by
      obtain⟨y,x,_,h4,_⟩:=hy j hj
      have e:Addr.add ⟨b,o,none⟩ j=⟨b,o+j,none⟩:=by
        unfold Addr.add;split
        · rename_i h0;subst h0;rfl
        · rfl
      rw[e]
      show w.at? (b,o+j)=some (f j)
      simp only[f,h4];rfl
    have hone:∀j,j<i.size→one (f j)=true:=fun j hj=>by
      have hx:l[j]? =some (l[j]'(by omega)):=List.getElem?_eq_getElem (by omega)
      obtain⟨y,h3,h4,_⟩:=hc j _ ((h2 j hj)▸hx)
      simp only[f,h3];exact h4
    refine⟨.agg ((List.range i.size).map f).toArray,?_,?_⟩
    · simp[loadVar,Jx hd,ha,HF hi,run_loadCells (P:=P) w ⟨b,o,none⟩ i.size f hf]
    · refine .agg _ _ (by simp[h1]) (fun j v hv=>by
        by_cases hj:j<i.size
        · have:v=f j:=by simp[hj]at hv;exact hv.symm
          rw[this];exact hone j hj
        · simp[hj]at hv) fun j x v hx hv=>?_
      have hj:j<i.size:=by have:=(List.getElem?_eq_some_iff.1 hx).1;omega
      obtain⟨y,x',h3,h4,h5⟩:=hy j hj
      rw[h3]at hx;cases hx
      have:v=f j:=by simp[hj]at hv;exact hv.symm
      subst this
      simp only[f,h4];exact h5
end
end Go.Proofs.Ev
