/- The evaluator over the model's code, and that it is sound: part 8. -/
import Derived.Test.YtpiopmjbcadfbaaGreatEvK7
import GoSem.ClaimChange
import Derived.Deep.Slices
import Derived.DataReads
import Derived.ProofKit
import Derived.WideKeyArgs
import Derived.IntWalk
set_option linter.unusedVariables false
set_option linter.unusedSimpArgs false
set_option linter.unusedSectionVars false
namespace Go.Proofs.Ev
open IntKind(i64 u8 u64)
section
variable [Tok]
def R.ty:R->Ty
 |.int k _=>.int k
 |.bool _=>.bool
 |.str _=>.str
 |.sl t _=>.sl t
 |.tok _=>.tok
 |.nz=>.st .shape
inductive R.Wf:R->Prop
 |int (k:IntKind) (n:Int) (h:(Lit.int k n).wf=true):R.Wf (.int k n)
 |bool (b:Bool):R.Wf (.bool b)
 |str (l:List UInt8) (h:l.length<=maxLen):R.Wf (.str l)
 |sl (t:Ty) (xs:List t.El) (h:∀i j r,aD t xs i j r->R.Wf r) (hl:xs.length<=maxLen):R.Wf (.sl t xs)
theorem lf (t:Ty) (r:R) (h:r.ty=t) (hs:∀s,t≠.st s):∃x,t.xQ r=some x:=by
 subst h
 cases r with
 |int k n=>exact⟨n,by simp[Ty.xQ,R.ty]⟩
 |bool b=>exact⟨b,by simp[Ty.xQ,R.ty]⟩
 |str l=>exact⟨l,by simp[Ty.xQ,R.ty]⟩
 |sl t xs=>exact⟨xs,by simp[Ty.xQ,R.ty]⟩
 |tok n=>exact⟨n,by simp[Ty.xQ,R.ty]⟩
 |nz=>exact(hs .shape rfl).elim
theorem Sd {r:R} (h:r.ty=.tok):∃n,r=.tok n:=by cases r<;>simp_all [R.ty]
theorem cF {r:R} {k:IntKind} (h:r.ty=.int k):∃n,r=.int k n:=by cases r<;>simp_all [R.ty]
theorem UH {r:R} (h:r.ty=.bool):∃n,r=.bool n:=by cases r<;>simp_all [R.ty]
theorem vy {r:R} {t:Ty} (h:r.ty=.sl t):∃xs,r=.sl t xs:=by
 cases r with
 |sl t' xs=>cases h;exact⟨xs,rfl⟩
 |_=>cases h
theorem IV:(rs:List R)->rs.map R.ty=S.tys .shape->∃x,FH rs=some x
 |[x0,x1,x2],h=>by
  simp only[S.tys,Wm,Xt,WS,and_true]at h;obtain⟨h0,h1,h2⟩:=h;obtain⟨_,rfl⟩:=cF h0;obtain⟨_,rfl⟩:=cF h1;obtain⟨_,rfl⟩:=cF h2
  simp[FH,R.asI,R.asB,R.asL]
 |[],h=>by have:=congrArg List.length h;simp[S.tys]at this
 |[_],h=>by have:=congrArg List.length h;simp[S.tys]at this
 |[_,_],h=>by have:=congrArg List.length h;simp[S.tys]at this
 |_::_::_::_::_,h=>by have:=congrArg List.length h;simp[S.tys]at this
theorem GQ:(rs:List R)->rs.map R.ty=S.tys .en->∃x,zO rs=some x
 |[x0,x1,x2,x3],h=>by
  simp only[S.tys,Wm,Xt,WS,and_true]at h;obtain⟨h0,h1,h2,h3⟩:=h;obtain⟨_,rfl⟩:=cF h0;obtain⟨_,rfl⟩:=cF h1;obtain⟨_,rfl⟩:=cF h2;obtain⟨_,rfl⟩:=vy h3
  simp[zO,R.asI,R.asB,R.asL]
 |[],h=>by have:=congrArg List.length h;simp[S.tys]at this
 |[_],h=>by have:=congrArg List.length h;simp[S.tys]at this
 |[_,_],h=>by have:=congrArg List.length h;simp[S.tys]at this
 |[_,_,_],h=>by have:=congrArg List.length h;simp[S.tys]at this
 |_::_::_::_::_::_,h=>by have:=congrArg List.length h;simp[S.tys]at this
theorem IW:(rs:List R)->rs.map R.ty=S.tys .aP->∃x,FJ rs=some x
 |[x0,x1,x2,x3,x4,x5,x6,x7,x8],h=>by
  simp only[S.tys,Wm,Xt,WS,and_true]at h;obtain⟨h0,h1,h2,h3,h4,h5,h6,h7,h8⟩:=h;obtain⟨_,rfl⟩:=cF h0;obtain⟨_,rfl⟩:=cF h1;obtain⟨_,rfl⟩:=cF h2;obtain⟨_,rfl⟩:=cF h3;obtain⟨_,rfl⟩:=cF h4;obtain⟨_,rfl⟩:=cF h5;obtain⟨_,rfl⟩:=cF h6;obtain⟨_,rfl⟩:=vy h7;obtain⟨_,rfl⟩:=vy h8
  simp[FJ,R.asI,R.asB,R.asL]
 |[],h=>by have:=congrArg List.length h;simp[S.tys]at this
 |[_],h=>by have:=congrArg List.length h;simp[S.tys]at this
 |[_,_],h=>by have:=congrArg List.length h;simp[S.tys]at this
 |[_,_,_],h=>by have:=congrArg List.length h;simp[S.tys]at this
 |[_,_,_,_],h=>by have:=congrArg List.length h;simp[S.tys]at this
 |[_,_,_,_,_],h=>by have:=congrArg List.length h;simp[S.tys]at this
 |[_,_,_,_,_,_],h=>by have:=congrArg List.length h;simp[S.tys]at this
 |[_,_,_,_,_,_,_],h=>by have:=congrArg List.length h;simp[S.tys]at this
 |[_,_,_,_,_,_,_,_],h=>by have:=congrArg List.length h;simp[S.tys]at this
 |_::_::_::_::_::_::_::_::_::_::_,h=>by have:=congrArg List.length h;simp[S.tys]at this
theorem IX:(rs:List R)->rs.map R.ty=S.tys .model->∃x,FK rs=some x
 |[x0,x1,x2,x3],h=>by
  simp only[S.tys,Wm,Xt,WS,and_true]at h;obtain⟨h0,h1,h2,h3⟩:=h;obtain⟨_,rfl⟩:=cF h0;obtain⟨_,rfl⟩:=cF h1;obtain⟨_,rfl⟩:=cF h2;obtain⟨_,rfl⟩:=vy h3
  simp[FK,R.asI,R.asB,R.asL]
 |[],h=>by have:=congrArg List.length h;simp[S.tys]at this
 |[_],h=>by have:=congrArg List.length h;simp[S.tys]at this
 |[_,_],h=>by have:=congrArg List.length h;simp[S.tys]at this
 |[_,_,_],h=>by have:=congrArg List.length h;simp[S.tys]at this
 |_::_::_::_::_::_,h=>by have:=congrArg List.length h;simp[S.tys]at this
theorem LA:(rs:List R)->rs.map R.ty=S.tys .task->∃x,Mw rs=some x
 |[x0,x1,x2,x3,x4],h=>by
  simp only[S.tys,Wm,Xt,WS,and_true]at h;obtain⟨h0,h1,h2,h3,h4⟩:=h;obtain⟨_,rfl⟩:=cF h0;obtain⟨_,rfl⟩:=vy h1;obtain⟨_,rfl⟩:=cF h2;obtain⟨_,rfl⟩:=cF h3;obtain⟨_,rfl⟩:=cF h4
  simp[Mw,R.asI,R.asB,R.asL]
 |[],h=>by have:=congrArg List.length h;simp[S.tys]at this
 |[_],h=>by have:=congrArg List.length h;simp[S.tys]at this
 |[_,_],h=>by have:=congrArg List.length h;simp[S.tys]at this
 |[_,_,_],h=>by have:=congrArg List.length h;simp[S.tys]at this
 |[_,_,_,_],h=>by have:=congrArg List.length h;simp[S.tys]at this
 |_::_::_::_::_::_::_,h=>by have:=congrArg List.length h;simp[S.tys]at this
theorem EK:(rs:List R)->rs.map R.ty=S.tys .request->∃x,uT rs=some x
 |[x0,x1,x2,x3,x4,x5,x6,x7,x8,x9,x10,x11,x12],h=>by
  simp only[S.tys,Wm,Xt,WS,and_true]at h;obtain⟨h0,h1,h2,h3,h4,h5,h6,h7,h8,h9,h10,h11,h12⟩:=h;obtain⟨_,rfl⟩:=cF h0;obtain⟨_,rfl⟩:=cF h1;obtain⟨_,rfl⟩:=cF h2;obtain⟨_,rfl⟩:=cF h3;obtain⟨_,rfl⟩:=cF h4;obtain⟨_,rfl⟩:=vy h5;obtain⟨_,rfl⟩:=cF h6;obtain⟨_,rfl⟩:=cF h7;obtain⟨_,rfl⟩:=cF h8;obtain⟨_,rfl⟩:=cF h9;obtain⟨_,rfl⟩:=vy h10;obtain⟨_,rfl⟩:=cF h11;obtain⟨_,rfl⟩:=cF h12
  simp[uT,R.asI,R.asB,R.asL]
 |[],h=>by have:=congrArg List.length h;simp[S.tys]at this
 |[_],h=>by have:=congrArg List.length h;simp[S.tys]at this
 |[_,_],h=>by have:=congrArg List.length h;simp[S.tys]at this
 |[_,_,_],h=>by have:=congrArg List.length h;simp[S.tys]at this
 |[_,_,_,_],h=>by have:=congrArg List.length h;simp[S.tys]at this
 |[_,_,_,_,_],h=>by have:=congrArg List.length h;simp[S.tys]at this
 |[_,_,_,_,_,_],h=>by have:=congrArg List.length h;simp[S.tys]at this
 |[_,_,_,_,_,_,_],h=>by have:=congrArg List.length h;simp[S.tys]at this
 |[_,_,_,_,_,_,_,_],h=>by have:=congrArg List.length h;simp[S.tys]at this
 |[_,_,_,_,_,_,_,_,_],h=>by have:=congrArg List.length h;simp[S.tys]at this
 |[_,_,_,_,_,_,_,_,_,_],h=>by have:=congrArg List.length h;simp[S.tys]at this
 |[_,_,_,_,_,_,_,_,_,_,_],h=>by have:=congrArg List.length h;simp[S.tys]at this
 |[_,_,_,_,_,_,_,_,_,_,_,_],h=>by have:=congrArg List.length h;simp[S.tys]at this
 |_::_::_::_::_::_::_::_::_::_::_::_::_::_::_,h=>by have:=congrArg List.length h;simp[S.tys]at this
theorem LB:(rs:List R)->rs.map R.ty=S.tys .step->∃x,Mx rs=some x
 |[x0,x1,x2,x3,x4,x5,x6,x7],h=>by
  simp only[S.tys,Wm,Xt,WS,and_true]at h;obtain⟨h0,h1,h2,h3,h4,h5,h6,h7⟩:=h;obtain⟨_,rfl⟩:=cF h0;obtain⟨_,rfl⟩:=cF h1;obtain⟨_,rfl⟩:=cF h2;obtain⟨_,rfl⟩:=vy h3;obtain⟨_,rfl⟩:=cF h4;obtain⟨_,rfl⟩:=cF h5;obtain⟨_,rfl⟩:=cF h6;obtain⟨_,rfl⟩:=vy h7
  simp[Mx,R.asI,R.asB,R.asL]
 |[],h=>by have:=congrArg List.length h;simp[S.tys]at this
 |[_],h=>by have:=congrArg List.length h;simp[S.tys]at this
 |[_,_],h=>by have:=congrArg List.length h;simp[S.tys]at this
 |[_,_,_],h=>by have:=congrArg List.length h;simp[S.tys]at this
 |[_,_,_,_],h=>by have:=congrArg List.length h;simp[S.tys]at this
 |[_,_,_,_,_],h=>by have:=congrArg List.length h;simp[S.tys]at this
 |[_,_,_,_,_,_],h=>by have:=congrArg List.length h;simp[S.tys]at this
 |[_,_,_,_,_,_,_],h=>by have:=congrArg List.length h;simp[S.tys]at this
 |_::_::_::_::_::_::_::_::_::_,h=>by have:=congrArg List.length h;simp[S.tys]at this
theorem IY:(rs:List R)->rs.map R.ty=S.tys .event->∃x,FL rs=some x
 |[x0,x1,x2,x3,x4,x5,x6],h=>by
  simp only[S.tys,Wm,Xt,WS,and_true]at h;obtain⟨h0,h1,h2,h3,h4,h5,h6⟩:=h;obtain⟨_,rfl⟩:=cF h0;obtain⟨_,rfl⟩:=cF h1;obtain⟨_,rfl⟩:=cF h2;obtain⟨_,rfl⟩:=cF h3;obtain⟨_,rfl⟩:=cF h4;obtain⟨_,rfl⟩:=cF h5;obtain⟨_,rfl⟩:=vy h6
  simp[FL,R.asI,R.asB,R.asL]
 |[],h=>by have:=congrArg List.length h;simp[S.tys]at this
 |[_],h=>by have:=congrArg List.length h;simp[S.tys]at this
 |[_,_],h=>by have:=congrArg List.length h;simp[S.tys]at this
 |[_,_,_],h=>by have:=congrArg List.length h;simp[S.tys]at this
 |[_,_,_,_],h=>by have:=congrArg List.length h;simp[S.tys]at this
 |[_,_,_,_,_],h=>by have:=congrArg List.length h;simp[S.tys]at this
 |[_,_,_,_,_,_],h=>by have:=congrArg List.length h;simp[S.tys]at this
 |_::_::_::_::_::_::_::_::_,h=>by have:=congrArg List.length h;simp[S.tys]at this
theorem IZ:(rs:List R)->rs.map R.ty=S.tys .entry->∃x,FM rs=some x
 |[x0,x1,x2,x3,x4,x5,x6,x7,x8,x9,x10,x11,x12],h=>by
  simp only[S.tys,Wm,Xt,WS,and_true]at h;obtain⟨h0,h1,h2,h3,h4,h5,h6,h7,h8,h9,h10,h11,h12⟩:=h;obtain⟨_,rfl⟩:=cF h0;obtain⟨_,rfl⟩:=cF h1;obtain⟨_,rfl⟩:=cF h2;obtain⟨_,rfl⟩:=cF h3;obtain⟨_,rfl⟩:=vy h4;obtain⟨_,rfl⟩:=cF h5;obtain⟨_,rfl⟩:=cF h6;obtain⟨_,rfl⟩:=cF h7;obtain⟨_,rfl⟩:=vy h8;obtain⟨_,rfl⟩:=cF h9;obtain⟨_,rfl⟩:=cF h10;obtain⟨_,rfl⟩:=cF h11;obtain⟨_,rfl⟩:=UH h12
  simp[FM,R.asI,R.asB,R.asL]
 |[],h=>by have:=congrArg List.length h;simp[S.tys]at this
 |[_],h=>by have:=congrArg List.length h;simp[S.tys]at this
 |[_,_],h=>by have:=congrArg List.length h;simp[S.tys]at this
 |[_,_,_],h=>by have:=congrArg List.length h;simp[S.tys]at this
 |[_,_,_,_],h=>by have:=congrArg List.length h;simp[S.tys]at this
 |[_,_,_,_,_],h=>by have:=congrArg List.length h;simp[S.tys]at this
 |[_,_,_,_,_,_],h=>by have:=congrArg List.length h;simp[S.tys]at this
 |[_,_,_,_,_,_,_],h=>by have:=congrArg List.length h;simp[S.tys]at this
 |[_,_,_,_,_,_,_,_],h=>by have:=congrArg List.length h;simp[S.tys]at this
 |[_,_,_,_,_,_,_,_,_],h=>by have:=congrArg List.length h;simp[S.tys]at this
 |[_,_,_,_,_,_,_,_,_,_],h=>by have:=congrArg List.length h;simp[S.tys]at this
 |[_,_,_,_,_,_,_,_,_,_,_],h=>by have:=congrArg List.length h;simp[S.tys]at this
 |[_,_,_,_,_,_,_,_,_,_,_,_],h=>by have:=congrArg List.length h;simp[S.tys]at this
 |_::_::_::_::_::_::_::_::_::_::_::_::_::_::_,h=>by have:=congrArg List.length h;simp[S.tys]at this
theorem LC:(rs:List R)->rs.map R.ty=S.tys .O8->∃x,My rs=some x
 |[x0,x1,x2],h=>by
  simp only[S.tys,Wm,Xt,WS,and_true]at h;obtain⟨h0,h1,h2⟩:=h;obtain⟨_,rfl⟩:=cF h0;obtain⟨_,rfl⟩:=cF h1;obtain⟨_,rfl⟩:=cF h2
  simp[My,R.asI,R.asB,R.asL]
 |[],h=>by have:=congrArg List.length h;simp[S.tys]at this
 |[_],h=>by have:=congrArg List.length h;simp[S.tys]at this
 |[_,_],h=>by have:=congrArg List.length h;simp[S.tys]at this
 |_::_::_::_::_,h=>by have:=congrArg List.length h;simp[S.tys]at this
theorem bL {α β:Type} {f:α->β} {rs:List α} {t:β} {ts:List β} (h:rs.map f=t::ts):∃r rs',rs=r::rs'/\f r=t/\rs'.map f=ts:=by
 cases rs with
 |nil=>cases h
 |cons r rs=>grind
theorem I0 (rs:List R) (h:rs.map R.ty=S.tys .dn):∃x,Jx rs=some x:=by
 obtain⟨a0,rs,rfl,g0,h⟩:=bL h;obtain⟨a1,rs,rfl,g1,h⟩:=bL h;obtain⟨a2,rs,rfl,g2,h⟩:=bL h;obtain⟨a3,rs,rfl,g3,h⟩:=bL h;obtain⟨a4,rs,rfl,g4,h⟩:=bL h;rw[List.map_eq_nil_iff]at h;subst h;obtain⟨x0,rfl⟩:=cF g0;obtain⟨x1,rfl⟩:=Sd g1;obtain⟨x2,rfl⟩:=cF g2;obtain⟨x3,rfl⟩:=cF g3;obtain⟨x4,rfl⟩:=cF g4;exact⟨_,rfl⟩
theorem Cs (rs:List R) (h:rs.map R.ty=S.tys .jx):∃x,uU rs=some x:=by
 obtain⟨a0,rs,rfl,g0,h⟩:=bL h;obtain⟨a1,rs,rfl,g1,h⟩:=bL h;obtain⟨a2,rs,rfl,g2,h⟩:=bL h;obtain⟨a3,rs,rfl,g3,h⟩:=bL h;obtain⟨a4,rs,rfl,g4,h⟩:=bL h;obtain⟨a5,rs,rfl,g5,h⟩:=bL h;obtain⟨a6,rs,rfl,g6,h⟩:=bL h;obtain⟨a7,rs,rfl,g7,h⟩:=bL h;obtain⟨a8,rs,rfl,g8,h⟩:=bL h;obtain⟨a9,rs,rfl,g9,h⟩:=bL h;obtain⟨a10,rs,rfl,g10,h⟩:=bL h;obtain⟨a11,rs,rfl,g11,h⟩:=bL h;obtain⟨a12,rs,rfl,g12,h⟩:=bL h;rw[List.map_eq_nil_iff]at h;subst h;obtain⟨x0,rfl⟩:=cF g0;obtain⟨x1,rfl⟩:=cF g1;obtain⟨x2,rfl⟩:=cF g2;obtain⟨x3,rfl⟩:=cF g3;obtain⟨x4,rfl⟩:=cF g4;obtain⟨x5,rfl⟩:=Sd g5;obtain⟨x6,rfl⟩:=cF g6;obtain⟨x7,rfl⟩:=cF g7;obtain⟨x8,rfl⟩:=cF g8;obtain⟨x9,rfl⟩:=cF g9;obtain⟨x10,rfl⟩:=Sd g10;obtain⟨x11,rfl⟩:=cF g11;obtain⟨x12,rfl⟩:=cF g12;exact⟨_,rfl⟩
theorem EL (t:Ty) (rs:List R) (h:rs.map R.ty=t.tys):∃x,t.fc rs=some x:=by
 have single:∀{t:Ty},(∀s,t≠.st s)->t.tys=[t]->rs.map R.ty=t.tys->∃r,rs=[r]/\r.ty=t:=λ{t} _ e h=>by
  rw[e]at h
  match rs,h with
  |[r],h=>grind
 have key:∀s:S,rs.map R.ty=s.tys->∃x,s.fc rs=some x:=λs h=>by
  cases s with
  |shape=>exact IV rs h
  |en=>exact GQ rs h
  |aP=>exact IW rs h
  |model=>exact IX rs h
  |task=>exact LA rs h
  |request=>exact EK rs h
  |step=>exact LB rs h
  |event=>exact IY rs h
  |entry=>exact IZ rs h
  |O8=>exact LC rs h
  |dn=>exact I0 rs h
  |jx=>exact Cs rs h
 cases t with
 |st s=>exact key s h
 |ho s=>
  obtain⟨x,hx⟩:=key s h
  exact⟨some x,by show(s.fc rs).bind _=_;rw[hx];rfl⟩
 |hl t=>
  have h:rs.map R.ty=[.sl t]:=h;obtain⟨r,rs',rfl,hr,h⟩:=List.map_eq_cons_iff.1 h;rw[List.map_eq_nil_iff]at h;subst h;obtain⟨xs,rfl⟩:=vy hr
  exact⟨some xs,by show(if h:t=t then some (some (h▸xs))else none)=_;rw[dif_pos rfl];rfl⟩
 |tok=>obtain⟨r,rfl,e⟩:=single (t:=.tok) (λs h=>nomatch h) rfl h;exact lf _ r e (λs h=>nomatch h)
 |int k=>obtain⟨r,rfl,e⟩:=single (t:=.int k) (λs h=>nomatch h) rfl h;exact lf _ r e (λs h=>nomatch h)
 |bool=>obtain⟨r,rfl,e⟩:=single (t:=.bool) (λs h=>nomatch h) rfl h;exact lf _ r e (λs h=>nomatch h)
 |str=>obtain⟨r,rfl,e⟩:=single (t:=.str) (λs h=>nomatch h) rfl h;exact lf _ r e (λs h=>nomatch h)
 |sl t=>obtain⟨r,rfl,e⟩:=single (t:=.sl t) (λs h=>nomatch h) rfl h;exact lf _ r e (λs h=>nomatch h)
def Kk (P:Program) (g:TypeId->Option (List Ty)):Nat->List Field->Option (List Ty)
 |_,[]=>some []
 |off,f::l=>cond (Nat.beq f.offset off) ((g f.type).bind λts=>cond (Nat.beq (P.cellsOf f.type) ts.length) ((Kk P g (off+ts.length) l).bind λus=>some (ts++us)) none) none
def za (P:Program) (tt:TT):Nat->TypeId->Option (List Ty)
 |0,_=>none
 |n+1,T=>match P.underlying T with
  |some (.int k)=>some [.int k]
  |some .bool=>some [.bool]
  |some .string=>some [.str]
  |some (.slice e)=>(tt e).bind λt=>(za P tt n e).bind λts=>if ts=t.tys/\P.cellsOf e=ts.length then some [.sl t]else none
  |some (.struct fs)=>(Kk P (za P tt n) 0 fs.toList).bind λts=>cond (Nat.beq (P.cellsOf T) ts.length) (some ts) none
  |_=>none
def nR (w:World) (ts:List Ty) (cs:List Value):Prop:=
 ∃rs:List R,rs.map R.ty=ts/\rs.length=cs.length/\∀(j:Nat) (r:R) (v:Value),rs[j]? =some r->cs[j]? =some v->kj w (λ_=>True) r v/\r.Wf
theorem nR.one {w:World} {r:R} {v:Value} (h:kj w (λ_=>True) r v) (hw:r.Wf):nR w [r.ty] [v]:=
  ⟨[r],rfl,rfl,λj r' v' h1 h2=>by
    cases j with
    |zero=>grind
    |succ j=>simp at h1⟩
theorem nR.append {w:World} {ts us:List Ty} {cs ds:List Value} (h:nR w ts cs) (g:nR w us ds):nR w (ts++us) (cs++ds):=by
 obtain⟨rs,h1,h2,h3⟩:=h;obtain⟨qs,g1,g2,g3⟩:=g;refine⟨rs++qs,by simp[h1,g1],by simp[h2,g2],λj r v hr hv=>?_⟩;grind
section
variable {H:Type} {enc:TypeId× Value->H} {P:Program} {tt:TT} {w:World} {base:Nat} {sp:Nat->Bool} {held:Bool}
theorem AP {g:TypeId->Option (List Ty)} {F:TypeId->List Value->Option (DataW H× List MemPlace)} (hg:∀T cs x ts,F T cs=some x->g T=some ts->cs.length=P.cellsOf T->nR w ts cs) (cs:List Value):
  ∀(fs:List Field) (off:Nat) (ts:List Ty) (xs:List (DataW H× List MemPlace)),Kk P g off fs=some ts->fs.mapM (λf=>F f.type ((cs.drop f.offset).take (P.cellsOf f.type)))=some xs->off+ts.length=cs.length->nR w ts (cs.drop off)
 |[],off,ts,xs,h,_,hl=>by
  cases h;have:cs.drop off=[]:=List.drop_eq_nil_of_le (by simp at hl;omega)
  rw[this];exact⟨[],rfl,rfl,λj r v hr _=>by simp at hr⟩
 |f::fs,off,ts,xs,h,hm,hl=>by
  simp only[Kk]at h;cases ho:Nat.beq f.offset off<;>simp only[ho,cond_true,cond_false,An]at h
  ·cases h
  have ho:=So ho;obtain⟨us,hu,h⟩:=h;cases hc:Nat.beq (P.cellsOf f.type) us.length<;>simp only[hc,cond_true,cond_false,An,It]at h
  ·cases h
  have hc:=So hc;obtain⟨vs,hv,rfl⟩:=h;rw[List.mapM_cons]at hm
  cases hF:F f.type ((cs.drop f.offset).take (P.cellsOf f.type))with
  |none=>grind
  |some y=>
   cases hR:fs.mapM (λf=>F f.type ((cs.drop f.offset).take (P.cellsOf f.type)))with
   |none=>grind
   |some ys=>
    rw[VR]at hl;have h1:=hg _ _ _ _ hF hu (by rw[Wn,W9];omega);have h2:=AP hg cs fs (off+us.length) vs ys hv hR (by omega);rw[ho,hc]at h1;have:=h1.append h2;rwa [<-List.drop_drop,W6]at this
theorem trod_int {fuel:Nat} {T:TypeId} {cs:List Value} {x:DataW H× List MemPlace} {k:IntKind} (hu:P.underlying T=some (.int k)) (h:DataW.trod enc P w base sp held fuel T cs=some x):∃n,cs=[.int k n]/\(Lit.int k n).wf=true:=by
 cases fuel with
 |zero=>cases h
 |succ fuel=>
  unfold DataW.trod at h;grind
theorem trod_bool {fuel:Nat} {T:TypeId} {cs:List Value} {x:DataW H× List MemPlace} (hu:P.underlying T=some .bool) (h:DataW.trod enc P w base sp held fuel T cs=some x):∃b,cs=[.bool b]:=by
 cases fuel with
 |zero=>cases h
 |succ fuel=>
  unfold DataW.trod at h;grind
theorem Qh {fuel:Nat} {T:TypeId} {cs:List Value} {x:DataW H× List MemPlace} (hu:P.underlying T=some .string) (h:DataW.trod enc P w base sp held fuel T cs=some x):∃s,cs=[.string s]/\s.size<=maxLen:=by
 cases fuel with
 |zero=>cases h
 |succ fuel=>
  unfold DataW.trod at h;grind
theorem I1 {fuel:Nat} {T:TypeId} {cs:List Value} {x:DataW H× List MemPlace} {fs:Array Field} (hu:P.underlying T=some (.struct fs)) (h:DataW.trod enc P w base sp held fuel T cs=some x):
  ∃fuel' xs,cs.length=P.cellsOf T/\fs.toList.mapM (λf=>DataW.trod enc P w base sp held fuel' f.type ((cs.drop f.offset).take (P.cellsOf f.type)))=some xs:=by
 cases fuel with
 |zero=>cases h
 |succ fuel=>
  unfold DataW.trod at h;simp only[hu]at h;split at h
  ·rename_i hl;obtain⟨xs,hx,_⟩:=VW.1 h;exact⟨fuel,xs,hl,hx⟩
  ·cases h
theorem AQ {α:Type} {Q:Nat->α->Prop}:∀(n:Nat),(∀i,i<n->∃x,Q i x)->∃l:List α,l.length=n/\∀(i:Nat) (x:α),l[i]? =some x->Q i x
 |0,_=>⟨[],rfl,λi x h=>by simp at h⟩
 |n+1,h=>by
  obtain⟨l,h1,h2⟩:=AQ n λi hi=>h i (by omega);obtain⟨x,hx⟩:=h n (by omega);refine⟨l++[x],by simp[h1],λi y hy=>?_⟩;grind
theorem NZ {a:Addr} {v:Value} (h:w.cell? a=some v):a.spot=none:=by
 unfold World.cell? at h
 cases hs:a.spot with
 |none=>rfl
 |some s=>grind
theorem Dp {n j:Nat} (h:j<n):(List.range n)[j]? =some j:=by rw[On (by simpa using h)];simp
theorem xt:∀(n fuel:Nat) (T:TypeId) (cs:List Value) (x:DataW H× List MemPlace) (ts:List Ty),DataW.trod enc P w base sp held fuel T cs=some x->za P tt n T=some ts->nR w ts cs
 |0,_,_,_,_,_,_,h=>nomatch h
 |n+1,fuel,T,cs,x,ts,h,hf=>by
  unfold za at hf;split at hf
  ·rename_i k hu;cases hf;obtain⟨m,rfl,hw⟩:=trod_int hu h;exact nR.one (.int k m) (.int k m hw)
  ·rename_i hu;cases hf;obtain⟨b,rfl⟩:=trod_bool hu h;exact nR.one (.bool b) (.bool b)
  ·rename_i hu;cases hf;obtain⟨s,rfl,hsl⟩:=Qh hu h
   have:s=⟨s.data.toList.toArray⟩:=by simp
   rw[this];exact nR.one (.str s.data.toList) (.str _ (by simpa using hsl))
  ·rename_i e hu;simp only[An]at hf;obtain⟨t,ht,us,hus,hf⟩:=hf;split at hf
   ·rename_i hc;obtain⟨rfl,hsz⟩:=hc;cases hf;rw[Ty.wT]at hsz
    rcases DataW.trod_slice hu h with⟨rfl,_⟩|⟨a,len,cap,elems,rest,n',_,rfl,_,hb,hlc,jt,hlen,hel,_⟩
    ·exact nR.one (.sl t [] none 0 0 0 (λ_ _=>undef) (Wc _) (.inl rfl) (λi j r ⟨x,hx,_⟩=>by simp at hx) (λi j r ⟨x,hx,_⟩=>by simp at hx)) (.sl t [] (λi j r ⟨x,hx,_⟩=>by simp at hx) (Wy _))
    ·subst hlen
     have VD:∀i,i<elems.length->∃x:t.El,∃ds,w.cells? base (a.add (i*P.cellsOf e)) (P.cellsOf e)=some ds/\(t.cells x).length=ds.length/\
       ∀(j:Nat) (r:R) (v:Value),(t.cells x)[j]? =some r->ds[j]? =some v->kj w (λ_=>True) r v/\r.Wf:=λi hi=>by
      have:=hel i hi;rw[On hi]at this;obtain⟨ds,h1,h2⟩:=An.1 this;obtain⟨rs,g1,g2,g3⟩:=xt n n' e ds _ _ h2 hus;obtain⟨x,hx⟩:=EL t rs g1;have hc:=Ty.cQ t rs x hx;grind
     obtain⟨xs,hxl,hxs⟩:=AQ elems.length VD
     have key:∀i j r,aD t xs i j r->a.spot=none/\∃v,w.at? (a.block,a.off+(i*t.sz+j))=some v/\kj w (λ_=>True) r v/\r.Wf:=λi j r ⟨x,hx,hr⟩=>by
      obtain⟨ds,h1,h2,h3⟩:=hxs i x hx
      have hj:j<ds.length:=by rw[<-h2];exact(Of.1 hr).1
      unfold World.cells? at h1;rw[if_pos (by unfold Addr.add;split<;>exact hb)]at h1;have hl:=mapM_some_length h1;rw[List.length_range]at hl;have hg:=mapM_some_get h1 j j (Dp (by omega));rw[On hj]at hg
      have hsp:a.spot=none:=by
       have hi:i<xs.length:=(Of.1 hx).1;obtain⟨es,q1,q2,_⟩:=hxs 0 _ (On (by omega));have Mp:=t.ia;rw[Ty.cD]at q2;unfold World.cells? at q1;rw[if_pos (by unfold Addr.add;split<;>exact hb)]at q1;have h0:=mapM_some_get q1 0 0 (Dp (by omega));rw[On (by omega)]at h0;have hs:=NZ h0;simpa[Addr.add]using hs
      refine⟨hsp,ds[j],?_,h3 j r _ hr (On hj)⟩
      have:(a.add (i*P.cellsOf e)).add j=⟨a.block,a.off+(i*t.sz+j),none⟩:=by
       obtain⟨b0,o0,s0⟩:=a;simp only at hsp;subst hsp;rw[hsz];simp only[Addr.add];grind
      rw[this]at hg;exact hg
     rw[<-hxl]
     have Ul:kj w (λ_=>True) (.sl t xs) (.slice (some a) xs.length cap):=by
      refine .sl t xs (some a) cap a.block a.off (λi j=>(w.at? (a.block,a.off+(i*t.sz+j))).getD undef) (by omega) ?_ (λi j r hc=>?_) (λi j r hc=>?_)
      ·cases xs with
       |nil=>exact .inl rfl
       |cons x l=>
        right;obtain⟨r,hr⟩:=dU (t:=t) (xs:=x::l) (i:=0) (j:=0) (by simp) t.ia;have:=(key 0 0 r hr).1;obtain⟨b0,o0,s0⟩:=a;grind
      ·grind
      ·grind
     exact nR.one Ul (.sl t xs (λi j r hc=>by obtain⟨_,v,_,_,hw⟩:=key i j r hc;exact hw) (by omega))
   ·cases hf
  ·rename_i fs hu;simp only[An]at hf;obtain⟨us,hus,hf⟩:=hf;cases hc:Nat.beq (P.cellsOf T) us.length<;>simp only[hc,cond_true,cond_false]at hf
   ·cases hf
   cases hf;have hc:=So hc;obtain⟨fuel',xs,hl,hx⟩:=I1 hu h;have:=AP (F:=DataW.trod enc P w base sp held fuel') (λT cs x ts h1 h2 _=>xt n fuel' T cs x ts h1 h2) cs fs.toList 0 _ xs hus hx (by omega);grind
  ·cases hf
end
end
section
variable [Tok]
open Go.ChangeShapes Go.WideShapes Go.ChangeAt Go.RowKit
def N0 (P:Program) (tt:TT) (T:TypeId) (a:Arg):Prop:=
 ∃ts,za P tt 8 T=some ts/\((∃fs,P.underlying T=some (.struct fs))->∃rs:List R,a=.agg rs/\rs.map R.ty=ts/\∀r∈rs,r.Wf)/\
  ((∀fs,P.underlying T≠some (.struct fs))->∃r:R,a=.one r/\[r.ty]=ts/\r.Wf)
def AR (P:Program) (tt:TT):List TypeId->List Arg->Prop
 |[],[]=>True
 |T::Ts,a::as=>N0 P tt T a/\AR P tt Ts as
 |_,_=>False
section
variable {H:Type} {enc:TypeId× Value->H} {P:Program} {tt:TT} {w:World} {base:Nat} {sp:Nat->Bool} {held:Bool}
theorem Qi {b0:Nat} {T:TypeId} {v:Value} {d:DataW H} {p:List MemPlace} {ts:List Ty} (hd:DataW.Trod enc P w base sp held T v d p) (hv:Value.okWide P w .any b0 T v) (hf:za P tt 8 T=some ts):
  ∃a,N0 P tt T a/\vn w (λ_=>True) a v:=by
 obtain⟨fuel,hd⟩:=hd;obtain⟨rs,h1,h2,h3⟩:=xt 8 fuel T _ _ ts hd hf;by_cases hs:∃fs,P.underlying T=some (.struct fs)
 ·obtain⟨fs,hfs⟩:=hs;simp only[Value.okWide,hfs]at hv;obtain⟨cs,rfl,hsz,_⟩:=hv;refine⟨.agg rs,⟨ts,hf,λ_=>⟨rs,rfl,h1,λr hr=>?_⟩,λh=>(h fs hfs).elim⟩,cs,rfl,by simpa[Value.cells]using h2,λj r u hr hu=>?_⟩
  ·obtain⟨j,hj⟩:=WO hr
   have hlt:j<cs.size:=by
    have:=(Of.1 hj).1;simp[Value.cells]at h2;omega
   exact(h3 j r cs[j] hj (by simp[Value.cells,hlt])).2
  ·exact(h3 j r u hr (by simpa[Value.cells]using hu)).1
 ·have one1:∀{t},rs.map R.ty=[t]->∃r,rs=[r]:=λh=>List.length_eq_one_iff.1 (by simpa using congrArg List.length h)
  have CK:∃r,rs=[r]:=by
   unfold za at hf;split at hf
   ·cases hf;exact one1 h1
   ·cases hf;exact one1 h1
   ·cases hf;exact one1 h1
   ·simp only[An]at hf;obtain⟨t,_,us,_,hf⟩:=hf;split at hf
    ·cases hf;exact one1 h1
    ·exact nomatch hf
   ·rename_i fs hu;exact(hs ⟨fs,hu⟩).elim
   ·exact nomatch hf
  obtain⟨r,rfl⟩:=CK
  have TH:v.cells.toList=[v]:=by
   have VE:∀cs,v≠.agg cs:=λcs e=>by
    subst e;unfold za at hf;split at hf
    ·rename_i k hu;obtain⟨n,e⟩:=okWide_int hu hv;exact nomatch e
    ·rename_i hu;obtain⟨n,e⟩:=okWide_bool hu hv;exact nomatch e
    ·rename_i hu;obtain⟨n,e⟩:=okWide_string hu hv;exact nomatch e
    ·rename_i e hu;obtain⟨a,l,c,e⟩:=okWide_slice hu hv;exact nomatch e
    ·rename_i fs hu;exact(hs ⟨fs,hu⟩).elim
    ·exact nomatch hf
   cases v<;>first|rfl|exact(VE _ rfl).elim
  rw[TH]at h3;have:=h3 0 r v rfl rfl;exact⟨.one r,⟨ts,hf,λh=>(hs h).elim,λ_=>⟨r,rfl,by simpa using h1,this.2⟩⟩,this.1⟩
theorem GR {b0:Nat}:∀{Ts:List TypeId} {vs:List Value} {ds:List (DataW H)} {ps:List MemPlace},DataW.TrodAll enc P w base sp held Ts vs ds ps->
  (∀(j:Nat) t v,Ts[j]? =some t->vs[j]? =some v->Value.okWide P w .any b0 t v)->(Ts.all λT=>(za P tt 8 T).isSome)=true->
  ∃as,AR P tt Ts as/\as.length=vs.length/\ds.length=Ts.length/\∀(j:Nat) (x:Arg) (u:Value),as[j]? =some x->vs[j]? =some u->vn w (λ_=>True) x u
 |[],[],[],_,_,_,_=>⟨[],trivial,rfl,rfl,λj x u h=>by simp at h⟩
 |T::Ts,v::vs,d::ds,ps,⟨p,q,h1,h2,_⟩,hv,hf=>by
  simp only[Yk,VP]at hf;obtain⟨ts,hts⟩:=Option.isSome_iff_exists.1 hf.1;obtain⟨a,g1,g2⟩:=Qi h1 (hv 0 T v rfl rfl) hts;obtain⟨as,g3,g4,g5,g6⟩:=GR h2 (λj t v ht hw=>hv (j+1) t v (by simpa using ht) (by simpa using hw)) hf.2;refine⟨a::as,⟨g1,g3⟩,by simp[g4],by simp[g5],λj x u hx hu=>?_⟩
  cases j with
  |zero=>simp at hx hu;subst hx hu;exact g2
  |succ j=>exact g6 j x u (by simpa using hx) (by simpa using hu)
 |[],_::_,_,_,h,_,_=>nomatch h
 |[],[],_::_,_,h,_,_=>nomatch h
 |_::_,[],_,_,h,_,_=>nomatch h
 |_::_,_::_,[],_,h,_,_=>nomatch h
variable {w':World}
theorem I2 (hg:eB w w') (hc:∀(p:Cell) x,w.at? p=some x->w'.at? p=some x/\w'.ff p=w.ff p) (may:MemPlace->Prop):w.keptBut w' may:=by
 obtain⟨h1,h2,h3⟩:=hg;refine⟨h1,h2,λi hi=>?_⟩;have:=h3 i hi;split at this
 ·rename_i c t fr c' t' fr' e1 e2;obtain⟨q1,q2,q3⟩:=this;rw[e1,e2];refine⟨q1,?_,q3,λj _=>?_⟩
  ·rcases q2 with q2|q2
   ·exact q2
   ·have h0:w.at? (i,0)=some c[0]:=by simp[World.at?,World.cell?,e1,q2]
    have:=(hc _ _ h0).2;simp only[World.ff,e1,e2,Wb]at this;exact Prod.ext this.1 this.2.1
  ·by_cases hj:j<c.size
   ·have:w.at? (i,j)=some c[j]:=by simp[World.at?,World.cell?,e1,hj]
    have:=(hc _ _ this).1;simp only[World.at?,World.cell?,e2,Xp,Xf,if_false]at this;rw[this,V3 hj]
   ·rw[Array.getElem?_eq_none (by omega),Array.getElem?_eq_none (by omega)]
 ·rename_i x y h4;rw[this];split
  ·rename_i e1 e2;rw[e1]at e2;cases e2;exact⟨rfl,rfl,rfl,λ_ _=>rfl⟩
  ·rename_i e1 e2;rw[e1]at e2;cases e2;exact .inr ⟨rfl,rfl⟩
  ·rfl
theorem N1 {may:MemPlace->Prop} (h:w.keptBut w' may) {a:Addr} (ha:a.block<w.heap.size):w'.frozen? a=w.frozen? a:=by
 have:=h.2.2 a.block ha;unfold World.frozen?;split at this
 ·rename_i e1 e2;obtain⟨_,q2,_⟩:=this;rw[e1,e2,q2]
 ·rename_i e1 e2;rw[e1,e2]
 ·rw[this]
theorem Se (hg:eB w w') (hc:∀(p:Cell) x,w.at? p=some x->w'.at? p=some x/\w'.ff p=w.ff p) {p:MemPlace} (hp:p.block<w.heap.size):w.sameAt w' p:=by
 obtain⟨_,_,h3⟩:=I2 hg hc λ_=>False
 cases p with
 |cell b o=>
  have:=h3 b hp;show w'.cell? ⟨b,o,none⟩=w.cell? ⟨b,o,none⟩;split at this
  ·rename_i c t fr c' t' fr' e1 e2;obtain⟨q1,q2,q3,q4⟩:=this;simp only[World.cell?,e1,e2,Xp,Xf,if_false];exact q4 o (λh=>h)
  ·rename_i es ck es' ck' e1 e2;simp[World.cell?,e1,e2]
  ·simp only[World.cell?,this]
 |map b=>
  have:=h3 b hp;show w'.heap[b]? =w.heap[b]?;split at this
  ·rename_i c t fr c' t' fr' e1 e2;obtain⟨rfl,rfl,q3,q4⟩:=this;rw[e1,e2];have:c'=c:=Array.ext_getElem? λj=>q4 j (λh=>h);rw[this]
  ·rename_i es ck es' ck' e1 e2
   rcases this with h|⟨rfl,rfl⟩
   ·exact h.elim
   ·rw[e1,e2]
  ·exact this
theorem vz (hl:laidOutB P=true):∀{Ts:List TypeId} {vs:List Value} {ds:List (DataW H)} {ps:List MemPlace},(∀t∈Ts,P.readableRec t=true/\t<P.types.size)->
    DataW.TrodAll enc P w 0 (λ_=>true) true Ts vs ds ps->(∀p∈ps,w.sameAt w' p)->(∀p∈ps,sp p.block=true)->DataW.TrodAll enc P w' 0 sp true Ts vs ds ps
  |[],[],[],_,_,h,_,_=>h
  | T :: Ts, v :: vs, d :: ds, ps, hT, ⟨p, q, h1, h2, e⟩, hs, hp =>
    ⟨p,q,WideElems.Trod_stays hl (hT T (by simp)).1 (hT T (by simp)).2 h1 (λx hx=>hs x (by rw[e];exact WU _ hx)) (λx hx=>hp x (by rw[e];exact WU _ hx)),
      vz hl (λt ht=>hT t (by simp[ht])) h2 (λx hx=>hs x (by rw[e];exact WA _ hx)) (λx hx=>hp x (by rw[e];exact WA _ hx)),e⟩
  |[],_::_,_,_,_,h,_,_=>nomatch h
  |[],[],_::_,_,_,h,_,_=>nomatch h
  |_::_,[],_,_,_,h,_,_=>nomatch h
  |_::_,_::_,[],_,_,h,_,_=>nomatch h
end
theorem N2 {H:Type} {enc:TypeId× Value->H} {P:Program} {f:Func} {s:ChangeSpec} {apart fresh handsOn again:Bool} {W W':World} {args:Array Value} {v:Value} {ds gs:List (DataW H)} {before pa pv:List MemPlace}
  (hW:DataW.Whole enc P f.params.toList s.vars apart W args.toList ds gs before)
  (Q1:∀(b:Nat) (sp:Nat->Bool) (hd:Bool),DataW.TrodAll enc P W' b sp hd f.resultTypes.toList (v.resultList f.resultTypes.size) (s.fn H (ds++gs)).results [])
  (tE:∀sp:Nat->Bool,(∀p∈before,sp p.block=true)->DataW.TrodAll enc P W' 0 sp true f.params.toList args.toList (s.fn H (ds++gs)).args pa)
  (N3:∀sp:Nat->Bool,(∀p∈before,sp p.block=true)->DataW.TrodVars enc P W' sp s.vars (s.fn H (ds++gs)).vars pv)
  (hps:before=pa++pv) (hk:W.keptBut W' (·∈before)) (hfz:∀b off,MemPlace.cell b off∈before->W'.frozen? ⟨b,off,none⟩=W.frozen? ⟨b,off,none⟩)
  (hok:∀(j:Nat) (t:TypeId) (r:Value),f.resultTypes[j]? =some t->(v.resultList f.resultTypes.size)[j]? =some r->Value.okWide P W' .any 0 t r):s.post enc P f apart fresh handsOn again W args v W':=by
 have hin:∀p∈before,(decide (p.block<W.heap.size))=true:=λp hp=>decide_eq_true (hW.lt p hp);subst hps;refine⟨ds,gs,_,[],pa,pv,hW,Q1 _ _ _,tE (λb=>decide (b<W.heap.size)) hin,N3 _ hin,World.keptBut_mono (λp hp=>⟨hp,.inr (Wh.1 hp)⟩) hk,λ_=>?_⟩;obtain⟨_,_,_,_,_,hz,hn⟩:=id hW;refine⟨hok,_,_,([]++pa)++pv,⟨[]++pa,pv,trodAll_append (tE _ λ_ _=>rfl) (Q1 _ _ _),N3 _ λ_ _=>rfl,rfl,λb off hp=>?_,λha=>?_⟩,λp hp _=>?_⟩
 ·have hp:MemPlace.cell b off∈pa++pv:=by simpa using hp
  rw[hfz b off hp];exact hz b off hp
 ·simpa using hn ha
 ·simpa using hp
theorem LD {C:Checked} {os:Os} {g:FuncId} {fn:Func} {s:ChangeSpec} {tt:TT} {H:Type} {enc:TypeId× Value->H} {conds:List PathCond} {apart fresh handsOn again:Bool}
    (own:ownKnob C.prog.godebug=none) (started:os.Started) (noInit:C.prog.inits.idxOf? g=none) (hfn:C.prog.funcs[g]? =some fn)
    (witness:∃(w:World) (tape:Tape) (i:Input),w.os=os/\(w.forCall tape i).Shaped C.prog/\i.vars=[]/\Input.okWide C.prog (w.forCall tape i) .any w.heap.size g i/\
      s.pre6 enc C.prog fn conds apart (w.forCall tape i).memory i.args/\Assume.holds {} C.prog (lone (Frame.enter C.prog g i.args .normal) [] (w.forCall tape i)))
    (UI:laidOutB C.prog=true) (UJ:∀t∈fn.params.toList,C.prog.readableRec t=true/\t<C.prog.types.size) (UK:(fn.params.toList.all λT=>(za C.prog tt 8 T).isSome)=true)
    (N3:s.vars=[]) (Sf:∀ds:List (DataW H),ds.length=fn.params.toList.length->s.fn H (ds++[])={results:=[.lit (.bool true)],args:=ds,vars:=[]})
    {bt:TypeId} (Q1:fn.resultTypes=#[bt]) (hbt:C.prog.underlying bt=some .bool)
    (VF:∀as:List Arg,AR C.prog tt fn.params.toList as->ry C.prog g as (.b true,[])):
    ReturnsInHanded {} C os g .any (s.pre6 enc C.prog fn conds apart) (s.post enc C.prog fn apart fresh handsOn again):=by
  refine returnsInHanded_of_change (C:=C) own started noInit hfn witness ?_;intro W base args ds gs before hval hW _ _;have hW':=hW;obtain⟨p,q,hA,hV,rfl,hfz,_⟩:=hW;rw[N3]at hV;obtain⟨rfl,rfl⟩:=trodVars_none hV;obtain⟨as,g1,g2,g3,g4⟩:=GR hA (λj t v ht hv=>hval j t v (by simpa using ht) (by simpa using hv)) UK;obtain⟨_,hc⟩:=VF as g1;refine(hc W args (λ_=>True) (by simpa using g2) (λj x u hx hu=>g4 j x u hx (by simpa using hu))).mono λe W' ⟨u,pl,he,_,hu,_,wR,_,hgr⟩=>?_
  have hu:u=.bool true:=by
    cases hu with
    |r _ _ _ h=>cases h;rfl
  subst hu he;have hc':∀(p:Cell) x,W.at? p=some x->W'.at? p=some x/\W'.ff p=W.ff p:=wR;have hlt:∀x∈p,x.block<W.heap.size:=λx hx=>hW'.lt x (by simpa using hx);refine⟨_,rfl,N2 (pa:=p) (pv:=[]) hW' (λ_ _ _=>?_) (λsp hsp=>?_) (λ_ _=>?_) rfl (I2 hgr hc' _) (λb off hp=>N1 (I2 hgr hc' λ_=>False) (hW'.lt _ hp)) (ok_one Q1 rfl (okWide_bool_mk hbt true))⟩
  · rw[Sf ds g3,Q1];exact trodAll_mk1 (shut_bool hbt true)
  · rw[Sf ds g3];exact vz UI UJ hA (λx hx=>Se hgr hc' (hlt x hx)) (λx hx=>hsp x (by simpa using hx))
  · rw[Sf ds g3,N3];exact rfl
end
section
instance Ub:Tok:=⟨λ_=>.slice none 0 0,λ_=>rfl,rfl⟩
theorem aE {n:Int} (h1:-9223372036854775808<=n) (h2:n<=9223372036854775807):i64.wrap n=n:=Go.IntWalk.i64_in n ⟨h1,h2⟩
theorem N4 {n:Int} (h1:0<=n) (h2:n<=255):u8.wrap n=n:=Go.IntWalk.u8_in n ⟨h1,h2⟩
theorem aq {n m:Nat} (h:n<m) (hm:m<=9223372036854775807):i64.wrap ((n:Int)+1)=((n+1:Nat):Int):=by
 rw[aE (by omega) (by omega)];omega
@[simp] theorem aL {α:Type} (xs:List α) (i:Nat):idx xs (i:Int)=xs[i]? :=by
 have:(0:Int)<=(i:Int):=by omega
 simp[idx,this]
theorem zv {α:Type} (xs:List α):idx xs 0=xs[0]? :=rfl
theorem nc {α:Type} (xs:List α) {i:Int} (h:0<=i):idx xs i=xs[i.toNat]? :=by simp[idx,h]
section
variable {R V:Type} {g:V->(V->Option R)->Option R}
theorem aI (k:Nat) (v:V):iter g (k+1) v=g v (iter g k):=rfl
theorem vA {st:Nat->V} {n:Nat} {P:Nat->Option R} (h:∀i,i<n->∀next:V->Option R,next (st (i+1))=P (i+1)->g (st i) next=P i)
  (hn:∀next,g (st n) next=P n):∀(k i:Nat),i<=n->n-i<k->iter g k (st i)=P i
 |0,i,hi,hk=>by omega
 |k+1,i,hi,hk=>by
  rw[aI];by_cases c:i<n
  ·exact h i c _ (vA h hn k (i+1) (by omega) (by omega))
  ·have:i=n:=by omega
   subst this;exact hn _
theorem eW {st:Nat->V} {n:Nat} {r:Option R} (h:∀i,i<n->∀next:V->Option R,g (st i) next=next (st (i+1))) (hn:∀next,g (st n) next=r) {k:Nat} (hk:n<k):
  iter g k (st 0)=r:=vA (P:=λ_=>r) (λi hi next e=>(h i hi next).trans e) hn k 0 (Wy _) (by omega)
end
theorem ab {α:Type} {p:Prop} [Decidable p] (x y:α):cond (decide p) x y=if p then x else y:=by by_cases h:p<;>simp[h]
theorem EM {α:Type} (a b:Int) (x y:α):cond (a !=b) x y=if a=b then y else x:=by
 by_cases h:a=b
 ·simp[h]
 ·have:(a !=b)=true:=by simpa using h
  rw[this,if_neg h];rfl
theorem bM {α:Type} (a b:Int) (x y:α):cond (a==b) x y=if a=b then x else y:=by
 by_cases h:a=b
 ·simp[h]
 ·have:(a==b)=false:=by simpa using h
  rw[this,if_neg h];rfl
theorem cond_not {α:Type} (b:Bool) (x y:α):cond (!b) x y=cond b y x:=by cases b<;>rfl
theorem Sg (a b:Int):(a==b)=decide (a=b):=by
 by_cases h:a=b
 ·simp[h]
 ·rw[decide_eq_false h];simpa using h
theorem Si (a b:Int):(a !=b)=decide (a≠b):=by
 by_cases h:a=b
 ·simp[h]
 ·rw[decide_eq_true h];simpa using h
theorem aj {α:Type} {xs:List α} {i:Nat} (h:i<xs.length):xs[i]? =some xs[i]:=On h
theorem iw {α:Type} {xs:List α} {i:Nat} (h:i<xs.length):xs.drop i=xs[i]::xs.drop (i+1):=(List.getElem_cons_drop h).symm
theorem dy {α:Type} {xs:List α} {i:Nat} (h:i<xs.length):xs.take (i+1)=xs.take i++[xs[i]]:=(List.take_append_getElem h).symm
theorem N5 {α R:Type} [DecidableEq α] (xs ys:List α) (hl:xs.length=ys.length) {g:Int->(Int->Option R)->Option R} {yes no:Option R}
  (h:∀(i:Nat) (hi:i<xs.length) (hi':i<ys.length) (next:Int->Option R),g (i:Int) next=if xs[i]=ys[i]then next ((i+1:Nat):Int)else no)
  (hn:∀next,g (xs.length:Int) next=yes) {k:Nat} (hk:xs.length<k):iter g k 0=if xs=ys then yes else no:=by
 have:=vA (g:=g) (st:=λi=>(i:Int)) (n:=xs.length) (P:=λi=>if xs.drop i=ys.drop i then yes else no) (λi hi next e=>by
  have hi':i<ys.length:=by omega
  rw[h i hi hi' next]
  have he:(xs.drop i=ys.drop i)↔(xs[i]=ys[i]/\xs.drop (i+1)=ys.drop (i+1)):=by rw[iw hi,iw hi',WS]
  by_cases c:xs[i]=ys[i]
  ·rw[if_pos c,e];simp only[he,c,true_and]
  ·rw[if_neg c,if_neg (λq=>c (he.1 q).1)]) (λnext=>by
  rw[XW,List.drop_of_length_le (by omega)];simp;exact hn next) k 0 (Wy _) (by omega)
 simpa using this
end
section
theorem aa {α β:Type} (a:α) (f:α->Option β):(some a).bind f=f a:=rfl
theorem kN {α R:Type} (xs:List α) (p:α->Bool) {g:Int->(Int->Option R)->Option R} {yes no:Option R}
  (h:∀(i:Nat) (hi:i<xs.length) (next:Int->Option R),g (i:Int) next=cond (p xs[i]) (next ((i+1:Nat):Int)) no)
  (hn:∀next,g (xs.length:Int) next=yes) {k:Nat} (hk:xs.length<k):iter g k 0=cond (xs.all p) yes no:=by
 have:=vA (g:=g) (st:=λi=>(i:Int)) (n:=xs.length) (P:=λi=>cond ((xs.drop i).all p) yes no) (λi hi next e=>by
  rw[h i hi next,iw hi,Yk];cases hp:p xs[i]
  ·rfl
  ·simp only[cond_true,VZ];exact e) (λnext=>by rw[XW];exact hn next) k 0 (Wy _) (by omega)
 simpa using this
theorem fA {α R:Type} (xs:List α) (p:α->Bool) {g:Int->(Int->Option R)->Option R} {yes:Option R} {no:Int->Option R}
  (h:∀(i:Nat) (hi:i<xs.length) (next:Int->Option R),g (i:Int) next=cond (p xs[i]) (no (i:Int)) (next ((i+1:Nat):Int)))
  (hn:∀next,g (xs.length:Int) next=yes) {k:Nat} (hk:xs.length<k):iter g k 0=(xs.findIdx? p).elim yes λi=>no (i:Int):=by
 have:=vA (g:=g) (st:=λi=>(i:Int)) (n:=xs.length) (P:=λi=>((xs.drop i).findIdx? p).elim yes λj=>no ((i+j:Nat):Int)) (λi hi next e=>by
  rw[h i hi next,iw hi,X5];cases hp:p xs[i]
  ·simp only[cond_false,Xf,if_false];rw[e]
   cases(xs.drop (i+1)).findIdx? p with
   |none=>rfl
   |some j=>simp only[Xx,VX];congr 2;omega
  ·simp) (λnext=>by rw[XW];simpa using hn next) k 0 (Wy _) (by omega)
 simpa using this
theorem qb {α β R:Type} (xs:List α) (f:α->β) {g:Int× List β->(Int× List β->Option R)->Option R} {fin:List β->Option R}
  (h:∀(i:Nat) (ys:List β) (hi:i<xs.length) (next:Int× List β->Option R),ys.length=i->g ((i:Int),ys) next=next (((i+1:Nat):Int),ys++[f xs[i]]))
  (hn:∀ys next,g ((xs.length:Int),ys) next=fin ys) {k:Nat} (hk:xs.length<k):iter g k (0,[])=fin (xs.map f):=by
 have:=eW (g:=g) (st:=λi=>((i:Int),(xs.take i).map f)) (n:=xs.length) (r:=fin (xs.map f)) (λi hi next=>by
  rw[h i _ hi next (by simp;omega),dy hi,WL];rfl) (λnext=>by rw[WH];exact hn _ _) hk
 simpa using this
theorem rL {α S R:Type} (xs:List α) (f:S->α->S) {g:S× Int->(S× Int->Option R)->Option R} {fin:S->Option R} (s0:S)
  (h:∀(i:Nat) (s:S) (hi:i<xs.length) (next:S× Int->Option R),s=(xs.take i).foldl f s0->g (s,(i:Int)) next=next (f s xs[i],((i+1:Nat):Int)))
  (hn:∀next,g (xs.foldl f s0,(xs.length:Int)) next=fin (xs.foldl f s0)) {k:Nat} (hk:xs.length<k):iter g k (s0,0)=fin (xs.foldl f s0):=by
 have:=eW (g:=g) (st:=λi=>((xs.take i).foldl f s0,(i:Int))) (n:=xs.length) (r:=fin (xs.foldl f s0)) (λi hi next=>by
  rw[h i _ hi next rfl,dy hi,WM];rfl) (λnext=>by
  simp only[WH];exact hn next) hk
 simpa using this
theorem rM {a b A B:Int} (h1:0<=a) (h2:a<=A) (h3:0<=b) (h4:b<=B):0<=a*b/\a*b<=A*B:=
 ⟨WY h1 h3,Xu h2 h4 h3 (by omega)⟩
end
section
theorem al:aU=274877906944:=rfl
def jj {α:Type} (t:α->Nat) (xs:List α):Nat:=xs.length+(xs.map t).sum
theorem N6 {α:Type} (t:α->Nat):∀{xs:List α} {x:α},x∈xs->t x<=(xs.map t).sum
 |y::xs,x,h=>by
  simp only[Wm,W3]
  rcases V0.1 h with rfl|h
  ·omega
  ·have:=N6 t h;omega
theorem kO {α:Type} (t:α->Nat) {xs:List α} {x:α} (h:x∈xs):t x+1<=jj t xs:=by
 have:=N6 t h;have:=List.length_pos_of_mem h;unfold jj;omega
theorem bU {α:Type} (t:α->Nat) (xs:List α):xs.length<=jj t xs:=by unfold jj;omega
theorem vB {α:Type} (t:α->Nat) (x:α) (xs:List α):jj t (x::xs)=t x+1+jj t xs:=by simp[jj];omega
theorem qc {α:Type} (t:α->Nat) (xs ys:List α):jj t (xs++ys)=jj t xs+jj t ys:=by simp[jj];omega
end
section
variable [Tok]
def HF:Nat:=9223372036854775807
def okS {α:Type} (p:α->Prop) (xs:List α):Prop:=xs.length<=HF/\∀x∈xs,p x
def okB (n:Int):Prop:=0<=n/\n<=255
theorem UL {n:Int} (h:(R.int .u8 n).Wf):okB n:=by
 cases h with
 |int _ _ h=>simp[Lit.wf,IntKind.min,IntKind.max,IntKind.signed,IntKind.bits]at h;exact h
theorem UM {t:Ty} {xs:List t.El} {p:t.El->Prop} (h:(R.sl t xs).Wf) (hp:∀x∈xs,(∀r∈t.cells x,r.Wf)->p x):okS p xs:=by
 cases h with
 |sl _ _ h hl=>
  refine⟨by unfold HF;unfold maxLen at hl;omega,λx hx=>hp x hx λr hr=>?_⟩;obtain⟨i,hi⟩:=WO hx;obtain⟨j,hj⟩:=WO hr;exact h i j r ⟨x,hi,hj⟩
theorem Qj {xs:List Int} (h:(R.bytes xs).Wf):okS okB xs:=UM h λx _ hx=>UL (hx _ (by simp[Ty.cells]))
section
variable {P:Program} {tt:TT} {T:TypeId} {a:Arg}
def AU (P:Program) (T:TypeId):Bool:=
 match P.underlying T with
 |some (.struct _)=>true
 |_=>false
theorem N7 {t:Ty} (hf:za P tt 8 T=some [t]) (hs:AU P T=false) (h:N0 P tt T a):∃r:R,a=.one r/\r.ty=t/\r.Wf:=by
 obtain⟨ts,h1,_,h3⟩:=h;rw[hf]at h1;cases h1;obtain⟨r,rfl,g1,g2⟩:=h3 (λfs e=>by simp[AU,e]at hs);exact⟨r,rfl,by simpa using g1,g2⟩
theorem Qk {t:Ty} (hf:za P tt 8 T=some [.sl t]) (hs:AU P T=false) (h:N0 P tt T a):∃xs:List t.El,a=.one (.sl t xs)/\(R.sl t xs).Wf:=by
 obtain⟨r,rfl,h1,h2⟩:=N7 hf hs h;obtain⟨n,rfl⟩:=vy h1;exact⟨n,rfl,h2⟩
theorem I3 {as:List Arg} {T:TypeId} (h:AR P tt [T] as):∃a,as=[a]/\N0 P tt T a:=by
 match as,h with
 |[a],h=>exact⟨a,rfl,h.1⟩
end
theorem LF {P:Program} {g:FuncId} {G:PG} (h:J5 P g G) {as:List Arg} {o:Out} (hG:G Out as some=some o):ry P g as o:=by
 obtain⟨o',h1,h2⟩:=h Out as some o hG;cases h1;exact h2
theorem Ql {p:TypeId->Bool} {l:List TypeId} (h:l.all p=true):∀t∈l,p t=true:=λt ht=>Wo.1 h t ht
end
section
variable [Tok]
section
variable {P:Program} {tt:TT} {T:TypeId} {a:Arg}
end
end
end Go.Proofs.Ev
