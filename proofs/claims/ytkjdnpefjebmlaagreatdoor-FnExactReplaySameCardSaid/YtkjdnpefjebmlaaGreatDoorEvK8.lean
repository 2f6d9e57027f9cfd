/- The evaluator over the model's code, and that it is sound: part 8. -/
import Derived.Test.YtkjdnpefjebmlaaGreatDoorEvK7
import GoSem.ClaimChange
import Derived.Deep.Slices
import Derived.DataReads
import Derived.ProofKit
import Derived.WideKeyArgs
import Derived.Lib.LaidTab
import Derived.Lib.ItoaNum
import Derived.Lib.ItoaLen
import Derived.Lib.Builder
import Derived.Lib.UnsafeStr
import Derived.Stop.LaidErr
import Derived.Sort.Grow
import Derived.Deep.Draws
import Derived.IntWalk
set_option linter.unusedVariables false
set_option linter.unusedSimpArgs false
set_option linter.unusedSectionVars false
namespace Go.Proofs.Ev
open IntKind(i64 u8 u64)
section
variable [Tok] [Glo]
def R.ty:R->Ty
 |.int k _=>.int k
 |.bool _=>.bool
 |.str _=>.str
 |.sl t _=>.sl t
 |.tok _=>.tok
 |.nr=>.st .shape
inductive R.Wf:R->Prop
 |int (k:IntKind) (n:Int) (h:(Lit.int k n).wf=true):R.Wf (.int k n)
 |bool (b:Bool):R.Wf (.bool b)
 |str (l:List UInt8) (h:l.length<=maxLen):R.Wf (.str l)
 |sl (t:Ty) (xs:List t.El) (h:∀i j r,aB t xs i j r->R.Wf r) (hl:xs.length<=maxLen):R.Wf (.sl t xs)
theorem kS (t:Ty) (r:R) (h:r.ty=t) (hs:∀s,t≠.st s):∃x,t.yG r=some x:=by
 subst h
 cases r with
 |int k n=>exact⟨n,by simp[Ty.yG,R.ty]⟩
 |bool b=>exact⟨b,by simp[Ty.yG,R.ty]⟩
 |str l=>exact⟨l,by simp[Ty.yG,R.ty]⟩
 |sl t xs=>exact⟨xs,by simp[Ty.yG,R.ty]⟩
 |tok n=>exact⟨n,by simp[Ty.yG,R.ty]⟩
 |nr=>exact(hs .shape rfl).elim
theorem TR {r:R} (h:r.ty=.tok):∃n,r=.tok n:=by cases r<;>simp_all [R.ty]
theorem cr {r:R} {k:IntKind} (h:r.ty=.int k):∃n,r=.int k n:=by cases r<;>simp_all [R.ty]
theorem Wv {r:R} (h:r.ty=.bool):∃n,r=.bool n:=by cases r<;>simp_all [R.ty]
theorem vt {r:R} {t:Ty} (h:r.ty=.sl t):∃xs,r=.sl t xs:=by
 cases r with
 |sl t' xs=>cases h;exact⟨xs,rfl⟩
 |_=>cases h
theorem JW:(rs:List R)->rs.map R.ty=S.tys .shape->∃x,Gk rs=some x
 |[x0,x1,x2],h=>by
  simp only[S.tys,Yp,Y8,YD,and_true]at h;obtain⟨h0,h1,h2⟩:=h;obtain⟨_,rfl⟩:=cr h0;obtain⟨_,rfl⟩:=cr h1;obtain⟨_,rfl⟩:=cr h2
  simp[Gk,R.asI,R.asB,R.asL]
 |[],h=>by have:=congrArg List.length h;simp[S.tys]at this
 |[_],h=>by have:=congrArg List.length h;simp[S.tys]at this
 |[_,_],h=>by have:=congrArg List.length h;simp[S.tys]at this
 |_::_::_::_::_,h=>by have:=congrArg List.length h;simp[S.tys]at this
theorem Hu:(rs:List R)->rs.map R.ty=S.tys .dn->∃x,Ar rs=some x
 |[x0,x1,x2,x3],h=>by
  simp only[S.tys,Yp,Y8,YD,and_true]at h;obtain⟨h0,h1,h2,h3⟩:=h;obtain⟨_,rfl⟩:=cr h0;obtain⟨_,rfl⟩:=cr h1;obtain⟨_,rfl⟩:=cr h2;obtain⟨_,rfl⟩:=vt h3
  simp[Ar,R.asI,R.asB,R.asL]
 |[],h=>by have:=congrArg List.length h;simp[S.tys]at this
 |[_],h=>by have:=congrArg List.length h;simp[S.tys]at this
 |[_,_],h=>by have:=congrArg List.length h;simp[S.tys]at this
 |[_,_,_],h=>by have:=congrArg List.length h;simp[S.tys]at this
 |_::_::_::_::_::_,h=>by have:=congrArg List.length h;simp[S.tys]at this
theorem JX:(rs:List R)->rs.map R.ty=S.tys .aS->∃x,Gm rs=some x
 |[x0,x1,x2,x3,x4,x5,x6,x7,x8],h=>by
  simp only[S.tys,Yp,Y8,YD,and_true]at h;obtain⟨h0,h1,h2,h3,h4,h5,h6,h7,h8⟩:=h;obtain⟨_,rfl⟩:=cr h0;obtain⟨_,rfl⟩:=cr h1;obtain⟨_,rfl⟩:=cr h2;obtain⟨_,rfl⟩:=cr h3;obtain⟨_,rfl⟩:=cr h4;obtain⟨_,rfl⟩:=cr h5;obtain⟨_,rfl⟩:=cr h6;obtain⟨_,rfl⟩:=vt h7;obtain⟨_,rfl⟩:=vt h8
  simp[Gm,R.asI,R.asB,R.asL]
 |[],h=>by have:=congrArg List.length h;simp[S.tys]at this
 |[_],h=>by have:=congrArg List.length h;simp[S.tys]at this
 |[_,_],h=>by have:=congrArg List.length h;simp[S.tys]at this
 |[_,_,_],h=>by have:=congrArg List.length h;simp[S.tys]at this
 |[_,_,_,_],h=>by have:=congrArg List.length h;simp[S.tys]at this
 |[_,_,_,_,_],h=>by have:=congrArg List.length h;simp[S.tys]at this
 |[_,_,_,_,_,_],h=>by have:=congrArg List.length h;simp[S.tys]at this
 |[_,_,_,_,_,_,_],h=>by have:=congrArg List.length h;simp[S.tys]at this
 |[_,_,_,_,_,_,_,_],h=>by have:=congrArg List.length h;simp[S.tys]at this
 |_::_::_::_::_::_::_::_::_::_::_,h=>by have:=congrArg List.length h;simp[S.tys]at this
theorem JY:(rs:List R)->rs.map R.ty=S.tys .model->∃x,Gn rs=some x
 |[x0,x1,x2,x3],h=>by
  simp only[S.tys,Yp,Y8,YD,and_true]at h;obtain⟨h0,h1,h2,h3⟩:=h;obtain⟨_,rfl⟩:=cr h0;obtain⟨_,rfl⟩:=cr h1;obtain⟨_,rfl⟩:=cr h2;obtain⟨_,rfl⟩:=vt h3
  simp[Gn,R.asI,R.asB,R.asL]
 |[],h=>by have:=congrArg List.length h;simp[S.tys]at this
 |[_],h=>by have:=congrArg List.length h;simp[S.tys]at this
 |[_,_],h=>by have:=congrArg List.length h;simp[S.tys]at this
 |[_,_,_],h=>by have:=congrArg List.length h;simp[S.tys]at this
 |_::_::_::_::_::_,h=>by have:=congrArg List.length h;simp[S.tys]at this
theorem MZ:(rs:List R)->rs.map R.ty=S.tys .task->∃x,NV rs=some x
 |[x0,x1,x2,x3,x4],h=>by
  simp only[S.tys,Yp,Y8,YD,and_true]at h;obtain⟨h0,h1,h2,h3,h4⟩:=h;obtain⟨_,rfl⟩:=cr h0;obtain⟨_,rfl⟩:=vt h1;obtain⟨_,rfl⟩:=cr h2;obtain⟨_,rfl⟩:=cr h3;obtain⟨_,rfl⟩:=cr h4
  simp[NV,R.asI,R.asB,R.asL]
 |[],h=>by have:=congrArg List.length h;simp[S.tys]at this
 |[_],h=>by have:=congrArg List.length h;simp[S.tys]at this
 |[_,_],h=>by have:=congrArg List.length h;simp[S.tys]at this
 |[_,_,_],h=>by have:=congrArg List.length h;simp[S.tys]at this
 |[_,_,_,_],h=>by have:=congrArg List.length h;simp[S.tys]at this
 |_::_::_::_::_::_::_,h=>by have:=congrArg List.length h;simp[S.tys]at this
theorem Fs:(rs:List R)->rs.map R.ty=S.tys .request->∃x,uS rs=some x
 |[x0,x1,x2,x3,x4,x5,x6,x7,x8,x9,x10,x11,x12],h=>by
  simp only[S.tys,Yp,Y8,YD,and_true]at h;obtain⟨h0,h1,h2,h3,h4,h5,h6,h7,h8,h9,h10,h11,h12⟩:=h;obtain⟨_,rfl⟩:=cr h0;obtain⟨_,rfl⟩:=cr h1;obtain⟨_,rfl⟩:=cr h2;obtain⟨_,rfl⟩:=cr h3;obtain⟨_,rfl⟩:=cr h4;obtain⟨_,rfl⟩:=vt h5;obtain⟨_,rfl⟩:=cr h6;obtain⟨_,rfl⟩:=cr h7;obtain⟨_,rfl⟩:=cr h8;obtain⟨_,rfl⟩:=cr h9;obtain⟨_,rfl⟩:=vt h10;obtain⟨_,rfl⟩:=cr h11;obtain⟨_,rfl⟩:=cr h12
  simp[uS,R.asI,R.asB,R.asL]
 |[],h=>by have:=congrArg List.length h;simp[S.tys]at this
 |[_],h=>by have:=congrArg List.length h;simp[S.tys]at this
 |[_,_],h=>by have:=congrArg List.length h;simp[S.tys]at this
 |[_,_,_],h=>by have:=congrArg List.length h;simp[S.tys]at this
 |[_,_,_,_],h=>by have:=congrArg List.length h;simp[S.tys]at this
 |[_,_,_,_,_],h=>by have:=congrArg List.length h;simp[S.tys]at this
 |[_,_,_,_,_,_],h=>by have:=congrArg List.length h;simp[S.tys]at this
 |[_,_,_,_,_,_,_],h=>by have:=congrArg List.length h;simp[S.tys]at this
 |[_,_,_,_,_,_,_,_],h=>by have:=congrArg List.length h;simp[S.tys]at this
 |[_,_,_,_,_,_,_,_,_],h=>by have:=congrArg List.length h;simp[S.tys]at this
 |[_,_,_,_,_,_,_,_,_,_],h=>by have:=congrArg List.length h;simp[S.tys]at this
 |[_,_,_,_,_,_,_,_,_,_,_],h=>by have:=congrArg List.length h;simp[S.tys]at this
 |[_,_,_,_,_,_,_,_,_,_,_,_],h=>by have:=congrArg List.length h;simp[S.tys]at this
 |_::_::_::_::_::_::_::_::_::_::_::_::_::_::_,h=>by have:=congrArg List.length h;simp[S.tys]at this
theorem M0:(rs:List R)->rs.map R.ty=S.tys .step->∃x,NW rs=some x
 |[x0,x1,x2,x3,x4,x5,x6,x7],h=>by
  simp only[S.tys,Yp,Y8,YD,and_true]at h;obtain⟨h0,h1,h2,h3,h4,h5,h6,h7⟩:=h;obtain⟨_,rfl⟩:=cr h0;obtain⟨_,rfl⟩:=cr h1;obtain⟨_,rfl⟩:=cr h2;obtain⟨_,rfl⟩:=vt h3;obtain⟨_,rfl⟩:=cr h4;obtain⟨_,rfl⟩:=cr h5;obtain⟨_,rfl⟩:=cr h6;obtain⟨_,rfl⟩:=vt h7
  simp[NW,R.asI,R.asB,R.asL]
 |[],h=>by have:=congrArg List.length h;simp[S.tys]at this
 |[_],h=>by have:=congrArg List.length h;simp[S.tys]at this
 |[_,_],h=>by have:=congrArg List.length h;simp[S.tys]at this
 |[_,_,_],h=>by have:=congrArg List.length h;simp[S.tys]at this
 |[_,_,_,_],h=>by have:=congrArg List.length h;simp[S.tys]at this
 |[_,_,_,_,_],h=>by have:=congrArg List.length h;simp[S.tys]at this
 |[_,_,_,_,_,_],h=>by have:=congrArg List.length h;simp[S.tys]at this
 |[_,_,_,_,_,_,_],h=>by have:=congrArg List.length h;simp[S.tys]at this
 |_::_::_::_::_::_::_::_::_::_,h=>by have:=congrArg List.length h;simp[S.tys]at this
theorem JZ:(rs:List R)->rs.map R.ty=S.tys .event->∃x,Gp rs=some x
 |[x0,x1,x2,x3,x4,x5,x6],h=>by
  simp only[S.tys,Yp,Y8,YD,and_true]at h;obtain⟨h0,h1,h2,h3,h4,h5,h6⟩:=h;obtain⟨_,rfl⟩:=cr h0;obtain⟨_,rfl⟩:=cr h1;obtain⟨_,rfl⟩:=cr h2;obtain⟨_,rfl⟩:=cr h3;obtain⟨_,rfl⟩:=cr h4;obtain⟨_,rfl⟩:=cr h5;obtain⟨_,rfl⟩:=vt h6
  simp[Gp,R.asI,R.asB,R.asL]
 |[],h=>by have:=congrArg List.length h;simp[S.tys]at this
 |[_],h=>by have:=congrArg List.length h;simp[S.tys]at this
 |[_,_],h=>by have:=congrArg List.length h;simp[S.tys]at this
 |[_,_,_],h=>by have:=congrArg List.length h;simp[S.tys]at this
 |[_,_,_,_],h=>by have:=congrArg List.length h;simp[S.tys]at this
 |[_,_,_,_,_],h=>by have:=congrArg List.length h;simp[S.tys]at this
 |[_,_,_,_,_,_],h=>by have:=congrArg List.length h;simp[S.tys]at this
 |_::_::_::_::_::_::_::_::_,h=>by have:=congrArg List.length h;simp[S.tys]at this
theorem J0:(rs:List R)->rs.map R.ty=S.tys .entry->∃x,Gq rs=some x
 |[x0,x1,x2,x3,x4,x5,x6,x7,x8,x9,x10,x11,x12],h=>by
  simp only[S.tys,Yp,Y8,YD,and_true]at h;obtain⟨h0,h1,h2,h3,h4,h5,h6,h7,h8,h9,h10,h11,h12⟩:=h;obtain⟨_,rfl⟩:=cr h0;obtain⟨_,rfl⟩:=cr h1;obtain⟨_,rfl⟩:=cr h2;obtain⟨_,rfl⟩:=cr h3;obtain⟨_,rfl⟩:=vt h4;obtain⟨_,rfl⟩:=cr h5;obtain⟨_,rfl⟩:=cr h6;obtain⟨_,rfl⟩:=cr h7;obtain⟨_,rfl⟩:=vt h8;obtain⟨_,rfl⟩:=cr h9;obtain⟨_,rfl⟩:=cr h10;obtain⟨_,rfl⟩:=cr h11;obtain⟨_,rfl⟩:=Wv h12
  simp[Gq,R.asI,R.asB,R.asL]
 |[],h=>by have:=congrArg List.length h;simp[S.tys]at this
 |[_],h=>by have:=congrArg List.length h;simp[S.tys]at this
 |[_,_],h=>by have:=congrArg List.length h;simp[S.tys]at this
 |[_,_,_],h=>by have:=congrArg List.length h;simp[S.tys]at this
 |[_,_,_,_],h=>by have:=congrArg List.length h;simp[S.tys]at this
 |[_,_,_,_,_],h=>by have:=congrArg List.length h;simp[S.tys]at this
 |[_,_,_,_,_,_],h=>by have:=congrArg List.length h;simp[S.tys]at this
 |[_,_,_,_,_,_,_],h=>by have:=congrArg List.length h;simp[S.tys]at this
 |[_,_,_,_,_,_,_,_],h=>by have:=congrArg List.length h;simp[S.tys]at this
 |[_,_,_,_,_,_,_,_,_],h=>by have:=congrArg List.length h;simp[S.tys]at this
 |[_,_,_,_,_,_,_,_,_,_],h=>by have:=congrArg List.length h;simp[S.tys]at this
 |[_,_,_,_,_,_,_,_,_,_,_],h=>by have:=congrArg List.length h;simp[S.tys]at this
 |[_,_,_,_,_,_,_,_,_,_,_,_],h=>by have:=congrArg List.length h;simp[S.tys]at this
 |_::_::_::_::_::_::_::_::_::_::_::_::_::_::_,h=>by have:=congrArg List.length h;simp[S.tys]at this
theorem M1:(rs:List R)->rs.map R.ty=S.tys .Qw->∃x,NX rs=some x
 |[x0,x1,x2],h=>by
  simp only[S.tys,Yp,Y8,YD,and_true]at h;obtain⟨h0,h1,h2⟩:=h;obtain⟨_,rfl⟩:=cr h0;obtain⟨_,rfl⟩:=cr h1;obtain⟨_,rfl⟩:=cr h2
  simp[NX,R.asI,R.asB,R.asL]
 |[],h=>by have:=congrArg List.length h;simp[S.tys]at this
 |[_],h=>by have:=congrArg List.length h;simp[S.tys]at this
 |[_,_],h=>by have:=congrArg List.length h;simp[S.tys]at this
 |_::_::_::_::_,h=>by have:=congrArg List.length h;simp[S.tys]at this
theorem bQ {α β:Type} {f:α->β} {rs:List α} {t:β} {ts:List β} (h:rs.map f=t::ts):∃r rs',rs=r::rs'/\f r=t/\rs'.map f=ts:=by
 cases rs with
 |nil=>cases h
 |cons r rs=>grind
theorem J1 (rs:List R) (h:rs.map R.ty=S.tys .dp):∃x,KL rs=some x:=by
 obtain⟨a0,rs,rfl,g0,h⟩:=bQ h;obtain⟨a1,rs,rfl,g1,h⟩:=bQ h;obtain⟨a2,rs,rfl,g2,h⟩:=bQ h;obtain⟨a3,rs,rfl,g3,h⟩:=bQ h;obtain⟨a4,rs,rfl,g4,h⟩:=bQ h;rw[List.map_eq_nil_iff]at h;subst h;obtain⟨x0,rfl⟩:=cr g0;obtain⟨x1,rfl⟩:=TR g1;obtain⟨x2,rfl⟩:=cr g2;obtain⟨x3,rfl⟩:=cr g3;obtain⟨x4,rfl⟩:=cr g4;exact⟨_,rfl⟩
theorem Db (rs:List R) (h:rs.map R.ty=S.tys .jf):∃x,uT rs=some x:=by
 obtain⟨a0,rs,rfl,g0,h⟩:=bQ h;obtain⟨a1,rs,rfl,g1,h⟩:=bQ h;obtain⟨a2,rs,rfl,g2,h⟩:=bQ h;obtain⟨a3,rs,rfl,g3,h⟩:=bQ h;obtain⟨a4,rs,rfl,g4,h⟩:=bQ h;obtain⟨a5,rs,rfl,g5,h⟩:=bQ h;obtain⟨a6,rs,rfl,g6,h⟩:=bQ h;obtain⟨a7,rs,rfl,g7,h⟩:=bQ h;obtain⟨a8,rs,rfl,g8,h⟩:=bQ h;obtain⟨a9,rs,rfl,g9,h⟩:=bQ h;obtain⟨a10,rs,rfl,g10,h⟩:=bQ h;obtain⟨a11,rs,rfl,g11,h⟩:=bQ h;obtain⟨a12,rs,rfl,g12,h⟩:=bQ h;rw[List.map_eq_nil_iff]at h;subst h;obtain⟨x0,rfl⟩:=cr g0;obtain⟨x1,rfl⟩:=cr g1;obtain⟨x2,rfl⟩:=cr g2;obtain⟨x3,rfl⟩:=cr g3;obtain⟨x4,rfl⟩:=cr g4;obtain⟨x5,rfl⟩:=TR g5;obtain⟨x6,rfl⟩:=cr g6;obtain⟨x7,rfl⟩:=cr g7;obtain⟨x8,rfl⟩:=cr g8;obtain⟨x9,rfl⟩:=cr g9;obtain⟨x10,rfl⟩:=TR g10;obtain⟨x11,rfl⟩:=cr g11;obtain⟨x12,rfl⟩:=cr g12;exact⟨_,rfl⟩
theorem Ft (t:Ty) (rs:List R) (h:rs.map R.ty=t.tys):∃x,t.fa rs=some x:=by
 have single:∀{t:Ty},(∀s,t≠.st s)->t.tys=[t]->rs.map R.ty=t.tys->∃r,rs=[r]/\r.ty=t:=λ{t} _ e h=>by
  rw[e]at h
  match rs,h with
  |[r],h=>grind
 have key:∀s:S,rs.map R.ty=s.tys->∃x,s.fa rs=some x:=λs h=>by
  cases s with
  |shape=>exact JW rs h
  |dn=>exact Hu rs h
  |aS=>exact JX rs h
  |model=>exact JY rs h
  |task=>exact MZ rs h
  |request=>exact Fs rs h
  |step=>exact M0 rs h
  |event=>exact JZ rs h
  |entry=>exact J0 rs h
  |Qw=>exact M1 rs h
  |dp=>exact J1 rs h
  |jf=>exact Db rs h
 cases t with
 |st s=>exact key s h
 |ho s=>
  obtain⟨x,hx⟩:=key s h
  exact⟨some x,by show(s.fa rs).bind _=_;rw[hx];rfl⟩
 |hl t=>
  have h:rs.map R.ty=[.sl t]:=h;obtain⟨r,rs',rfl,hr,h⟩:=List.map_eq_cons_iff.1 h;rw[List.map_eq_nil_iff]at h;subst h;obtain⟨xs,rfl⟩:=vt hr
  exact⟨some xs,by show(if h:t=t then some (some (h▸xs))else none)=_;rw[dif_pos rfl];rfl⟩
 |tok=>obtain⟨r,rfl,e⟩:=single (t:=.tok) (λs h=>nomatch h) rfl h;exact kS _ r e (λs h=>nomatch h)
 |int k=>obtain⟨r,rfl,e⟩:=single (t:=.int k) (λs h=>nomatch h) rfl h;exact kS _ r e (λs h=>nomatch h)
 |bool=>obtain⟨r,rfl,e⟩:=single (t:=.bool) (λs h=>nomatch h) rfl h;exact kS _ r e (λs h=>nomatch h)
 |str=>obtain⟨r,rfl,e⟩:=single (t:=.str) (λs h=>nomatch h) rfl h;exact kS _ r e (λs h=>nomatch h)
 |sl t=>obtain⟨r,rfl,e⟩:=single (t:=.sl t) (λs h=>nomatch h) rfl h;exact kS _ r e (λs h=>nomatch h)
def LA (P:Program) (g:TypeId->Option (List Ty)):Nat->List Field->Option (List Ty)
 |_,[]=>some []
 |off,f::l=>cond (Nat.beq f.offset off) ((g f.type).bind λts=>cond (Nat.beq (P.cellsOf f.type) ts.length) ((LA P g (off+ts.length) l).bind λus=>some (ts++us)) none) none
def xA (P:Program) (tt:TT):Nat->TypeId->Option (List Ty)
 |0,_=>none
 |n+1,T=>match P.underlying T with
  |some (.int k)=>some [.int k]
  |some .bool=>some [.bool]
  |some .string=>some [.str]
  |some (.slice e)=>(tt e).bind λt=>(xA P tt n e).bind λts=>if ts=t.tys/\P.cellsOf e=ts.length then some [.sl t]else none
  |some (.struct fs)=>(LA P (xA P tt n) 0 fs.toList).bind λts=>cond (Nat.beq (P.cellsOf T) ts.length) (some ts) none
  |_=>none
def nK (w:World) (ts:List Ty) (cs:List Value):Prop:=
 ∃rs:List R,rs.map R.ty=ts/\rs.length=cs.length/\∀(j:Nat) (r:R) (v:Value),rs[j]? =some r->cs[j]? =some v->RepR w (λ_=>True) r v/\r.Wf
theorem nK.one {w:World} {r:R} {v:Value} (h:RepR w (λ_=>True) r v) (hw:r.Wf):nK w [r.ty] [v]:=
  ⟨[r],rfl,rfl,λj r' v' h1 h2=>by
    cases j with
    |zero=>grind
    |succ j=>simp at h1⟩
theorem nK.append {w:World} {ts us:List Ty} {cs ds:List Value} (h:nK w ts cs) (g:nK w us ds):nK w (ts++us) (cs++ds):=by
 obtain⟨rs,h1,h2,h3⟩:=h;obtain⟨qs,g1,g2,g3⟩:=g;refine⟨rs++qs,by simp[h1,g1],by simp[h2,g2],λj r v hr hv=>?_⟩;grind
section
variable {H:Type} {enc:TypeId× Value->H} {P:Program} {tt:TT} {w:World} {base:Nat} {sp:Nat->Bool} {held:Bool}
theorem Bq {g:TypeId->Option (List Ty)} {F:TypeId->List Value->Option (DataW H× List MemPlace)} (hg:∀T cs x ts,F T cs=some x->g T=some ts->cs.length=P.cellsOf T->nK w ts cs) (cs:List Value):
  ∀(fs:List Field) (off:Nat) (ts:List Ty) (xs:List (DataW H× List MemPlace)),LA P g off fs=some ts->fs.mapM (λf=>F f.type ((cs.drop f.offset).take (P.cellsOf f.type)))=some xs->off+ts.length=cs.length->nK w ts (cs.drop off)
 |[],off,ts,xs,h,_,hl=>by
  cases h;have:cs.drop off=[]:=List.drop_eq_nil_of_le (by simp at hl;omega)
  rw[this];exact⟨[],rfl,rfl,λj r v hr _=>by simp at hr⟩
 |f::fs,off,ts,xs,h,hm,hl=>by
  simp only[LA]at h;cases ho:Nat.beq f.offset off<;>simp only[ho,cond_true,cond_false,An]at h
  ·cases h
  have ho:=On ho;obtain⟨us,hu,h⟩:=h;cases hc:Nat.beq (P.cellsOf f.type) us.length<;>simp only[hc,cond_true,cond_false,An,It]at h
  ·cases h
  have hc:=On hc;obtain⟨vs,hv,rfl⟩:=h;rw[List.mapM_cons]at hm
  cases hF:F f.type ((cs.drop f.offset).take (P.cellsOf f.type))with
  |none=>grind
  |some y=>
   cases hR:fs.mapM (λf=>F f.type ((cs.drop f.offset).take (P.cellsOf f.type)))with
   |none=>grind
   |some ys=>
    rw[XG]at hl;have h1:=hg _ _ _ _ hF hu (by rw[X9,YE];omega);have h2:=Bq hg cs fs (off+us.length) vs ys hv hR (by omega);rw[ho,hc]at h1;have:=h1.append h2;rwa [<-List.drop_drop,YN]at this
theorem trod_int {fuel:Nat} {T:TypeId} {cs:List Value} {x:DataW H× List MemPlace} {k:IntKind} (hu:P.underlying T=some (.int k)) (h:DataW.trod enc P w base sp held fuel T cs=some x):∃n,cs=[.int k n]/\(Lit.int k n).wf=true:=by
 cases fuel with
 |zero=>cases h
 |succ fuel=>
  unfold DataW.trod at h;grind
theorem trod_bool {fuel:Nat} {T:TypeId} {cs:List Value} {x:DataW H× List MemPlace} (hu:P.underlying T=some .bool) (h:DataW.trod enc P w base sp held fuel T cs=some x):∃b,cs=[.bool b]:=by
 cases fuel with
 |zero=>cases h
 |succ fuel=>
  unfold DataW.trod at h;grind
theorem RC {fuel:Nat} {T:TypeId} {cs:List Value} {x:DataW H× List MemPlace} (hu:P.underlying T=some .string) (h:DataW.trod enc P w base sp held fuel T cs=some x):∃s,cs=[.string s]/\s.size<=maxLen:=by
 cases fuel with
 |zero=>cases h
 |succ fuel=>
  unfold DataW.trod at h;grind
theorem J2 {fuel:Nat} {T:TypeId} {cs:List Value} {x:DataW H× List MemPlace} {fs:Array Field} (hu:P.underlying T=some (.struct fs)) (h:DataW.trod enc P w base sp held fuel T cs=some x):
  ∃fuel' xs,cs.length=P.cellsOf T/\fs.toList.mapM (λf=>DataW.trod enc P w base sp held fuel' f.type ((cs.drop f.offset).take (P.cellsOf f.type)))=some xs:=by
 cases fuel with
 |zero=>cases h
 |succ fuel=>
  unfold DataW.trod at h;simp only[hu]at h;split at h
  ·rename_i hl;obtain⟨xs,hx,_⟩:=XK.1 h;exact⟨fuel,xs,hl,hx⟩
  ·cases h
theorem Br {α:Type} {Q:Nat->α->Prop}:∀(n:Nat),(∀i,i<n->∃x,Q i x)->∃l:List α,l.length=n/\∀(i:Nat) (x:α),l[i]? =some x->Q i x
 |0,_=>⟨[],rfl,λi x h=>by simp at h⟩
 |n+1,h=>by
  obtain⟨l,h1,h2⟩:=Br n λi hi=>h i (by omega);obtain⟨x,hx⟩:=h n (by omega);refine⟨l++[x],by simp[h1],λi y hy=>?_⟩;grind
theorem Pz {a:Addr} {v:Value} (h:w.cell? a=some v):a.spot=none:=by
 unfold World.cell? at h
 cases hs:a.spot with
 |none=>rfl
 |some s=>grind
theorem D8 {n j:Nat} (h:j<n):(List.range n)[j]? =some j:=by rw[So (by simpa using h)];simp
theorem xB:∀(n fuel:Nat) (T:TypeId) (cs:List Value) (x:DataW H× List MemPlace) (ts:List Ty),DataW.trod enc P w base sp held fuel T cs=some x->xA P tt n T=some ts->nK w ts cs
 |0,_,_,_,_,_,_,h=>nomatch h
 |n+1,fuel,T,cs,x,ts,h,hf=>by
  unfold xA at hf;split at hf
  ·rename_i k hu;cases hf;obtain⟨m,rfl,hw⟩:=trod_int hu h;exact nK.one (.int k m) (.int k m hw)
  ·rename_i hu;cases hf;obtain⟨b,rfl⟩:=trod_bool hu h;exact nK.one (.bool b) (.bool b)
  ·rename_i hu;cases hf;obtain⟨s,rfl,hsl⟩:=RC hu h
   have:s=⟨s.data.toList.toArray⟩:=by simp
   rw[this];exact nK.one (.str s.data.toList) (.str _ (by simpa using hsl))
  ·rename_i e hu;simp only[An]at hf;obtain⟨t,ht,us,hus,hf⟩:=hf;split at hf
   ·rename_i hc;obtain⟨rfl,hsz⟩:=hc;cases hf;rw[Ty.wW]at hsz
    rcases DataW.trod_slice hu h with⟨rfl,_⟩|⟨a,len,cap,elems,rest,n',_,rfl,_,hb,hlc,hcap,hlen,hel,_⟩
    ·exact nK.one (.sl t [] none 0 0 0 (λ_ _=>undef) (X1 _) (.inl rfl) (λi j r ⟨x,hx,_⟩=>by simp at hx) (λi j r ⟨x,hx,_⟩=>by simp at hx)) (.sl t [] (λi j r ⟨x,hx,_⟩=>by simp at hx) (Ya _))
    ·subst hlen
     have Xu:∀i,i<elems.length->∃x:t.El,∃ds,w.cells? base (a.add (i*P.cellsOf e)) (P.cellsOf e)=some ds/\(t.cells x).length=ds.length/\
       ∀(j:Nat) (r:R) (v:Value),(t.cells x)[j]? =some r->ds[j]? =some v->RepR w (λ_=>True) r v/\r.Wf:=λi hi=>by
      have:=hel i hi;rw[So hi]at this;obtain⟨ds,h1,h2⟩:=An.1 this;obtain⟨rs,g1,g2,g3⟩:=xB n n' e ds _ _ h2 hus;obtain⟨x,hx⟩:=Ft t rs g1;have hc:=Ty.cM t rs x hx;grind
     obtain⟨xs,hxl,hxs⟩:=Br elems.length Xu
     have key:∀i j r,aB t xs i j r->a.spot=none/\∃v,w.at? (a.block,a.off+(i*t.sz+j))=some v/\RepR w (λ_=>True) r v/\r.Wf:=λi j r ⟨x,hx,hr⟩=>by
      obtain⟨ds,h1,h2,h3⟩:=hxs i x hx
      have hj:j<ds.length:=by rw[<-h2];exact(Of.1 hr).1
      unfold World.cells? at h1;rw[if_pos (by unfold Addr.add;split<;>exact hb)]at h1;have hl:=mapM_some_length h1;rw[List.length_range]at hl;have hg:=mapM_some_get h1 j j (D8 (by omega));rw[So hj]at hg
      have hsp:a.spot=none:=by
       have hi:i<xs.length:=(Of.1 hx).1;obtain⟨es,q1,q2,_⟩:=hxs 0 _ (So (by omega));have NN:=t.ie;rw[Ty.cw]at q2;unfold World.cells? at q1;rw[if_pos (by unfold Addr.add;split<;>exact hb)]at q1;have h0:=mapM_some_get q1 0 0 (D8 (by omega));rw[So (by omega)]at h0;have hs:=Pz h0;simpa[Addr.add]using hs
      refine⟨hsp,ds[j],?_,h3 j r _ hr (So hj)⟩
      have:(a.add (i*P.cellsOf e)).add j=⟨a.block,a.off+(i*t.sz+j),none⟩:=by
       obtain⟨b0,o0,s0⟩:=a;simp only at hsp;subst hsp;rw[hsz];simp only[Addr.add];grind
      rw[this]at hg;exact hg
     rw[<-hxl]
     have V9:RepR w (λ_=>True) (.sl t xs) (.slice (some a) xs.length cap):=by
      refine .sl t xs (some a) cap a.block a.off (λi j=>(w.at? (a.block,a.off+(i*t.sz+j))).getD undef) (by omega) ?_ (λi j r hc=>?_) (λi j r hc=>?_)
      ·cases xs with
       |nil=>exact .inl rfl
       |cons x l=>
        right;obtain⟨r,hr⟩:=dU (t:=t) (xs:=x::l) (i:=0) (j:=0) (by simp) t.ie;have:=(key 0 0 r hr).1;obtain⟨b0,o0,s0⟩:=a;grind
      ·grind
      ·grind
     exact nK.one V9 (.sl t xs (λi j r hc=>by obtain⟨_,v,_,_,hw⟩:=key i j r hc;exact hw) (by omega))
   ·cases hf
  ·rename_i fs hu;simp only[An]at hf;obtain⟨us,hus,hf⟩:=hf;cases hc:Nat.beq (P.cellsOf T) us.length<;>simp only[hc,cond_true,cond_false]at hf
   ·cases hf
   cases hf;have hc:=On hc;obtain⟨fuel',xs,hl,hx⟩:=J2 hu h;have:=Bq (F:=DataW.trod enc P w base sp held fuel') (λT cs x ts h1 h2 _=>xB n fuel' T cs x ts h1 h2) cs fs.toList 0 _ xs hus hx (by omega);grind
  ·cases hf
end
end
section
variable [Tok] [Glo]
open Go.ChangeShapes Go.WideShapes Go.ChangeAt Go.RowKit
def Hv (P:Program) (tt:TT) (T:TypeId) (a:Arg):Prop:=
 ∃ts,xA P tt 8 T=some ts/\((∃fs,P.underlying T=some (.struct fs))->∃rs:List R,a=.agg rs/\rs.map R.ty=ts/\∀r∈rs,r.Wf)/\
  ((∀fs,P.underlying T≠some (.struct fs))->∃r:R,a=.one r/\[r.ty]=ts/\r.Wf)
def Bs (P:Program) (tt:TT):List TypeId->List Arg->Prop
 |[],[]=>True
 |T::Ts,a::as=>Hv P tt T a/\Bs P tt Ts as
 |_,_=>False
section
variable {H:Type} {enc:TypeId× Value->H} {P:Program} {tt:TT} {w:World} {base:Nat} {sp:Nat->Bool} {held:Bool}
theorem RD {b0:Nat} {T:TypeId} {v:Value} {d:DataW H} {p:List MemPlace} {ts:List Ty} (hd:DataW.Trod enc P w base sp held T v d p) (hv:Value.okWide P w .any b0 T v) (hf:xA P tt 8 T=some ts):
  ∃a,Hv P tt T a/\tO w (λ_=>True) a v:=by
 obtain⟨fuel,hd⟩:=hd;obtain⟨rs,h1,h2,h3⟩:=xB 8 fuel T _ _ ts hd hf;by_cases hs:∃fs,P.underlying T=some (.struct fs)
 ·obtain⟨fs,hfs⟩:=hs;simp only[Value.okWide,hfs]at hv;obtain⟨cs,rfl,hsz,_⟩:=hv;refine⟨.agg rs,⟨ts,hf,λ_=>⟨rs,rfl,h1,λr hr=>?_⟩,λh=>(h fs hfs).elim⟩,cs,rfl,by simpa[Value.cells]using h2,λj r u hr hu=>?_⟩
  ·obtain⟨j,hj⟩:=Yw hr
   have hlt:j<cs.size:=by
    have:=(Of.1 hj).1;simp[Value.cells]at h2;omega
   exact(h3 j r cs[j] hj (by simp[Value.cells,hlt])).2
  ·exact(h3 j r u hr (by simpa[Value.cells]using hu)).1
 ·have one1:∀{t},rs.map R.ty=[t]->∃r,rs=[r]:=λh=>List.length_eq_one_iff.1 (by simpa using congrArg List.length h)
  have Du:∃r,rs=[r]:=by
   unfold xA at hf;split at hf
   ·cases hf;exact one1 h1
   ·cases hf;exact one1 h1
   ·cases hf;exact one1 h1
   ·simp only[An]at hf;obtain⟨t,_,us,_,hf⟩:=hf;split at hf
    ·cases hf;exact one1 h1
    ·exact nomatch hf
   ·rename_i fs hu;exact(hs ⟨fs,hu⟩).elim
   ·exact nomatch hf
  obtain⟨r,rfl⟩:=Du
  have Vk:v.cells.toList=[v]:=by
   have Xv:∀cs,v≠.agg cs:=λcs e=>by
    subst e;unfold xA at hf;split at hf
    ·rename_i k hu;obtain⟨n,e⟩:=okWide_int hu hv;exact nomatch e
    ·rename_i hu;obtain⟨n,e⟩:=okWide_bool hu hv;exact nomatch e
    ·rename_i hu;obtain⟨n,e⟩:=okWide_string hu hv;exact nomatch e
    ·rename_i e hu;obtain⟨a,l,c,e⟩:=okWide_slice hu hv;exact nomatch e
    ·rename_i fs hu;exact(hs ⟨fs,hu⟩).elim
    ·exact nomatch hf
   cases v<;>first|rfl|exact(Xv _ rfl).elim
  rw[Vk]at h3;have:=h3 0 r v rfl rfl;exact⟨.one r,⟨ts,hf,λh=>(hs h).elim,λ_=>⟨r,rfl,by simpa using h1,this.2⟩⟩,this.1⟩
theorem Hw {b0:Nat}:∀{Ts:List TypeId} {vs:List Value} {ds:List (DataW H)} {ps:List MemPlace},DataW.TrodAll enc P w base sp held Ts vs ds ps->
  (∀(j:Nat) t v,Ts[j]? =some t->vs[j]? =some v->Value.okWide P w .any b0 t v)->(Ts.all λT=>(xA P tt 8 T).isSome)=true->
  ∃as,Bs P tt Ts as/\as.length=vs.length/\ds.length=Ts.length/\∀(j:Nat) (x:Arg) (u:Value),as[j]? =some x->vs[j]? =some u->tO w (λ_=>True) x u
 |[],[],[],_,_,_,_=>⟨[],trivial,rfl,rfl,λj x u h=>by simp at h⟩
 |T::Ts,v::vs,d::ds,ps,⟨p,q,h1,h2,_⟩,hv,hf=>by
  simp only[Zi,XB]at hf;obtain⟨ts,hts⟩:=Option.isSome_iff_exists.1 hf.1;obtain⟨a,g1,g2⟩:=RD h1 (hv 0 T v rfl rfl) hts;obtain⟨as,g3,g4,g5,g6⟩:=Hw h2 (λj t v ht hw=>hv (j+1) t v (by simpa using ht) (by simpa using hw)) hf.2;refine⟨a::as,⟨g1,g3⟩,by simp[g4],by simp[g5],λj x u hx hu=>?_⟩
  cases j with
  |zero=>simp at hx hu;subst hx hu;exact g2
  |succ j=>exact g6 j x u (by simpa using hx) (by simpa using hu)
 |[],_::_,_,_,h,_,_=>nomatch h
 |[],[],_::_,_,h,_,_=>nomatch h
 |_::_,[],_,_,h,_,_=>nomatch h
 |_::_,_::_,[],_,h,_,_=>nomatch h
variable {w':World}
theorem J3 (hg:dF w w') (hc:∀(p:Cell) x,w.at? p=some x->w'.at? p=some x/\w'.eK p=w.eK p) (may:MemPlace->Prop):w.keptBut w' may:=by
 obtain⟨h1,h2,h3⟩:=hg;refine⟨h1,h2,λi hi=>?_⟩;have:=h3 i hi;split at this
 ·rename_i c t fr c' t' fr' e1 e2;obtain⟨q1,q2,q3⟩:=this;rw[e1,e2];refine⟨q1,?_,q3,λj _=>?_⟩
  ·rcases q2 with q2|q2
   ·exact q2
   ·have h0:w.at? (i,0)=some c[0]:=by simp[World.at?,World.cell?,e1,q2]
    have:=(hc _ _ h0).2;simp only[World.eK,e1,e2,XO]at this;exact Prod.ext this.1 this.2.1
  ·by_cases hj:j<c.size
   ·have:w.at? (i,j)=some c[j]:=by simp[World.at?,World.cell?,e1,hj]
    have:=(hc _ _ this).1;simp only[World.at?,World.cell?,e2,Y5,YX,if_false]at this;rw[this,XR hj]
   ·rw[Array.getElem?_eq_none (by omega),Array.getElem?_eq_none (by omega)]
 ·rename_i x y h4;rw[this];split
  ·rename_i e1 e2;rw[e1]at e2;cases e2;exact⟨rfl,rfl,rfl,λ_ _=>rfl⟩
  ·rename_i e1 e2;rw[e1]at e2;cases e2;exact .inr ⟨rfl,rfl⟩
  ·rfl
theorem PA {may:MemPlace->Prop} (h:w.keptBut w' may) {a:Addr} (ha:a.block<w.heap.size):w'.frozen? a=w.frozen? a:=by
 have:=h.2.2 a.block ha;unfold World.frozen?;split at this
 ·rename_i e1 e2;obtain⟨_,q2,_⟩:=this;rw[e1,e2,q2]
 ·rename_i e1 e2;rw[e1,e2]
 ·rw[this]
theorem TS (hg:dF w w') (hc:∀(p:Cell) x,w.at? p=some x->w'.at? p=some x/\w'.eK p=w.eK p) {p:MemPlace} (hp:p.block<w.heap.size):w.sameAt w' p:=by
 obtain⟨_,_,h3⟩:=J3 hg hc λ_=>False
 cases p with
 |cell b o=>
  have:=h3 b hp;show w'.cell? ⟨b,o,none⟩=w.cell? ⟨b,o,none⟩;split at this
  ·rename_i c t fr c' t' fr' e1 e2;obtain⟨q1,q2,q3,q4⟩:=this;simp only[World.cell?,e1,e2,Y5,YX,if_false];exact q4 o (λh=>h)
  ·rename_i es ck es' ck' e1 e2;simp[World.cell?,e1,e2]
  ·simp only[World.cell?,this]
 |map b=>
  have:=h3 b hp;show w'.heap[b]? =w.heap[b]?;split at this
  ·rename_i c t fr c' t' fr' e1 e2;obtain⟨rfl,rfl,q3,q4⟩:=this;rw[e1,e2];have:c'=c:=Array.ext_getElem? λj=>q4 j (λh=>h);rw[this]
  ·rename_i es ck es' ck' e1 e2
   rcases this with h|⟨rfl,rfl⟩
   ·exact h.elim
   ·rw[e1,e2]
  ·exact this
theorem vu (hl:laidOutB P=true):∀{Ts:List TypeId} {vs:List Value} {ds:List (DataW H)} {ps:List MemPlace},(∀t∈Ts,P.readableRec t=true/\t<P.types.size)->
    DataW.TrodAll enc P w 0 (λ_=>true) true Ts vs ds ps->(∀p∈ps,w.sameAt w' p)->(∀p∈ps,sp p.block=true)->DataW.TrodAll enc P w' 0 sp true Ts vs ds ps
  |[],[],[],_,_,h,_,_=>h
  | T :: Ts, v :: vs, d :: ds, ps, hT, ⟨p, q, h1, h2, e⟩, hs, hp =>
    ⟨p,q,WideElems.Trod_stays hl (hT T (by simp)).1 (hT T (by simp)).2 h1 (λx hx=>hs x (by rw[e];exact ZC _ hx)) (λx hx=>hp x (by rw[e];exact ZC _ hx)),
      vu hl (λt ht=>hT t (by simp[ht])) h2 (λx hx=>hs x (by rw[e];exact Zy _ hx)) (λx hx=>hp x (by rw[e];exact Zy _ hx)),e⟩
  |[],_::_,_,_,_,h,_,_=>nomatch h
  |[],[],_::_,_,_,h,_,_=>nomatch h
  |_::_,[],_,_,_,h,_,_=>nomatch h
  |_::_,_::_,[],_,_,h,_,_=>nomatch h
end
theorem PB {H:Type} {enc:TypeId× Value->H} {P:Program} {f:Func} {s:ChangeSpec} {apart fresh handsOn again:Bool} {W W':World} {args:Array Value} {v:Value} {ds gs:List (DataW H)} {before pa pv:List MemPlace}
  (hW:DataW.Whole enc P f.params.toList s.vars apart W args.toList ds gs before)
  (SD:∀(b:Nat) (sp:Nat->Bool) (hd:Bool),DataW.TrodAll enc P W' b sp hd f.resultTypes.toList (v.resultList f.resultTypes.size) (s.fn H (ds++gs)).results [])
  (tF:∀sp:Nat->Bool,(∀p∈before,sp p.block=true)->DataW.TrodAll enc P W' 0 sp true f.params.toList args.toList (s.fn H (ds++gs)).args pa)
  (PC:∀sp:Nat->Bool,(∀p∈before,sp p.block=true)->DataW.TrodVars enc P W' sp s.vars (s.fn H (ds++gs)).vars pv)
  (hps:before=pa++pv) (hk:W.keptBut W' (·∈before)) (hfz:∀b off,MemPlace.cell b off∈before->W'.frozen? ⟨b,off,none⟩=W.frozen? ⟨b,off,none⟩)
  (hok:∀(j:Nat) (t:TypeId) (r:Value),f.resultTypes[j]? =some t->(v.resultList f.resultTypes.size)[j]? =some r->Value.okWide P W' .any 0 t r):s.post enc P f apart fresh handsOn again W args v W':=by
 have hin:∀p∈before,(decide (p.block<W.heap.size))=true:=λp hp=>decide_eq_true (hW.lt p hp);subst hps;refine⟨ds,gs,_,[],pa,pv,hW,SD _ _ _,tF (λb=>decide (b<W.heap.size)) hin,PC _ hin,World.keptBut_mono (λp hp=>⟨hp,.inr (Yr.1 hp)⟩) hk,λ_=>?_⟩;obtain⟨_,_,_,_,_,hz,hn⟩:=id hW;refine⟨hok,_,_,([]++pa)++pv,⟨[]++pa,pv,trodAll_append (tF _ λ_ _=>rfl) (SD _ _ _),PC _ λ_ _=>rfl,rfl,λb off hp=>?_,λha=>?_⟩,λp hp _=>?_⟩
 ·have hp:MemPlace.cell b off∈pa++pv:=by simpa using hp
  rw[hfz b off hp];exact hz b off hp
 ·simpa using hn ha
 ·simpa using hp
end
section
open Go.ChangeShapes Go.WideShapes Go.ChangeAt Go.RowKit
section
variable [Tok] [Glo]
theorem pure_str {P:Program} {g:FuncId} (he:GN P g) {args:List Arg} {l:List UInt8}
    (h:∀(w:World) (us:Array Value) (ok:Cell->Prop),args.length=us.size->(∀(j:Nat) (x:Arg) (u:Value),args[j]? =some x->us[j]? =some u->tO w ok x u)->GlobW w (λ_=>False)->
      Calls P g us w λe w'=>e=.returned (.string ⟨l.toArray⟩)/\Below w.heap.size w w'):mQ P g args (.r [] (.str l),[]):=by
  refine⟨he,λw us ok hl hr hg=>(h w us ok hl hr hg).mono ?_⟩
  rintro e w' ⟨rfl,hB⟩
  refine⟨_,⟨λ_=>undef,λ_ _=>False,λp=>ok p\/w.at? p=none⟩,rfl,⟨λi B hB=>(nomatch hB),λi j B B' p h1=>(nomatch h1),λi B p h1=>(nomatch h1),λp hp=>.inr ?_⟩,.r _ _ _ (.str l),rfl,λp x hx=>Below.at_ hB hx,λi B p h1=>(nomatch h1),Below.Vj hB⟩
  cases hx:w.at? p with
  |none=>rfl
  |some x=>rw[(Below.at_ hB hx).1]at hp;exact nomatch hp
theorem globW_below {w w':World} {fp:Cell->Prop} (h:GlobW w fp) (hb:Below w.heap.size w w'):GlobW w' fp:=λg cs hc=>by
 obtain⟨⟨t,fr,he⟩,h2⟩:=h g cs hc;exact⟨⟨t,fr,(hb.block g (XW.1 he).1).trans he⟩,h2⟩
theorem below_grow (w:World) (q:Nat) (os:Array Obj):Below w.heap.size w (Sort.grow (w.drewN q) os):=
  ⟨rfl,rfl,rfl,by show _<=(w.heap++os).size;simp,λi hi=>by
    show(w.heap++os)[i]? =_
    rw[YO hi]⟩
theorem vw {T e:TypeId} {B b:Nat} {p:Value} {bs:List Value} {w w':World} (h:Lib.BuilderAt T e B b p bs w) (hb:Below w.heap.size w w'):Lib.BuilderAt T e B b p bs w':=by
 have hlt:=h.lt;obtain⟨h1,v,h2,h3,h4⟩:=h;exact⟨h1,v,(hb.block _ hlt).trans h2,h3.kept (row:=some b) ⟨hb.os,hb.tape,hb.output,hb.size,λk hk _=>hb.block k hk⟩ (.inr h4),h4⟩
theorem isBuilder_below {T e:TypeId} {B b:Nat} {bs:List Value} {w w':World} (h:Lib.IsBuilder T e B b bs w) (hb:Below w.heap.size w w'):Lib.IsBuilder T e B b bs w':=
 h.imp (vw · hb) (vw · hb)
theorem Bt {C:Checked} {os:Os} {g:FuncId} {fn:Func} {s:ChangeSpec} {tt:TT} {H:Type} {enc:TypeId× Value->H} {conds:List PathCond} {apart fresh handsOn again:Bool} {X:World->Array Value->Prop}
    (hX:∀(w w':World) (args:Array Value),w.heap=w'.heap->X w args->X w' args) (hgl:∀W args,X W args->GlobW W (λ_=>False))
    (own:ownKnob C.prog.godebug=none) (started:os.Started) (noInit:C.prog.inits.idxOf? g=none) (hfn:C.prog.funcs[g]? =some fn)
    (witness:∃(w:World) (tape:Tape) (i:Input),w.os=os/\(w.forCall tape i).Shaped C.prog/\i.vars=[]/\Input.okWide C.prog (w.forCall tape i) .any w.heap.size g i/\
      ((s.pre enc C.prog fn conds apart (w.forCall tape i).memory i.args/\X (w.forCall tape i).memory i.args)/\sizedMet enc C.prog fn (OpenSpec.ofChange s) apart (w.forCall tape i).memory i.args)/\Assume.holds {} C.prog (lone (Frame.enter C.prog g i.args .normal) [] (w.forCall tape i)))
    (Ww:laidOutB C.prog=true) (Wx:∀t∈fn.params.toList,C.prog.readableRec t=true/\t<C.prog.types.size) (Wy:(fn.params.toList.all λT=>(xA C.prog tt 8 T).isSome)=true)
    (PC:s.vars=[]) (TU:∀ds:List (DataW H),ds.length=fn.params.toList.length->s.fn H (ds++[])={results:=[.lit (.bool true)],args:=ds,vars:=[]})
    {bt:TypeId} (SD:fn.resultTypes=#[bt]) (hbt:C.prog.underlying bt=some .bool)
    (Xw:∀as:List Arg,Bs C.prog tt fn.params.toList as->mQ C.prog g as (.b true,[])):
    ReturnsInHanded {} C os g .any (λw args=>(s.pre enc C.prog fn conds apart w args/\X w args)/\sizedMet enc C.prog fn (OpenSpec.ofChange s) apart w args) (s.post enc C.prog fn apart fresh handsOn again):=by
  refine returnsInHanded_of_change_and (C:=C) (X:=X) hX own started noInit hfn witness ?_;intro W base args ds gs before hval hW _ _ hL _;have hW':=hW;obtain⟨p,q,hA,hV,rfl,hfz,_⟩:=hW;rw[PC]at hV;obtain⟨rfl,rfl⟩:=trodVars_none hV;obtain⟨as,g1,g2,g3,g4⟩:=Hw hA (λj t v ht hv=>hval j t v (by simpa using ht) (by simpa using hv)) Wy;obtain⟨_,hc⟩:=Xw as g1;refine(hc W args (λ_=>True) (by simpa using g2) (λj x u hx hu=>g4 j x u hx (by simpa using hu)) (hgl W _ hL)).mono λe W' ⟨u,pl,he,_,hu,_,tE,_,hgr⟩=>?_
  have hu:u=.bool true:=by
    cases hu with
    |r _ _ _ h=>cases h;rfl
  subst hu he;have hc':∀(p:Cell) x,W.at? p=some x->W'.at? p=some x/\W'.eK p=W.eK p:=tE;have hlt:∀x∈p,x.block<W.heap.size:=λx hx=>hW'.lt x (by simpa using hx);refine⟨_,rfl,PB (pa:=p) (pv:=[]) hW' (λ_ _ _=>?_) (λsp hsp=>?_) (λ_ _=>?_) rfl (J3 hgr hc' _) (λb off hp=>PA (J3 hgr hc' λ_=>False) (hW'.lt _ hp)) (ok_one SD rfl (okWide_bool_mk hbt true))⟩
  · rw[TU ds g3,SD];exact trodAll_mk1 (shut_bool hbt true)
  · rw[TU ds g3];exact vu Ww Wx hA (λx hx=>TS hgr hc' (hlt x hx)) (λx hx=>hsp x (by simpa using hx))
  · rw[TU ds g3,PC];exact rfl
end
def Fu:Array Value:=(Lib.pow10Tab.map λz=>Value.int .u64 z).toArray
abbrev powGlo (n:Nat):Glo:=⟨λg=>cond (Nat.beq g n) (some Fu) none⟩
theorem PD {P:Program} {n:Nat} {w:World} (hg:P.globalNamed "internal/strconv.uint64pow10"=some n) (h:Lib.TabIs P w "internal/strconv.uint64pow10" .u64 Lib.pow10Tab):@GlobW (powGlo n) w (λ_=>False):=by
 intro g cs hc;have hc:(cond (Nat.beq g n) (some Fu) none:Option (Array Value))=some cs:=hc
 cases hb:Nat.beq g n with
 |false=>rw[hb]at hc;exact nomatch hc
 |true=>
  rw[hb]at hc;cases hc;have:=On hb;subst this;refine⟨?_,λ_ _ h=>h.elim⟩;unfold Lib.TabIs World.var? at h;rw[hg,XC]at h;split at h
  ·rename_i cs t fr he;cases h;exact⟨t,fr,he⟩
  ·exact nomatch h
theorem tab_of {P:Program} {n:Nat} {w:World} {fp:Cell->Prop} (hg:P.globalNamed "internal/strconv.uint64pow10"=some n) (h:@GlobW (powGlo n) w fp):Lib.TabIs P w "internal/strconv.uint64pow10" .u64 Lib.pow10Tab:=by
 obtain⟨⟨t,fr,he⟩,_⟩:=h n Fu (by show cond (Nat.beq n n) _ _=_;rw[Nat.beq_refl];rfl);unfold Lib.TabIs World.var?;rw[hg,XC,he];rfl
def RE:DataW Unit->Array Value
 |.agg l=>(l.map λd=>match d with|.lit (.int k n)=>Value.int k n|_=>undef).toArray
 |_=>#[]
def Wz (P:Program) (w:World) (x:String× DataW Unit):World:=
 match P.globalNamed x.1 with
 |some g=>{w with heap:=w.heap.modify g λo=>match o with|.cells _ t fr=>.cells (RE x.2) t fr|o=>o}
 |none=>w
noncomputable def TV (P:Program) (os:Os) (l:List (String× DataW Unit)):World:=l.foldl (Wz P) (World.holding P os ⟨#[],#[],[]⟩)
end
section
instance VW:Tok:=⟨λ_=>.slice none 0 0,λ_=>rfl,rfl⟩
instance VX:Glo:=⟨λ_=>none⟩
def okI (n:Int):Prop:=-9223372036854775808<=n/\n<=9223372036854775807
theorem aL {n:Int} (h1:-9223372036854775808<=n) (h2:n<=9223372036854775807):i64.wrap n=n:=Go.IntWalk.i64_in n ⟨h1,h2⟩
theorem Hx {n:Int} (h1:0<=n) (h2:n<=255):u8.wrap n=n:=Go.IntWalk.u8_in n ⟨h1,h2⟩
theorem al {n m:Nat} (h:n<m) (hm:m<=9223372036854775807):i64.wrap ((n:Int)+1)=((n+1:Nat):Int):=by
 rw[aL (by omega) (by omega)];omega
@[simp] theorem aD {α:Type} (xs:List α) (i:Nat):idx xs (i:Int)=xs[i]? :=by
 have:(0:Int)<=(i:Int):=by omega
 simp[idx,this]
theorem vx {α:Type} (xs:List α):idx xs 0=xs[0]? :=rfl
theorem TW {α:Type} (xs:List α):idx xs 1=xs[1]? :=rfl
theorem uu {α:Type} (xs:List α) {i:Int} (h:0<=i):idx xs i=xs[i.toNat]? :=by simp[idx,h]
section
variable {R V:Type} {g:V->(V->Option R)->Option R}
theorem aI (k:Nat) (v:V):iter g (k+1) v=g v (iter g k):=rfl
theorem vy {st:Nat->V} {n:Nat} {P:Nat->Option R} (h:∀i,i<n->∀next:V->Option R,next (st (i+1))=P (i+1)->g (st i) next=P i)
  (hn:∀next,g (st n) next=P n):∀(k i:Nat),i<=n->n-i<k->iter g k (st i)=P i
 |0,i,hi,hk=>by omega
 |k+1,i,hi,hk=>by
  rw[aI];by_cases c:i<n
  ·exact h i c _ (vy h hn k (i+1) (by omega) (by omega))
  ·have:i=n:=by omega
   subst this;exact hn _
theorem eG {st:Nat->V} {n:Nat} {r:Option R} (h:∀i,i<n->∀next:V->Option R,g (st i) next=next (st (i+1))) (hn:∀next,g (st n) next=r) {k:Nat} (hk:n<k):
  iter g k (st 0)=r:=vy (P:=λ_=>r) (λi hi next e=>(h i hi next).trans e) hn k 0 (Ya _) (by omega)
theorem LB {Inv:V->Prop} {m:V->Nat} {P:V->Option R} (h:∀v,Inv v->∀next:V->Option R,(∀u,Inv u->m u<m v->next u=P u)->g v next=P v):
  ∀(k:Nat) (v:V),Inv v->m v<k->iter g k v=P v
 |0,_,_,hk=>by omega
 |k+1,v,hv,hk=>by
  rw[aI];exact h v hv _ λu hu hm=>LB h k u hu (by omega)
end
theorem ab {α:Type} {p:Prop} [Decidable p] (x y:α):cond (decide p) x y=if p then x else y:=by by_cases h:p<;>simp[h]
theorem fk {α:Type} (a b:Int) (x y:α):cond (a !=b) x y=if a=b then y else x:=by
 by_cases h:a=b
 ·simp[h]
 ·have:(a !=b)=true:=by simpa using h
  rw[this,if_neg h];rfl
theorem cO {α:Type} (a b:Int) (x y:α):cond (a==b) x y=if a=b then x else y:=by
 by_cases h:a=b
 ·simp[h]
 ·have:(a==b)=false:=by simpa using h
  rw[this,if_neg h];rfl
theorem cond_not {α:Type} (b:Bool) (x y:α):cond (!b) x y=cond b y x:=by cases b<;>rfl
theorem TX (a b:Int):(a==b)=decide (a=b):=by
 by_cases h:a=b
 ·simp[h]
 ·rw[decide_eq_false h];simpa using h
theorem PE (a b:Int):(a !=b)=decide (a≠b):=by
 by_cases h:a=b
 ·simp[h]
 ·rw[decide_eq_true h];simpa using h
theorem ag {α:Type} {xs:List α} {i:Nat} (h:i<xs.length):xs[i]? =some xs[i]:=So h
theorem iu {α:Type} {xs:List α} {i:Nat} (h:i<xs.length):xs.drop i=xs[i]::xs.drop (i+1):=(List.getElem_cons_drop h).symm
theorem cR {α:Type} {xs:List α} {i:Nat} (h:i<xs.length):xs.take (i+1)=xs.take i++[xs[i]]:=(List.take_append_getElem h).symm
theorem RF {α:Type} (xs:List α) (z:α) {i:Nat} (h:i<xs.length):(xs.take i++List.replicate (xs.length-i) z).set i xs[i]=xs.take (i+1)++List.replicate (xs.length-(i+1)) z:=by
 rw[List.set_append_right _ _ (by simp;omega)]
 have e:i-(xs.take i).length=0:=by simp;omega
 rw[e,show xs.length-i=(xs.length-(i+1))+1 from by omega,List.replicate_succ,List.set_cons_zero,cR h,XP];rfl
theorem Bu {α R:Type} (xs:List α) (z:α) {g:Int× List α->(Int× List α->Option R)->Option R} {fin:List α->Option R}
  (h:∀(i:Nat) (ys:List α) (hi:i<xs.length) (next:Int× List α->Option R),ys.length=xs.length->g ((i:Int),ys) next=next (((i+1:Nat):Int),ys.set i xs[i]))
  (hn:∀ys next,g ((xs.length:Int),ys) next=fin ys) {k:Nat} (hk:xs.length<k):iter g k (0,List.replicate xs.length z)=fin xs:=by
 have:=eG (g:=g) (st:=λi=>((i:Int),xs.take i++List.replicate (xs.length-i) z)) (n:=xs.length) (r:=fin xs) (λi hi next=>by
  rw[h i _ hi next (by simp;omega),RF xs z hi]) (λnext=>by
  simp only[Yj,Nat.sub_self,List.replicate_zero,XY];exact hn _ _) hk
 simpa using this
theorem pg {α R:Type} [DecidableEq α] (xs ys:List α) (hl:xs.length=ys.length) {g:Int->(Int->Option R)->Option R} {yes no:Option R}
  (h:∀(i:Nat) (hi:i<xs.length) (hi':i<ys.length) (next:Int->Option R),g (i:Int) next=if xs[i]=ys[i]then next ((i+1:Nat):Int)else no)
  (hn:∀next,g (xs.length:Int) next=yes) {k:Nat} (hk:xs.length<k):iter g k 0=if xs=ys then yes else no:=by
 have:=vy (g:=g) (st:=λi=>(i:Int)) (n:=xs.length) (P:=λi=>if xs.drop i=ys.drop i then yes else no) (λi hi next e=>by
  have hi':i<ys.length:=by omega
  rw[h i hi hi' next]
  have he:(xs.drop i=ys.drop i)↔(xs[i]=ys[i]/\xs.drop (i+1)=ys.drop (i+1)):=by rw[iu hi,iu hi',YD]
  by_cases c:xs[i]=ys[i]
  ·rw[if_pos c,e];simp only[he,c,true_and]
  ·rw[if_neg c,if_neg (λq=>c (he.1 q).1)]) (λnext=>by
  rw[Zj,List.drop_of_length_le (by omega)];simp;exact hn next) k 0 (Ya _) (by omega)
 simpa using this
end
section
theorem aa {α β:Type} (a:α) (f:α->Option β):(some a).bind f=f a:=rfl
theorem kt {α R:Type} (xs:List α) (p:α->Bool) {g:Int->(Int->Option R)->Option R} {yes no:Option R}
  (h:∀(i:Nat) (hi:i<xs.length) (next:Int->Option R),g (i:Int) next=cond (p xs[i]) (next ((i+1:Nat):Int)) no)
  (hn:∀next,g (xs.length:Int) next=yes) {k:Nat} (hk:xs.length<k):iter g k 0=cond (xs.all p) yes no:=by
 have:=vy (g:=g) (st:=λi=>(i:Int)) (n:=xs.length) (P:=λi=>cond ((xs.drop i).all p) yes no) (λi hi next e=>by
  rw[h i hi next,iu hi,Zi];cases hp:p xs[i]
  ·rfl
  ·simp only[cond_true,XM];exact e) (λnext=>by rw[Zj];exact hn next) k 0 (Ya _) (by omega)
 simpa using this
theorem dX {α R:Type} (xs:List α) (p:α->Bool) {g:Int->(Int->Option R)->Option R} {yes:Option R} {no:Int->Option R}
  (h:∀(i:Nat) (hi:i<xs.length) (next:Int->Option R),g (i:Int) next=cond (p xs[i]) (no (i:Int)) (next ((i+1:Nat):Int)))
  (hn:∀next,g (xs.length:Int) next=yes) {k:Nat} (hk:xs.length<k):iter g k 0=(xs.findIdx? p).elim yes λi=>no (i:Int):=by
 have:=vy (g:=g) (st:=λi=>(i:Int)) (n:=xs.length) (P:=λi=>((xs.drop i).findIdx? p).elim yes λj=>no ((i+j:Nat):Int)) (λi hi next e=>by
  rw[h i hi next,iu hi,ZL];cases hp:p xs[i]
  ·simp only[cond_false,YX,if_false];rw[e]
   cases(xs.drop (i+1)).findIdx? p with
   |none=>rfl
   |some j=>simp only[Zf,XD];congr 2;omega
  ·simp) (λnext=>by rw[Zj];simpa using hn next) k 0 (Ya _) (by omega)
 simpa using this
theorem sL {α β R:Type} (xs:List α) (f:α->β) {g:Int× List β->(Int× List β->Option R)->Option R} {fin:List β->Option R}
  (h:∀(i:Nat) (ys:List β) (hi:i<xs.length) (next:Int× List β->Option R),ys.length=i->g ((i:Int),ys) next=next (((i+1:Nat):Int),ys++[f xs[i]]))
  (hn:∀ys next,g ((xs.length:Int),ys) next=fin ys) {k:Nat} (hk:xs.length<k):iter g k (0,[])=fin (xs.map f):=by
 have:=eG (g:=g) (st:=λi=>((i:Int),(xs.take i).map f)) (n:=xs.length) (r:=fin (xs.map f)) (λi hi next=>by
  rw[h i _ hi next (by simp;omega),cR hi,YJ];rfl) (λnext=>by rw[Yj];exact hn _ _) hk
 simpa using this
theorem rL {α S R:Type} (xs:List α) (f:S->α->S) {g:S× Int->(S× Int->Option R)->Option R} {fin:S->Option R} (s0:S)
  (h:∀(i:Nat) (s:S) (hi:i<xs.length) (next:S× Int->Option R),s=(xs.take i).foldl f s0->g (s,(i:Int)) next=next (f s xs[i],((i+1:Nat):Int)))
  (hn:∀next,g (xs.foldl f s0,(xs.length:Int)) next=fin (xs.foldl f s0)) {k:Nat} (hk:xs.length<k):iter g k (s0,0)=fin (xs.foldl f s0):=by
 have:=eG (g:=g) (st:=λi=>((xs.take i).foldl f s0,(i:Int))) (n:=xs.length) (r:=fin (xs.foldl f s0)) (λi hi next=>by
  rw[h i _ hi next rfl,cR hi,Yx];rfl) (λnext=>by
  simp only[Yj];exact hn next) hk
 simpa using this
theorem rM {a b A B:Int} (h1:0<=a) (h2:a<=A) (h3:0<=b) (h4:b<=B):0<=a*b/\a*b<=A*B:=
 ⟨Zu h1 h3,Int.mul_le_mul h2 h4 h3 (by omega)⟩
end
section
theorem aj:aG=274877906944:=rfl
def Sz (r:Option Int) (n:Int) (t:Nat):Prop:=r=some (if n<(t:Int)then -1 else n-t)
theorem PF {o:Option Int} {t u:Nat} {n:Int} {G:Int->Option Int} (hn:0<=n) (h:Sz o n t) (hG:(t:Int)<=n->Sz (G (n-t)) (n-t) u):
  Sz (o.bind λr=>cond (decide (r<0)) (some (-1)) (G r)) n (t+u):=by
 unfold Sz at*;subst h;rw[aa,ab];by_cases c:n<(t:Int)
 ·rw[if_pos c,if_pos (by omega),if_pos (by omega)]
 ·rw[if_neg c,if_neg (by omega),hG (by omega)]
  congr 1
  split<;>split<;>omega
theorem SK {n:Int} (hn:0<=n):Sz (some n) n 0:=by unfold Sz;rw[if_neg (by omega)];simp
def fI {α:Type} (t:α->Nat) (xs:List α):Nat:=xs.length+(xs.map t).sum
theorem PH {α:Type} (t:α->Nat):∀{xs:List α} {x:α},x∈xs->t x<=(xs.map t).sum
 |y::xs,x,h=>by
  simp only[Yp,Y9]
  rcases X3.1 h with rfl|h
  ·omega
  ·have:=PH t h;omega
theorem fl {α:Type} (t:α->Nat) {xs:List α} {x:α} (h:x∈xs):t x+1<=fI t xs:=by
 have:=PH t h;have:=List.length_pos_of_mem h;unfold fI;omega
theorem br {α:Type} (t:α->Nat) (xs:List α):xs.length<=fI t xs:=by unfold fI;omega
theorem vz {α:Type} (t:α->Nat) (x:α) (xs:List α):fI t (x::xs)=t x+1+fI t xs:=by simp[fI];omega
theorem uv {α:Type} (t:α->Nat) (xs ys:List α):fI t (xs++ys)=fI t xs+fI t ys:=by simp[fI];omega
theorem TY {α:Type} {t:α->Nat} {f:α->Int->Option Int} {xs:List α} {g:Int× Int->(Int× Int->Option Int)->Option Int} {k:Nat} {n:Int} (hx:xs.length<=9223372036854775807)
    (hs:∀x∈xs,∀n,0<=n->n<=1048576->Sz (f x n) n (t x))
    (h:∀(i:Nat) (left:Int) (hi:i<xs.length) (next:Int× Int->Option Int),g (left,(i:Int)) next=(f xs[i] left).bind λr=>cond (decide (r<0)) (some (-1)) (next (r,i64.wrap ((i:Int)+1))))
    (hn:∀left next,g (left,(xs.length:Int)) next=some left) (hk:xs.length<k) (h1:0<=n) (h2:n<=1048576):
    Sz (cond (decide (i64.wrap (n-(xs.length:Int))<(0:Int))) (some (-1)) (iter g k (i64.wrap (n-(xs.length:Int)),(0:Int)))) n (fI t xs):=by
  unfold Sz fI;rw[aL (by omega) (by omega),ab];by_cases c:n-xs.length<0
  · rw[if_pos c,if_pos (by omega)]
  rw[if_neg c]
  have := LB (g := g) (Inv := λ v => ∃ i : Nat, v.2 = (i : Int) /\ i <= xs.length /\ 0 <= v.1 /\ v.1 <= 1048576) (m := λ v => xs.length - v.2.toNat)
    (P := λ v => some (if v.1 < (((xs.drop v.2.toNat).map t).sum : Int) then -1 else v.1 - ((xs.drop v.2.toNat).map t).sum)) (λ v hv next Vl => by
      obtain⟨left,j⟩:=v;obtain⟨i,rfl,hi,a1,a2⟩:=hv;simp only at a1 a2⊢;simp only[XE]at Vl⊢;by_cases c:i<xs.length
      · rw[h i left c next,hs _ (XH c) left a1 a2,aa,ab,iu c,Yp,Y9];by_cases c2:left<(t xs[i]:Int)
        · rw[if_pos c2,if_pos (by omega),if_pos (by omega)]
        · rw[if_neg c2,if_neg (by omega),al c hx,Vl _ ⟨i+1,rfl,by omega,by simp only;omega,by simp only;omega⟩ (by simp only[XE];omega)];simp only[XE]
          congr 1
          split<;>split<;>omega
      · have:i=xs.length:=by omega
        subst this;rw[hn];simp only[Zj,Y8,List.sum_nil]
        rw[if_neg (by omega)];simp) k (n-xs.length,0) ⟨0,rfl,by omega,by simp only;omega,by simp only;omega⟩ (by simp;omega)
  rw[this];simp only[Int.toNat_zero,Zt]
  congr 1
  split<;>split<;>omega
theorem TZ {α:Type} (xs:List α) (z:α) {f:α->Option α} {g:Int× List α->(Int× List α->Option (List α))->Option (List α)} {k:Nat} (hl:xs.length<=aG) (hf:∀x∈xs,f x=some x)
  (h:∀(i:Nat) (ys:List α) (hi:i<xs.length) (next:Int× List α->Option (List α)),g ((i:Int),ys) next=(f xs[i]).bind λr=>cond (decide (0<=(i:Int)/\(i:Int)<(ys.length:Int))) (next (i64.wrap ((i:Int)+1),ys.set (i:Int).toNat r)) none)
  (hn:∀ys next,g ((xs.length:Int),ys) next=some ys) (hk:xs.length<k):
  cond (decide (0<=(xs.length:Int)/\(xs.length:Int)<=(xs.length:Int)/\(xs.length:Int)<=(aG:Int))) (iter g k ((0:Int),List.replicate ((xs.length:Int).toNat) z)) none=some xs:=by
 rw[aj]at hl;rw[ab,if_pos (by rw[aj];omega)]
 exact Bu xs z (fin:=some) (λi ys hi next hly=>by
  rw[h i ys hi next,hf _ (XH hi),aa,ab,if_pos (by omega),al hi (by omega),XE]) hn hk
theorem Uy {a b:Int} {G:Option Bool} {Q:Prop} [Decidable Q] (h:G=some (decide Q)):cond (a !=b) (some false) G=some (decide (a=b/\Q)):=by
 rw[fk,h];by_cases c:a=b<;>simp[c]
theorem VY {o:Option Bool} {P:Prop} [Decidable P] {G:Option Bool} {Q:Prop} [Decidable Q] (h1:o=some (decide P)) (h:G=some (decide Q)):(o.bind λr=>cond (!r) (some false) G)=some (decide (P/\Q)):=by
 rw[h1,h,aa];by_cases c:P<;>simp[c]
theorem PI:(some true)=some (decide True):=rfl
theorem T1 {α:Type} [DecidableEq α] {xs ys:List α} {f:α->α->Option Bool} {g:Int->(Int->Option Bool)->Option Bool} {k:Nat} (hx:xs.length<=9223372036854775807) (hf:∀x∈xs,∀y,f x y=some (decide (x=y)))
  (h:∀(i:Nat) (hi:i<xs.length) (hi':i<ys.length) (next:Int->Option Bool),g (i:Int) next=(f xs[i] ys[i]).bind λr=>cond (!r) (some false) (next (i64.wrap ((i:Int)+1))))
  (hn:∀next,g (xs.length:Int) next=some true) (hk:xs.length<k):cond ((xs.length:Int) !=(ys.length:Int)) (some false) (iter g k (0:Int))=some (decide (xs=ys)):=by
 rw[fk];by_cases c:xs.length=ys.length
 ·rw[if_pos (by omega)]
  rw[pg xs ys c (yes:=some true) (no:=some false) (λi hi hi' next=>by
   rw[h i hi hi' next,hf _ (XH hi),aa,al hi hx]
   by_cases e:xs[i]=ys[i]<;>simp[e]) hn hk]
  split<;>simp[*]
 ·rw[if_neg (by omega),decide_eq_false (λe=>c (by rw[e]))]
end
section
variable [Tok] [Glo]
def pK:Nat:=9223372036854775807
def okS {α:Type} (p:α->Prop) (xs:List α):Prop:=xs.length<=pK/\∀x∈xs,p x
def okB (n:Int):Prop:=0<=n/\n<=255
def Shape.Ok (s:Shape):Prop:=okI s.h/\okI s.w/\okI s.c
def az.Ok (t:az):Prop:=t.sh.Ok/\okS okI t.data
def aA.Ok (l:aA):Prop:=okI l.kind/\okI l.out/\okI l.size/\okI l.step/\okI l.mult/\okI l.shift/\okI l.zero/\okS okI l.weights/\okS okI l.pN
def Model.Ok (m:Model):Prop:=m.inp.Ok/\okS aA.Ok m.aF
def Job.Ok (j:Job):Prop:=j.model.Ok/\okI j.at_/\j.act.Ok/\okI j.jQ
def Task.Ok (t:Task):Prop:=okI t.id/\okS okI t.av/\okI t.at_/\okI t.due/\okI t.born
def ak.Ok (s:ak):Prop:=okI s.now/\okI s.ai/\okI s.age/\okS Task.Ok s.tasks/\okI s.run/\okI s.left/\okI s.turns/\okI s.next
def Request.Ok (r:Request):Prop:=okI r.id/\okI r.model/\r.job.Ok/\okI r.due
def Runtime.Ok (r:Runtime):Prop:=r.sched.Ok/\okS Model.Ok r.ao/\okS (λ_=>True) r.aq/\okS Request.Ok r.ae
def Step.Ok (s:Step):Prop:=okI s.kind/\okI s.a/\okI s.b/\okS okB s.data/\s.input.Ok
def Event.Ok (e:Event):Prop:=okI e.kind/\okI e.a/\okI e.b/\e.out.Ok
def Entry.Ok (e:Entry):Prop:=okI e.id/\e.model.Ok/\e.input.Ok/\okI e.at_/\okI e.due/\okI e.end_
def Mc.Ok (w:Mc):Prop:=okI w.id/\okI w.model/\okI w.due
theorem SL {n:Int} (h:(R.int .i64 n).Wf):okI n:=by
 cases h with
 |int _ _ h=>simp[Lit.wf,IntKind.min,IntKind.max,IntKind.signed,IntKind.bits]at h;exact h
theorem WA {n:Int} (h:(R.int .u8 n).Wf):okB n:=by
 cases h with
 |int _ _ h=>simp[Lit.wf,IntKind.min,IntKind.max,IntKind.signed,IntKind.bits]at h;exact h
theorem T3 {t:Ty} {xs:List t.El} {p:t.El->Prop} (h:(R.sl t xs).Wf) (hp:∀x∈xs,(∀r∈t.cells x,r.Wf)->p x):okS p xs:=by
 cases h with
 |sl _ _ h hl=>
  refine⟨by unfold pK;unfold maxLen at hl;omega,λx hx=>hp x hx λr hr=>?_⟩;obtain⟨i,hi⟩:=Yw hx;obtain⟨j,hj⟩:=Yw hr;exact h i j r ⟨x,hi,hj⟩
theorem T4 {xs:List Int} (h:(R.ints xs).Wf):okS okI xs:=T3 h λx _ hx=>SL (hx _ (by simp[Ty.cells]))
theorem RG {xs:List Int} (h:(R.bytes xs).Wf):okS okB xs:=T3 h λx _ hx=>WA (hx _ (by simp[Ty.cells]))
theorem T5 {x:Step} (h:∀r∈QF x,r.Wf):x.Ok:=by
 simp[QF]at h;obtain⟨h1,h2,h3,h4,h5,h6,h7,h8⟩:=h;exact⟨SL h1,SL h2,SL h3,RG h4,⟨SL h5,SL h6,SL h7⟩,T4 h8⟩
theorem RH {xs:List Step} (h:(R.sl (.st .step) xs).Wf):okS Step.Ok xs:=T3 h λx _ hx=>T5 hx
section
variable {P:Program} {tt:TT} {T:TypeId} {a:Arg}
def vA (P:Program) (T:TypeId):Bool:=
 match P.underlying T with
 |some (.struct _)=>true
 |_=>false
theorem Hy {t:Ty} (hf:xA P tt 8 T=some [t]) (hs:vA P T=false) (h:Hv P tt T a):∃r:R,a=.one r/\r.ty=t/\r.Wf:=by
 obtain⟨ts,h1,_,h3⟩:=h;rw[hf]at h1;cases h1;obtain⟨r,rfl,g1,g2⟩:=h3 (λfs e=>by simp[vA,e]at hs);exact⟨r,rfl,by simpa using g1,g2⟩
theorem PJ (hf:xA P tt 8 T=some [.int .i64]) (hs:vA P T=false) (h:Hv P tt T a):∃n:Int,a=.one (.i n)/\okI n:=by
 obtain⟨r,rfl,h1,h2⟩:=Hy hf hs h;obtain⟨n,rfl⟩:=cr h1;exact⟨n,rfl,SL h2⟩
theorem RI {t:Ty} (hf:xA P tt 8 T=some [.sl t]) (hs:vA P T=false) (h:Hv P tt T a):∃xs:List t.El,a=.one (.sl t xs)/\(R.sl t xs).Wf:=by
 obtain⟨r,rfl,h1,h2⟩:=Hy hf hs h;obtain⟨n,rfl⟩:=vt h1;exact⟨n,rfl,h2⟩
theorem Fv {as:List Arg} {T U V:TypeId} (h:Bs P tt [T,U,V] as):∃a b c,as=[a,b,c]/\Hv P tt T a/\Hv P tt U b/\Hv P tt V c:=by
 match as,h with
 |[a,b,c],h=>exact⟨a,b,c,rfl,h.1,h.2.1,h.2.2.1⟩
end
theorem M3 {P:Program} {g:FuncId} {G:PG} (h:Ll P g G) {as:List Arg} {o:Out} (hG:G Out as some=some o):mQ P g as o:=by
 obtain⟨o',h1,h2⟩:=h Out as some o hG;cases h1;exact h2
theorem RJ {p:TypeId->Bool} {l:List TypeId} (h:l.all p=true):∀t∈l,p t=true:=λt ht=>X6.1 h t ht
end
section
variable [Tok] [Glo]
section
variable {P:Program} {tt:TT} {T:TypeId} {a:Arg}
end
end
end Go.Proofs.Ev
