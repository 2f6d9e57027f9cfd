/- The evaluator over the model's code, and that it is sound: part 8. -/
import Derived.Test.YtkjdnpefjebmlaaGreatDoorEvK7
import GoSem.ClaimChange
import Derived.Deep.Slices
import Derived.DataReads
import Derived.ProofKit
import Derived.WideKeyArgs
import Derived.Lib.LaidTab
import Derived.Lib.ItoaNum
import Derived.Lib.ItoaLen
import Derived.Lib.Builder
import Derived.Lib.UnsafeStr
import Derived.Stop.LaidErr
import Derived.Sort.Grow
import Derived.Deep.Draws
import Derived.IntWalk
set_option linter.unusedVariables false
set_option linter.unusedSimpArgs false
set_option linter.unusedSectionVars false
namespace Go.Proofs.Ev
open IntKind(i64 u8 u64)
section
variable [Tok] [Glo]
def R.ty:R->Ty
 |.int k _=>.int k
 |.bool _=>.bool
 |.str _=>.str
 |.sl t _=>.sl t
 |.tok _=>.tok
 |.nt=>.st .shape
inductive R.Wf:R->Prop
 |int (k:IntKind) (n:Int) (h:(Lit.int k n).wf=true):R.Wf (.int k n)
 |bool (b:Bool):R.Wf (.bool b)
 |str (l:List UInt8) (h:l.length<=maxLen):R.Wf (.str l)
 |sl (t:Ty) (xs:List t.El) (h:∀i j r,aG t xs i j r->R.Wf r) (hl:xs.length<=maxLen):R.Wf (.sl t xs)
theorem kS (t:Ty) (r:R) (h:r.ty=t) (hs:∀s,t≠.st s):∃x,t.yF r=some x:=by
 subst h
 cases r with
 |int k n=>exact⟨n,by simp[Ty.yF,R.ty]⟩
 |bool b=>exact⟨b,by simp[Ty.yF,R.ty]⟩
 |str l=>exact⟨l,by simp[Ty.yF,R.ty]⟩
 |sl t xs=>exact⟨xs,by simp[Ty.yF,R.ty]⟩
 |tok n=>exact⟨n,by simp[Ty.yF,R.ty]⟩
 |nt=>exact(hs .shape rfl).elim
theorem S5 {r:R} (h:r.ty=.tok):∃n,r=.tok n:=by cases r<;>simp_all [R.ty]
theorem cf {r:R} {k:IntKind} (h:r.ty=.int k):∃n,r=.int k n:=by cases r<;>simp_all [R.ty]
theorem VI {r:R} (h:r.ty=.bool):∃n,r=.bool n:=by cases r<;>simp_all [R.ty]
theorem vK {r:R} {t:Ty} (h:r.ty=.sl t):∃xs,r=.sl t xs:=by
 cases r with
 |sl t' xs=>cases h;exact⟨xs,rfl⟩
 |_=>cases h
theorem JB:(rs:List R)->rs.map R.ty=S.tys .shape->∃x,Ge rs=some x
 |[x0,x1,x2],h=>by
  simp only[S.tys,XQ,YK,X6,and_true]at h;obtain⟨h0,h1,h2⟩:=h;obtain⟨_,rfl⟩:=cf h0;obtain⟨_,rfl⟩:=cf h1;obtain⟨_,rfl⟩:=cf h2
  simp[Ge,R.asI,R.asB,R.asL]
 |[],h=>by have:=congrArg List.length h;simp[S.tys]at this
 |[_],h=>by have:=congrArg List.length h;simp[S.tys]at this
 |[_,_],h=>by have:=congrArg List.length h;simp[S.tys]at this
 |_::_::_::_::_,h=>by have:=congrArg List.length h;simp[S.tys]at this
theorem Hq:(rs:List R)->rs.map R.ty=S.tys .eN->∃x,Ak rs=some x
 |[x0,x1,x2,x3],h=>by
  simp only[S.tys,XQ,YK,X6,and_true]at h;obtain⟨h0,h1,h2,h3⟩:=h;obtain⟨_,rfl⟩:=cf h0;obtain⟨_,rfl⟩:=cf h1;obtain⟨_,rfl⟩:=cf h2;obtain⟨_,rfl⟩:=vK h3
  simp[Ak,R.asI,R.asB,R.asL]
 |[],h=>by have:=congrArg List.length h;simp[S.tys]at this
 |[_],h=>by have:=congrArg List.length h;simp[S.tys]at this
 |[_,_],h=>by have:=congrArg List.length h;simp[S.tys]at this
 |[_,_,_],h=>by have:=congrArg List.length h;simp[S.tys]at this
 |_::_::_::_::_::_,h=>by have:=congrArg List.length h;simp[S.tys]at this
theorem JC:(rs:List R)->rs.map R.ty=S.tys .bG->∃x,Gg rs=some x
 |[x0,x1,x2,x3,x4,x5,x6,x7,x8],h=>by
  simp only[S.tys,XQ,YK,X6,and_true]at h;obtain⟨h0,h1,h2,h3,h4,h5,h6,h7,h8⟩:=h;obtain⟨_,rfl⟩:=cf h0;obtain⟨_,rfl⟩:=cf h1;obtain⟨_,rfl⟩:=cf h2;obtain⟨_,rfl⟩:=cf h3;obtain⟨_,rfl⟩:=cf h4;obtain⟨_,rfl⟩:=cf h5;obtain⟨_,rfl⟩:=cf h6;obtain⟨_,rfl⟩:=vK h7;obtain⟨_,rfl⟩:=vK h8
  simp[Gg,R.asI,R.asB,R.asL]
 |[],h=>by have:=congrArg List.length h;simp[S.tys]at this
 |[_],h=>by have:=congrArg List.length h;simp[S.tys]at this
 |[_,_],h=>by have:=congrArg List.length h;simp[S.tys]at this
 |[_,_,_],h=>by have:=congrArg List.length h;simp[S.tys]at this
 |[_,_,_,_],h=>by have:=congrArg List.length h;simp[S.tys]at this
 |[_,_,_,_,_],h=>by have:=congrArg List.length h;simp[S.tys]at this
 |[_,_,_,_,_,_],h=>by have:=congrArg List.length h;simp[S.tys]at this
 |[_,_,_,_,_,_,_],h=>by have:=congrArg List.length h;simp[S.tys]at this
 |[_,_,_,_,_,_,_,_],h=>by have:=congrArg List.length h;simp[S.tys]at this
 |_::_::_::_::_::_::_::_::_::_::_,h=>by have:=congrArg List.length h;simp[S.tys]at this
theorem JD:(rs:List R)->rs.map R.ty=S.tys .model->∃x,Gh rs=some x
 |[x0,x1,x2,x3],h=>by
  simp only[S.tys,XQ,YK,X6,and_true]at h;obtain⟨h0,h1,h2,h3⟩:=h;obtain⟨_,rfl⟩:=cf h0;obtain⟨_,rfl⟩:=cf h1;obtain⟨_,rfl⟩:=cf h2;obtain⟨_,rfl⟩:=vK h3
  simp[Gh,R.asI,R.asB,R.asL]
 |[],h=>by have:=congrArg List.length h;simp[S.tys]at this
 |[_],h=>by have:=congrArg List.length h;simp[S.tys]at this
 |[_,_],h=>by have:=congrArg List.length h;simp[S.tys]at this
 |[_,_,_],h=>by have:=congrArg List.length h;simp[S.tys]at this
 |_::_::_::_::_::_,h=>by have:=congrArg List.length h;simp[S.tys]at this
theorem Mz:(rs:List R)->rs.map R.ty=S.tys .task->∃x,Ng rs=some x
 |[x0,x1,x2,x3,x4],h=>by
  simp only[S.tys,XQ,YK,X6,and_true]at h;obtain⟨h0,h1,h2,h3,h4⟩:=h;obtain⟨_,rfl⟩:=cf h0;obtain⟨_,rfl⟩:=vK h1;obtain⟨_,rfl⟩:=cf h2;obtain⟨_,rfl⟩:=cf h3;obtain⟨_,rfl⟩:=cf h4
  simp[Ng,R.asI,R.asB,R.asL]
 |[],h=>by have:=congrArg List.length h;simp[S.tys]at this
 |[_],h=>by have:=congrArg List.length h;simp[S.tys]at this
 |[_,_],h=>by have:=congrArg List.length h;simp[S.tys]at this
 |[_,_,_],h=>by have:=congrArg List.length h;simp[S.tys]at this
 |[_,_,_,_],h=>by have:=congrArg List.length h;simp[S.tys]at this
 |_::_::_::_::_::_::_,h=>by have:=congrArg List.length h;simp[S.tys]at this
theorem Fb:(rs:List R)->rs.map R.ty=S.tys .request->∃x,vi rs=some x
 |[x0,x1,x2,x3,x4,x5,x6,x7,x8,x9,x10,x11,x12],h=>by
  simp only[S.tys,XQ,YK,X6,and_true]at h;obtain⟨h0,h1,h2,h3,h4,h5,h6,h7,h8,h9,h10,h11,h12⟩:=h;obtain⟨_,rfl⟩:=cf h0;obtain⟨_,rfl⟩:=cf h1;obtain⟨_,rfl⟩:=cf h2;obtain⟨_,rfl⟩:=cf h3;obtain⟨_,rfl⟩:=cf h4;obtain⟨_,rfl⟩:=vK h5;obtain⟨_,rfl⟩:=cf h6;obtain⟨_,rfl⟩:=cf h7;obtain⟨_,rfl⟩:=cf h8;obtain⟨_,rfl⟩:=cf h9;obtain⟨_,rfl⟩:=vK h10;obtain⟨_,rfl⟩:=cf h11;obtain⟨_,rfl⟩:=cf h12
  simp[vi,R.asI,R.asB,R.asL]
 |[],h=>by have:=congrArg List.length h;simp[S.tys]at this
 |[_],h=>by have:=congrArg List.length h;simp[S.tys]at this
 |[_,_],h=>by have:=congrArg List.length h;simp[S.tys]at this
 |[_,_,_],h=>by have:=congrArg List.length h;simp[S.tys]at this
 |[_,_,_,_],h=>by have:=congrArg List.length h;simp[S.tys]at this
 |[_,_,_,_,_],h=>by have:=congrArg List.length h;simp[S.tys]at this
 |[_,_,_,_,_,_],h=>by have:=congrArg List.length h;simp[S.tys]at this
 |[_,_,_,_,_,_,_],h=>by have:=congrArg List.length h;simp[S.tys]at this
 |[_,_,_,_,_,_,_,_],h=>by have:=congrArg List.length h;simp[S.tys]at this
 |[_,_,_,_,_,_,_,_,_],h=>by have:=congrArg List.length h;simp[S.tys]at this
 |[_,_,_,_,_,_,_,_,_,_],h=>by have:=congrArg List.length h;simp[S.tys]at this
 |[_,_,_,_,_,_,_,_,_,_,_],h=>by have:=congrArg List.length h;simp[S.tys]at this
 |[_,_,_,_,_,_,_,_,_,_,_,_],h=>by have:=congrArg List.length h;simp[S.tys]at this
 |_::_::_::_::_::_::_::_::_::_::_::_::_::_::_,h=>by have:=congrArg List.length h;simp[S.tys]at this
theorem MA:(rs:List R)->rs.map R.ty=S.tys .step->∃x,Nh rs=some x
 |[x0,x1,x2,x3,x4,x5,x6,x7],h=>by
  simp only[S.tys,XQ,YK,X6,and_true]at h;obtain⟨h0,h1,h2,h3,h4,h5,h6,h7⟩:=h;obtain⟨_,rfl⟩:=cf h0;obtain⟨_,rfl⟩:=cf h1;obtain⟨_,rfl⟩:=cf h2;obtain⟨_,rfl⟩:=vK h3;obtain⟨_,rfl⟩:=cf h4;obtain⟨_,rfl⟩:=cf h5;obtain⟨_,rfl⟩:=cf h6;obtain⟨_,rfl⟩:=vK h7
  simp[Nh,R.asI,R.asB,R.asL]
 |[],h=>by have:=congrArg List.length h;simp[S.tys]at this
 |[_],h=>by have:=congrArg List.length h;simp[S.tys]at this
 |[_,_],h=>by have:=congrArg List.length h;simp[S.tys]at this
 |[_,_,_],h=>by have:=congrArg List.length h;simp[S.tys]at this
 |[_,_,_,_],h=>by have:=congrArg List.length h;simp[S.tys]at this
 |[_,_,_,_,_],h=>by have:=congrArg List.length h;simp[S.tys]at this
 |[_,_,_,_,_,_],h=>by have:=congrArg List.length h;simp[S.tys]at this
 |[_,_,_,_,_,_,_],h=>by have:=congrArg List.length h;simp[S.tys]at this
 |_::_::_::_::_::_::_::_::_::_,h=>by have:=congrArg List.length h;simp[S.tys]at this
theorem JE:(rs:List R)->rs.map R.ty=S.tys .event->∃x,Gi rs=some x
 |[x0,x1,x2,x3,x4,x5,x6],h=>by
  simp only[S.tys,XQ,YK,X6,and_true]at h;obtain⟨h0,h1,h2,h3,h4,h5,h6⟩:=h;obtain⟨_,rfl⟩:=cf h0;obtain⟨_,rfl⟩:=cf h1;obtain⟨_,rfl⟩:=cf h2;obtain⟨_,rfl⟩:=cf h3;obtain⟨_,rfl⟩:=cf h4;obtain⟨_,rfl⟩:=cf h5;obtain⟨_,rfl⟩:=vK h6
  simp[Gi,R.asI,R.asB,R.asL]
 |[],h=>by have:=congrArg List.length h;simp[S.tys]at this
 |[_],h=>by have:=congrArg List.length h;simp[S.tys]at this
 |[_,_],h=>by have:=congrArg List.length h;simp[S.tys]at this
 |[_,_,_],h=>by have:=congrArg List.length h;simp[S.tys]at this
 |[_,_,_,_],h=>by have:=congrArg List.length h;simp[S.tys]at this
 |[_,_,_,_,_],h=>by have:=congrArg List.length h;simp[S.tys]at this
 |[_,_,_,_,_,_],h=>by have:=congrArg List.length h;simp[S.tys]at this
 |_::_::_::_::_::_::_::_::_,h=>by have:=congrArg List.length h;simp[S.tys]at this
theorem JF:(rs:List R)->rs.map R.ty=S.tys .entry->∃x,Gj rs=some x
 |[x0,x1,x2,x3,x4,x5,x6,x7,x8,x9,x10,x11,x12],h=>by
  simp only[S.tys,XQ,YK,X6,and_true]at h;obtain⟨h0,h1,h2,h3,h4,h5,h6,h7,h8,h9,h10,h11,h12⟩:=h;obtain⟨_,rfl⟩:=cf h0;obtain⟨_,rfl⟩:=cf h1;obtain⟨_,rfl⟩:=cf h2;obtain⟨_,rfl⟩:=cf h3;obtain⟨_,rfl⟩:=vK h4;obtain⟨_,rfl⟩:=cf h5;obtain⟨_,rfl⟩:=cf h6;obtain⟨_,rfl⟩:=cf h7;obtain⟨_,rfl⟩:=vK h8;obtain⟨_,rfl⟩:=cf h9;obtain⟨_,rfl⟩:=cf h10;obtain⟨_,rfl⟩:=cf h11;obtain⟨_,rfl⟩:=VI h12
  simp[Gj,R.asI,R.asB,R.asL]
 |[],h=>by have:=congrArg List.length h;simp[S.tys]at this
 |[_],h=>by have:=congrArg List.length h;simp[S.tys]at this
 |[_,_],h=>by have:=congrArg List.length h;simp[S.tys]at this
 |[_,_,_],h=>by have:=congrArg List.length h;simp[S.tys]at this
 |[_,_,_,_],h=>by have:=congrArg List.length h;simp[S.tys]at this
 |[_,_,_,_,_],h=>by have:=congrArg List.length h;simp[S.tys]at this
 |[_,_,_,_,_,_],h=>by have:=congrArg List.length h;simp[S.tys]at this
 |[_,_,_,_,_,_,_],h=>by have:=congrArg List.length h;simp[S.tys]at this
 |[_,_,_,_,_,_,_,_],h=>by have:=congrArg List.length h;simp[S.tys]at this
 |[_,_,_,_,_,_,_,_,_],h=>by have:=congrArg List.length h;simp[S.tys]at this
 |[_,_,_,_,_,_,_,_,_,_],h=>by have:=congrArg List.length h;simp[S.tys]at this
 |[_,_,_,_,_,_,_,_,_,_,_],h=>by have:=congrArg List.length h;simp[S.tys]at this
 |[_,_,_,_,_,_,_,_,_,_,_,_],h=>by have:=congrArg List.length h;simp[S.tys]at this
 |_::_::_::_::_::_::_::_::_::_::_::_::_::_::_,h=>by have:=congrArg List.length h;simp[S.tys]at this
theorem MB:(rs:List R)->rs.map R.ty=S.tys .P5->∃x,Ni rs=some x
 |[x0,x1,x2],h=>by
  simp only[S.tys,XQ,YK,X6,and_true]at h;obtain⟨h0,h1,h2⟩:=h;obtain⟨_,rfl⟩:=cf h0;obtain⟨_,rfl⟩:=cf h1;obtain⟨_,rfl⟩:=cf h2
  simp[Ni,R.asI,R.asB,R.asL]
 |[],h=>by have:=congrArg List.length h;simp[S.tys]at this
 |[_],h=>by have:=congrArg List.length h;simp[S.tys]at this
 |[_,_],h=>by have:=congrArg List.length h;simp[S.tys]at this
 |_::_::_::_::_,h=>by have:=congrArg List.length h;simp[S.tys]at this
theorem bB {α β:Type} {f:α->β} {rs:List α} {t:β} {ts:List β} (h:rs.map f=t::ts):∃r rs',rs=r::rs'/\f r=t/\rs'.map f=ts:=by
 cases rs with
 |nil=>cases h
 |cons r rs=>grind
theorem JG (rs:List R) (h:rs.map R.ty=S.tys .fD):∃x,Kg rs=some x:=by
 obtain⟨a0,rs,rfl,g0,h⟩:=bB h;obtain⟨a1,rs,rfl,g1,h⟩:=bB h;obtain⟨a2,rs,rfl,g2,h⟩:=bB h;obtain⟨a3,rs,rfl,g3,h⟩:=bB h;obtain⟨a4,rs,rfl,g4,h⟩:=bB h;rw[List.map_eq_nil_iff]at h;subst h;obtain⟨x0,rfl⟩:=cf g0;obtain⟨x1,rfl⟩:=S5 g1;obtain⟨x2,rfl⟩:=cf g2;obtain⟨x3,rfl⟩:=cf g3;obtain⟨x4,rfl⟩:=cf g4;exact⟨_,rfl⟩
theorem CL (rs:List R) (h:rs.map R.ty=S.tys .jg):∃x,vj rs=some x:=by
 obtain⟨a0,rs,rfl,g0,h⟩:=bB h;obtain⟨a1,rs,rfl,g1,h⟩:=bB h;obtain⟨a2,rs,rfl,g2,h⟩:=bB h;obtain⟨a3,rs,rfl,g3,h⟩:=bB h;obtain⟨a4,rs,rfl,g4,h⟩:=bB h;obtain⟨a5,rs,rfl,g5,h⟩:=bB h;obtain⟨a6,rs,rfl,g6,h⟩:=bB h;obtain⟨a7,rs,rfl,g7,h⟩:=bB h;obtain⟨a8,rs,rfl,g8,h⟩:=bB h;obtain⟨a9,rs,rfl,g9,h⟩:=bB h;obtain⟨a10,rs,rfl,g10,h⟩:=bB h;obtain⟨a11,rs,rfl,g11,h⟩:=bB h;obtain⟨a12,rs,rfl,g12,h⟩:=bB h;rw[List.map_eq_nil_iff]at h;subst h;obtain⟨x0,rfl⟩:=cf g0;obtain⟨x1,rfl⟩:=cf g1;obtain⟨x2,rfl⟩:=cf g2;obtain⟨x3,rfl⟩:=cf g3;obtain⟨x4,rfl⟩:=cf g4;obtain⟨x5,rfl⟩:=S5 g5;obtain⟨x6,rfl⟩:=cf g6;obtain⟨x7,rfl⟩:=cf g7;obtain⟨x8,rfl⟩:=cf g8;obtain⟨x9,rfl⟩:=cf g9;obtain⟨x10,rfl⟩:=S5 g10;obtain⟨x11,rfl⟩:=cf g11;obtain⟨x12,rfl⟩:=cf g12;exact⟨_,rfl⟩
theorem Fc (t:Ty) (rs:List R) (h:rs.map R.ty=t.tys):∃x,t.eV rs=some x:=by
 have single:∀{t:Ty},(∀s,t≠.st s)->t.tys=[t]->rs.map R.ty=t.tys->∃r,rs=[r]/\r.ty=t:=λ{t} _ e h=>by
  rw[e]at h
  match rs,h with
  |[r],h=>grind
 have key:∀s:S,rs.map R.ty=s.tys->∃x,s.eV rs=some x:=λs h=>by
  cases s with
  |shape=>exact JB rs h
  |eN=>exact Hq rs h
  |bG=>exact JC rs h
  |model=>exact JD rs h
  |task=>exact Mz rs h
  |request=>exact Fb rs h
  |step=>exact MA rs h
  |event=>exact JE rs h
  |entry=>exact JF rs h
  |P5=>exact MB rs h
  |fD=>exact JG rs h
  |jg=>exact CL rs h
 cases t with
 |st s=>exact key s h
 |ho s=>
  obtain⟨x,hx⟩:=key s h
  exact⟨some x,by show(s.eV rs).bind _=_;rw[hx];rfl⟩
 |hl t=>
  have h:rs.map R.ty=[.sl t]:=h;obtain⟨r,rs',rfl,hr,h⟩:=List.map_eq_cons_iff.1 h;rw[List.map_eq_nil_iff]at h;subst h;obtain⟨xs,rfl⟩:=vK hr
  exact⟨some xs,by show(if h:t=t then some (some (h▸xs))else none)=_;rw[dif_pos rfl];rfl⟩
 |tok=>obtain⟨r,rfl,e⟩:=single (t:=.tok) (λs h=>nomatch h) rfl h;exact kS _ r e (λs h=>nomatch h)
 |int k=>obtain⟨r,rfl,e⟩:=single (t:=.int k) (λs h=>nomatch h) rfl h;exact kS _ r e (λs h=>nomatch h)
 |bool=>obtain⟨r,rfl,e⟩:=single (t:=.bool) (λs h=>nomatch h) rfl h;exact kS _ r e (λs h=>nomatch h)
 |str=>obtain⟨r,rfl,e⟩:=single (t:=.str) (λs h=>nomatch h) rfl h;exact kS _ r e (λs h=>nomatch h)
 |sl t=>obtain⟨r,rfl,e⟩:=single (t:=.sl t) (λs h=>nomatch h) rfl h;exact kS _ r e (λs h=>nomatch h)
def K3 (P:Program) (g:TypeId->Option (List Ty)):Nat->List Field->Option (List Ty)
 |_,[]=>some []
 |off,f::l=>cond (Nat.beq f.offset off) ((g f.type).bind λts=>cond (Nat.beq (P.cellsOf f.type) ts.length) ((K3 P g (off+ts.length) l).bind λus=>some (ts++us)) none) none
def zy (P:Program) (tt:TT):Nat->TypeId->Option (List Ty)
 |0,_=>none
 |n+1,T=>match P.underlying T with
  |some (.int k)=>some [.int k]
  |some .bool=>some [.bool]
  |some .string=>some [.str]
  |some (.slice e)=>(tt e).bind λt=>(zy P tt n e).bind λts=>if ts=t.tys/\P.cellsOf e=ts.length then some [.sl t]else none
  |some (.struct fs)=>(K3 P (zy P tt n) 0 fs.toList).bind λts=>cond (Nat.beq (P.cellsOf T) ts.length) (some ts) none
  |_=>none
def nN (w:World) (ts:List Ty) (cs:List Value):Prop:=
 ∃rs:List R,rs.map R.ty=ts/\rs.length=cs.length/\∀(j:Nat) (r:R) (v:Value),rs[j]? =some r->cs[j]? =some v->RepR w (λ_=>True) r v/\r.Wf
theorem nN.one {w:World} {r:R} {v:Value} (h:RepR w (λ_=>True) r v) (hw:r.Wf):nN w [r.ty] [v]:=
  ⟨[r],rfl,rfl,λj r' v' h1 h2=>by
    cases j with
    |zero=>grind
    |succ j=>simp at h1⟩
theorem nN.append {w:World} {ts us:List Ty} {cs ds:List Value} (h:nN w ts cs) (g:nN w us ds):nN w (ts++us) (cs++ds):=by
 obtain⟨rs,h1,h2,h3⟩:=h;obtain⟨qs,g1,g2,g3⟩:=g;refine⟨rs++qs,by simp[h1,g1],by simp[h2,g2],λj r v hr hv=>?_⟩;grind
section
variable {H:Type} {enc:TypeId× Value->H} {P:Program} {tt:TT} {w:World} {base:Nat} {sp:Nat->Bool} {held:Bool}
theorem Ba {g:TypeId->Option (List Ty)} {F:TypeId->List Value->Option (DataW H× List MemPlace)} (hg:∀T cs x ts,F T cs=some x->g T=some ts->cs.length=P.cellsOf T->nN w ts cs) (cs:List Value):
  ∀(fs:List Field) (off:Nat) (ts:List Ty) (xs:List (DataW H× List MemPlace)),K3 P g off fs=some ts->fs.mapM (λf=>F f.type ((cs.drop f.offset).take (P.cellsOf f.type)))=some xs->off+ts.length=cs.length->nN w ts (cs.drop off)
 |[],off,ts,xs,h,_,hl=>by
  cases h;have:cs.drop off=[]:=List.drop_eq_nil_of_le (by simp at hl;omega)
  rw[this];exact⟨[],rfl,rfl,λj r v hr _=>by simp at hr⟩
 |f::fs,off,ts,xs,h,hm,hl=>by
  simp only[K3]at h;cases ho:Nat.beq f.offset off<;>simp only[ho,cond_true,cond_false,An]at h
  ·cases h
  have ho:=So ho;obtain⟨us,hu,h⟩:=h;cases hc:Nat.beq (P.cellsOf f.type) us.length<;>simp only[hc,cond_true,cond_false,An,It]at h
  ·cases h
  have hc:=So hc;obtain⟨vs,hv,rfl⟩:=h;rw[List.mapM_cons]at hm
  cases hF:F f.type ((cs.drop f.offset).take (P.cellsOf f.type))with
  |none=>grind
  |some y=>
   cases hR:fs.mapM (λf=>F f.type ((cs.drop f.offset).take (P.cellsOf f.type)))with
   |none=>grind
   |some ys=>
    rw[W5]at hl;have h1:=hg _ _ _ _ hF hu (by rw[Xw,XZ];omega);have h2:=Ba hg cs fs (off+us.length) vs ys hv hR (by omega);rw[ho,hc]at h1;have:=h1.append h2;rwa [<-List.drop_drop,XU]at this
theorem trod_int {fuel:Nat} {T:TypeId} {cs:List Value} {x:DataW H× List MemPlace} {k:IntKind} (hu:P.underlying T=some (.int k)) (h:DataW.trod enc P w base sp held fuel T cs=some x):∃n,cs=[.int k n]/\(Lit.int k n).wf=true:=by
 cases fuel with
 |zero=>cases h
 |succ fuel=>
  unfold DataW.trod at h;grind
theorem trod_bool {fuel:Nat} {T:TypeId} {cs:List Value} {x:DataW H× List MemPlace} (hu:P.underlying T=some .bool) (h:DataW.trod enc P w base sp held fuel T cs=some x):∃b,cs=[.bool b]:=by
 cases fuel with
 |zero=>cases h
 |succ fuel=>
  unfold DataW.trod at h;grind
theorem Q2 {fuel:Nat} {T:TypeId} {cs:List Value} {x:DataW H× List MemPlace} (hu:P.underlying T=some .string) (h:DataW.trod enc P w base sp held fuel T cs=some x):∃s,cs=[.string s]/\s.size<=maxLen:=by
 cases fuel with
 |zero=>cases h
 |succ fuel=>
  unfold DataW.trod at h;grind
theorem JH {fuel:Nat} {T:TypeId} {cs:List Value} {x:DataW H× List MemPlace} {fs:Array Field} (hu:P.underlying T=some (.struct fs)) (h:DataW.trod enc P w base sp held fuel T cs=some x):
  ∃fuel' xs,cs.length=P.cellsOf T/\fs.toList.mapM (λf=>DataW.trod enc P w base sp held fuel' f.type ((cs.drop f.offset).take (P.cellsOf f.type)))=some xs:=by
 cases fuel with
 |zero=>cases h
 |succ fuel=>
  unfold DataW.trod at h;simp only[hu]at h;split at h
  ·rename_i hl;obtain⟨xs,hx,_⟩:=Xb.1 h;exact⟨fuel,xs,hl,hx⟩
  ·cases h
theorem Bb {α:Type} {Q:Nat->α->Prop}:∀(n:Nat),(∀i,i<n->∃x,Q i x)->∃l:List α,l.length=n/\∀(i:Nat) (x:α),l[i]? =some x->Q i x
 |0,_=>⟨[],rfl,λi x h=>by simp at h⟩
 |n+1,h=>by
  obtain⟨l,h1,h2⟩:=Bb n λi hi=>h i (by omega);obtain⟨x,hx⟩:=h n (by omega);refine⟨l++[x],by simp[h1],λi y hy=>?_⟩;grind
theorem OS {a:Addr} {v:Value} (h:w.cell? a=some v):a.spot=none:=by
 unfold World.cell? at h
 cases hs:a.spot with
 |none=>rfl
 |some s=>grind
theorem DJ {n j:Nat} (h:j<n):(List.range n)[j]? =some j:=by rw[On (by simpa using h)];simp
theorem xz:∀(n fuel:Nat) (T:TypeId) (cs:List Value) (x:DataW H× List MemPlace) (ts:List Ty),DataW.trod enc P w base sp held fuel T cs=some x->zy P tt n T=some ts->nN w ts cs
 |0,_,_,_,_,_,_,h=>nomatch h
 |n+1,fuel,T,cs,x,ts,h,hf=>by
  unfold zy at hf;split at hf
  ·rename_i k hu;cases hf;obtain⟨m,rfl,hw⟩:=trod_int hu h;exact nN.one (.int k m) (.int k m hw)
  ·rename_i hu;cases hf;obtain⟨b,rfl⟩:=trod_bool hu h;exact nN.one (.bool b) (.bool b)
  ·rename_i hu;cases hf;obtain⟨s,rfl,hsl⟩:=Q2 hu h
   have:s=⟨s.data.toList.toArray⟩:=by simp
   rw[this];exact nN.one (.str s.data.toList) (.str _ (by simpa using hsl))
  ·rename_i e hu;simp only[An]at hf;obtain⟨t,ht,us,hus,hf⟩:=hf;split at hf
   ·rename_i hc;obtain⟨rfl,hsz⟩:=hc;cases hf;rw[Ty.wW]at hsz
    rcases DataW.trod_slice hu h with⟨rfl,_⟩|⟨a,len,cap,elems,rest,n',_,rfl,_,hb,hlc,hcap,hlen,hel,_⟩
    ·exact nN.one (.sl t [] none 0 0 0 (λ_ _=>undef) (Xt _) (.inl rfl) (λi j r ⟨x,hx,_⟩=>by simp at hx) (λi j r ⟨x,hx,_⟩=>by simp at hx)) (.sl t [] (λi j r ⟨x,hx,_⟩=>by simp at hx) (XE _))
    ·subst hlen
     have WQ:∀i,i<elems.length->∃x:t.El,∃ds,w.cells? base (a.add (i*P.cellsOf e)) (P.cellsOf e)=some ds/\(t.cells x).length=ds.length/\
       ∀(j:Nat) (r:R) (v:Value),(t.cells x)[j]? =some r->ds[j]? =some v->RepR w (λ_=>True) r v/\r.Wf:=λi hi=>by
      have:=hel i hi;rw[On hi]at this;obtain⟨ds,h1,h2⟩:=An.1 this;obtain⟨rs,g1,g2,g3⟩:=xz n n' e ds _ _ h2 hus;obtain⟨x,hx⟩:=Fc t rs g1;have hc:=Ty.cG t rs x hx;grind
     obtain⟨xs,hxl,hxs⟩:=Bb elems.length WQ
     have key:∀i j r,aG t xs i j r->a.spot=none/\∃v,w.at? (a.block,a.off+(i*t.sz+j))=some v/\RepR w (λ_=>True) r v/\r.Wf:=λi j r ⟨x,hx,hr⟩=>by
      obtain⟨ds,h1,h2,h3⟩:=hxs i x hx
      have hj:j<ds.length:=by rw[<-h2];exact(Of.1 hr).1
      unfold World.cells? at h1;rw[if_pos (by unfold Addr.add;split<;>exact hb)]at h1;have hl:=mapM_some_length h1;rw[List.length_range]at hl;have hg:=mapM_some_get h1 j j (DJ (by omega));rw[On hj]at hg
      have hsp:a.spot=none:=by
       have hi:i<xs.length:=(Of.1 hx).1;obtain⟨es,q1,q2,_⟩:=hxs 0 _ (On (by omega));have Md:=t.hY;rw[Ty.cd]at q2;unfold World.cells? at q1;rw[if_pos (by unfold Addr.add;split<;>exact hb)]at q1;have h0:=mapM_some_get q1 0 0 (DJ (by omega));rw[On (by omega)]at h0;have hs:=OS h0;simpa[Addr.add]using hs
      refine⟨hsp,ds[j],?_,h3 j r _ hr (On hj)⟩
      have:(a.add (i*P.cellsOf e)).add j=⟨a.block,a.off+(i*t.sz+j),none⟩:=by
       obtain⟨b0,o0,s0⟩:=a;simp only at hsp;subst hsp;rw[hsz];simp only[Addr.add];grind
      rw[this]at hg;exact hg
     rw[<-hxl]
     have Vl:RepR w (λ_=>True) (.sl t xs) (.slice (some a) xs.length cap):=by
      refine .sl t xs (some a) cap a.block a.off (λi j=>(w.at? (a.block,a.off+(i*t.sz+j))).getD undef) (by omega) ?_ (λi j r hc=>?_) (λi j r hc=>?_)
      ·cases xs with
       |nil=>exact .inl rfl
       |cons x l=>
        right;obtain⟨r,hr⟩:=dV (t:=t) (xs:=x::l) (i:=0) (j:=0) (by simp) t.hY;have:=(key 0 0 r hr).1;obtain⟨b0,o0,s0⟩:=a;grind
      ·grind
      ·grind
     exact nN.one Vl (.sl t xs (λi j r hc=>by obtain⟨_,v,_,_,hw⟩:=key i j r hc;exact hw) (by omega))
   ·cases hf
  ·rename_i fs hu;simp only[An]at hf;obtain⟨us,hus,hf⟩:=hf;cases hc:Nat.beq (P.cellsOf T) us.length<;>simp only[hc,cond_true,cond_false]at hf
   ·cases hf
   cases hf;have hc:=So hc;obtain⟨fuel',xs,hl,hx⟩:=JH hu h;have:=Ba (F:=DataW.trod enc P w base sp held fuel') (λT cs x ts h1 h2 _=>xz n fuel' T cs x ts h1 h2) cs fs.toList 0 _ xs hus hx (by omega);grind
  ·cases hf
end
end
section
variable [Tok] [Glo]
open Go.ChangeShapes Go.WideShapes Go.ChangeAt Go.RowKit
def OT (P:Program) (tt:TT) (T:TypeId) (a:Arg):Prop:=
 ∃ts,zy P tt 8 T=some ts/\((∃fs,P.underlying T=some (.struct fs))->∃rs:List R,a=.agg rs/\rs.map R.ty=ts/\∀r∈rs,r.Wf)/\
  ((∀fs,P.underlying T≠some (.struct fs))->∃r:R,a=.one r/\[r.ty]=ts/\r.Wf)
def Bc (P:Program) (tt:TT):List TypeId->List Arg->Prop
 |[],[]=>True
 |T::Ts,a::as=>OT P tt T a/\Bc P tt Ts as
 |_,_=>False
section
variable {H:Type} {enc:TypeId× Value->H} {P:Program} {tt:TT} {w:World} {base:Nat} {sp:Nat->Bool} {held:Bool}
theorem Q3 {b0:Nat} {T:TypeId} {v:Value} {d:DataW H} {p:List MemPlace} {ts:List Ty} (hd:DataW.Trod enc P w base sp held T v d p) (hv:Value.okWide P w .any b0 T v) (hf:zy P tt 8 T=some ts):
  ∃a,OT P tt T a/\ug w (λ_=>True) a v:=by
 obtain⟨fuel,hd⟩:=hd;obtain⟨rs,h1,h2,h3⟩:=xz 8 fuel T _ _ ts hd hf;by_cases hs:∃fs,P.underlying T=some (.struct fs)
 ·obtain⟨fs,hfs⟩:=hs;simp only[Value.okWide,hfs]at hv;obtain⟨cs,rfl,hsz,_⟩:=hv;refine⟨.agg rs,⟨ts,hf,λ_=>⟨rs,rfl,h1,λr hr=>?_⟩,λh=>(h fs hfs).elim⟩,cs,rfl,by simpa[Value.cells]using h2,λj r u hr hu=>?_⟩
  ·obtain⟨j,hj⟩:=X2 hr
   have hlt:j<cs.size:=by
    have:=(Of.1 hj).1;simp[Value.cells]at h2;omega
   exact(h3 j r cs[j] hj (by simp[Value.cells,hlt])).2
  ·exact(h3 j r u hr (by simpa[Value.cells]using hu)).1
 ·have one1:∀{t},rs.map R.ty=[t]->∃r,rs=[r]:=λh=>List.length_eq_one_iff.1 (by simpa using congrArg List.length h)
  have C6:∃r,rs=[r]:=by
   unfold zy at hf;split at hf
   ·cases hf;exact one1 h1
   ·cases hf;exact one1 h1
   ·cases hf;exact one1 h1
   ·simp only[An]at hf;obtain⟨t,_,us,_,hf⟩:=hf;split at hf
    ·cases hf;exact one1 h1
    ·exact nomatch hf
   ·rename_i fs hu;exact(hs ⟨fs,hu⟩).elim
   ·exact nomatch hf
  obtain⟨r,rfl⟩:=C6
  have UA:v.cells.toList=[v]:=by
   have WR:∀cs,v≠.agg cs:=λcs e=>by
    subst e;unfold zy at hf;split at hf
    ·rename_i k hu;obtain⟨n,e⟩:=okWide_int hu hv;exact nomatch e
    ·rename_i hu;obtain⟨n,e⟩:=okWide_bool hu hv;exact nomatch e
    ·rename_i hu;obtain⟨n,e⟩:=okWide_string hu hv;exact nomatch e
    ·rename_i e hu;obtain⟨a,l,c,e⟩:=okWide_slice hu hv;exact nomatch e
    ·rename_i fs hu;exact(hs ⟨fs,hu⟩).elim
    ·exact nomatch hf
   cases v<;>first|rfl|exact(WR _ rfl).elim
  rw[UA]at h3;have:=h3 0 r v rfl rfl;exact⟨.one r,⟨ts,hf,λh=>(hs h).elim,λ_=>⟨r,rfl,by simpa using h1,this.2⟩⟩,this.1⟩
theorem Hr {b0:Nat}:∀{Ts:List TypeId} {vs:List Value} {ds:List (DataW H)} {ps:List MemPlace},DataW.TrodAll enc P w base sp held Ts vs ds ps->
  (∀(j:Nat) t v,Ts[j]? =some t->vs[j]? =some v->Value.okWide P w .any b0 t v)->(Ts.all λT=>(zy P tt 8 T).isSome)=true->
  ∃as,Bc P tt Ts as/\as.length=vs.length/\ds.length=Ts.length/\∀(j:Nat) (x:Arg) (u:Value),as[j]? =some x->vs[j]? =some u->ug w (λ_=>True) x u
 |[],[],[],_,_,_,_=>⟨[],trivial,rfl,rfl,λj x u h=>by simp at h⟩
 |T::Ts,v::vs,d::ds,ps,⟨p,q,h1,h2,_⟩,hv,hf=>by
  simp only[Yw,W3]at hf;obtain⟨ts,hts⟩:=Option.isSome_iff_exists.1 hf.1;obtain⟨a,g1,g2⟩:=Q3 h1 (hv 0 T v rfl rfl) hts;obtain⟨as,g3,g4,g5,g6⟩:=Hr h2 (λj t v ht hw=>hv (j+1) t v (by simpa using ht) (by simpa using hw)) hf.2;refine⟨a::as,⟨g1,g3⟩,by simp[g4],by simp[g5],λj x u hx hu=>?_⟩
  cases j with
  |zero=>simp at hx hu;subst hx hu;exact g2
  |succ j=>exact g6 j x u (by simpa using hx) (by simpa using hu)
 |[],_::_,_,_,h,_,_=>nomatch h
 |[],[],_::_,_,h,_,_=>nomatch h
 |_::_,[],_,_,h,_,_=>nomatch h
 |_::_,_::_,[],_,h,_,_=>nomatch h
variable {w':World}
theorem JI (hg:dy w w') (hc:∀(p:Cell) x,w.at? p=some x->w'.at? p=some x/\w'.eD p=w.eD p) (may:MemPlace->Prop):w.keptBut w' may:=by
 obtain⟨h1,h2,h3⟩:=hg;refine⟨h1,h2,λi hi=>?_⟩;have:=h3 i hi;split at this
 ·rename_i c t fr c' t' fr' e1 e2;obtain⟨q1,q2,q3⟩:=this;rw[e1,e2];refine⟨q1,?_,q3,λj _=>?_⟩
  ·rcases q2 with q2|q2
   ·exact q2
   ·have h0:w.at? (i,0)=some c[0]:=by simp[World.at?,World.cell?,e1,q2]
    have:=(hc _ _ h0).2;simp only[World.eD,e1,e2,Xc]at this;exact Prod.ext this.1 this.2.1
  ·by_cases hj:j<c.size
   ·have:w.at? (i,j)=some c[j]:=by simp[World.at?,World.cell?,e1,hj]
    have:=(hc _ _ this).1;simp only[World.at?,World.cell?,e2,YF,Yt,if_false]at this;rw[this,Xj hj]
   ·rw[Array.getElem?_eq_none (by omega),Array.getElem?_eq_none (by omega)]
 ·rename_i x y h4;rw[this];split
  ·rename_i e1 e2;rw[e1]at e2;cases e2;exact⟨rfl,rfl,rfl,λ_ _=>rfl⟩
  ·rename_i e1 e2;rw[e1]at e2;cases e2;exact .inr ⟨rfl,rfl⟩
  ·rfl
theorem OU {may:MemPlace->Prop} (h:w.keptBut w' may) {a:Addr} (ha:a.block<w.heap.size):w'.frozen? a=w.frozen? a:=by
 have:=h.2.2 a.block ha;unfold World.frozen?;split at this
 ·rename_i e1 e2;obtain⟨_,q2,_⟩:=this;rw[e1,e2,q2]
 ·rename_i e1 e2;rw[e1,e2]
 ·rw[this]
theorem S6 (hg:dy w w') (hc:∀(p:Cell) x,w.at? p=some x->w'.at? p=some x/\w'.eD p=w.eD p) {p:MemPlace} (hp:p.block<w.heap.size):w.sameAt w' p:=by
 obtain⟨_,_,h3⟩:=JI hg hc λ_=>False
 cases p with
 |cell b o=>
  have:=h3 b hp;show w'.cell? ⟨b,o,none⟩=w.cell? ⟨b,o,none⟩;split at this
  ·rename_i c t fr c' t' fr' e1 e2;obtain⟨q1,q2,q3,q4⟩:=this;simp only[World.cell?,e1,e2,YF,Yt,if_false];exact q4 o (λh=>h)
  ·rename_i es ck es' ck' e1 e2;simp[World.cell?,e1,e2]
  ·simp only[World.cell?,this]
 |map b=>
  have:=h3 b hp;show w'.heap[b]? =w.heap[b]?;split at this
  ·rename_i c t fr c' t' fr' e1 e2;obtain⟨rfl,rfl,q3,q4⟩:=this;rw[e1,e2];have:c'=c:=Array.ext_getElem? λj=>q4 j (λh=>h);rw[this]
  ·rename_i es ck es' ck' e1 e2
   rcases this with h|⟨rfl,rfl⟩
   ·exact h.elim
   ·rw[e1,e2]
  ·exact this
theorem vL (hl:laidOutB P=true):∀{Ts:List TypeId} {vs:List Value} {ds:List (DataW H)} {ps:List MemPlace},(∀t∈Ts,P.readableRec t=true/\t<P.types.size)->
    DataW.TrodAll enc P w 0 (λ_=>true) true Ts vs ds ps->(∀p∈ps,w.sameAt w' p)->(∀p∈ps,sp p.block=true)->DataW.TrodAll enc P w' 0 sp true Ts vs ds ps
  |[],[],[],_,_,h,_,_=>h
  | T :: Ts, v :: vs, d :: ds, ps, hT, ⟨p, q, h1, h2, e⟩, hs, hp =>
    ⟨p,q,WideElems.Trod_stays hl (hT T (by simp)).1 (hT T (by simp)).2 h1 (λx hx=>hs x (by rw[e];exact Za _ hx)) (λx hx=>hp x (by rw[e];exact Za _ hx)),
      vL hl (λt ht=>hT t (by simp[ht])) h2 (λx hx=>hs x (by rw[e];exact Y6 _ hx)) (λx hx=>hp x (by rw[e];exact Y6 _ hx)),e⟩
  |[],_::_,_,_,_,h,_,_=>nomatch h
  |[],[],_::_,_,_,h,_,_=>nomatch h
  |_::_,[],_,_,_,h,_,_=>nomatch h
  |_::_,_::_,[],_,_,h,_,_=>nomatch h
end
theorem OV {H:Type} {enc:TypeId× Value->H} {P:Program} {f:Func} {s:ChangeSpec} {apart fresh handsOn again:Bool} {W W':World} {args:Array Value} {v:Value} {ds gs:List (DataW H)} {before pa pv:List MemPlace}
  (hW:DataW.Whole enc P f.params.toList s.vars apart W args.toList ds gs before)
  (RP:∀(b:Nat) (sp:Nat->Bool) (hd:Bool),DataW.TrodAll enc P W' b sp hd f.resultTypes.toList (v.resultList f.resultTypes.size) (s.fn H (ds++gs)).results [])
  (tV:∀sp:Nat->Bool,(∀p∈before,sp p.block=true)->DataW.TrodAll enc P W' 0 sp true f.params.toList args.toList (s.fn H (ds++gs)).args pa)
  (OW:∀sp:Nat->Bool,(∀p∈before,sp p.block=true)->DataW.TrodVars enc P W' sp s.vars (s.fn H (ds++gs)).vars pv)
  (hps:before=pa++pv) (hk:W.keptBut W' (·∈before)) (hfz:∀b off,MemPlace.cell b off∈before->W'.frozen? ⟨b,off,none⟩=W.frozen? ⟨b,off,none⟩)
  (hok:∀(j:Nat) (t:TypeId) (r:Value),f.resultTypes[j]? =some t->(v.resultList f.resultTypes.size)[j]? =some r->Value.okWide P W' .any 0 t r):s.post enc P f apart fresh handsOn again W args v W':=by
 have hin:∀p∈before,(decide (p.block<W.heap.size))=true:=λp hp=>decide_eq_true (hW.lt p hp);subst hps;refine⟨ds,gs,_,[],pa,pv,hW,RP _ _ _,tV (λb=>decide (b<W.heap.size)) hin,OW _ hin,World.keptBut_mono (λp hp=>⟨hp,.inr (XN.1 hp)⟩) hk,λ_=>?_⟩;obtain⟨_,_,_,_,_,hz,hn⟩:=id hW;refine⟨hok,_,_,([]++pa)++pv,⟨[]++pa,pv,trodAll_append (tV _ λ_ _=>rfl) (RP _ _ _),OW _ λ_ _=>rfl,rfl,λb off hp=>?_,λha=>?_⟩,λp hp _=>?_⟩
 ·have hp:MemPlace.cell b off∈pa++pv:=by simpa using hp
  rw[hfz b off hp];exact hz b off hp
 ·simpa using hn ha
 ·simpa using hp
end
section
open Go.ChangeShapes Go.WideShapes Go.ChangeAt Go.RowKit
section
variable [Tok] [Glo]
theorem pure_str {P:Program} {g:FuncId} (he:GH P g) {args:List Arg} {l:List UInt8}
    (h:∀(w:World) (us:Array Value) (ok:Cell->Prop),args.length=us.size->(∀(j:Nat) (x:Arg) (u:Value),args[j]? =some x->us[j]? =some u->ug w ok x u)->GlobW w (λ_=>False)->
      Calls P g us w λe w'=>e=.returned (.string ⟨l.toArray⟩)/\Below w.heap.size w w'):mI P g args (.r [] (.str l),[]):=by
  refine⟨he,λw us ok hl hr hg=>(h w us ok hl hr hg).mono ?_⟩
  rintro e w' ⟨rfl,hB⟩
  refine⟨_,⟨λ_=>undef,λ_ _=>False,λp=>ok p\/w.at? p=none⟩,rfl,⟨λi B hB=>(nomatch hB),λi j B B' p h1=>(nomatch h1),λi B p h1=>(nomatch h1),λp hp=>.inr ?_⟩,.r _ _ _ (.str l),rfl,λp x hx=>Below.at_ hB hx,λi B p h1=>(nomatch h1),Below.Uz hB⟩
  cases hx:w.at? p with
  |none=>rfl
  |some x=>rw[(Below.at_ hB hx).1]at hp;exact nomatch hp
theorem globW_below {w w':World} {fp:Cell->Prop} (h:GlobW w fp) (hb:Below w.heap.size w w'):GlobW w' fp:=λg cs hc=>by
 obtain⟨⟨t,fr,he⟩,h2⟩:=h g cs hc;exact⟨⟨t,fr,(hb.block g (Xp.1 he).1).trans he⟩,h2⟩
theorem below_grow (w:World) (q:Nat) (os:Array Obj):Below w.heap.size w (Sort.grow (w.drewN q) os):=
  ⟨rfl,rfl,rfl,by show _<=(w.heap++os).size;simp,λi hi=>by
    show(w.heap++os)[i]? =_
    rw[Yi hi]⟩
theorem vM {T e:TypeId} {B b:Nat} {p:Value} {bs:List Value} {w w':World} (h:Lib.BuilderAt T e B b p bs w) (hb:Below w.heap.size w w'):Lib.BuilderAt T e B b p bs w':=by
 have hlt:=h.lt;obtain⟨h1,v,h2,h3,h4⟩:=h;exact⟨h1,v,(hb.block _ hlt).trans h2,h3.kept (row:=some b) ⟨hb.os,hb.tape,hb.output,hb.size,λk hk _=>hb.block k hk⟩ (.inr h4),h4⟩
theorem isBuilder_below {T e:TypeId} {B b:Nat} {bs:List Value} {w w':World} (h:Lib.IsBuilder T e B b bs w) (hb:Below w.heap.size w w'):Lib.IsBuilder T e B b bs w':=
 h.imp (vM · hb) (vM · hb)
theorem Bd {C:Checked} {os:Os} {g:FuncId} {fn:Func} {s:ChangeSpec} {tt:TT} {H:Type} {enc:TypeId× Value->H} {conds:List PathCond} {apart fresh handsOn again:Bool} {X:World->Array Value->Prop}
    (hX:∀(w w':World) (args:Array Value),w.heap=w'.heap->X w args->X w' args) (hgl:∀W args,X W args->GlobW W (λ_=>False))
    (own:ownKnob C.prog.godebug=none) (started:os.Started) (noInit:C.prog.inits.idxOf? g=none) (hfn:C.prog.funcs[g]? =some fn)
    (witness:∃(w:World) (tape:Tape) (i:Input),w.os=os/\(w.forCall tape i).Shaped C.prog/\i.vars=[]/\Input.okWide C.prog (w.forCall tape i) .any w.heap.size g i/\
      ((s.pre enc C.prog fn conds apart (w.forCall tape i).memory i.args/\X (w.forCall tape i).memory i.args)/\sizedMet enc C.prog fn (OpenSpec.ofChange s) apart (w.forCall tape i).memory i.args)/\Assume.holds {} C.prog (lone (Frame.enter C.prog g i.args .normal) [] (w.forCall tape i)))
    (VJ:laidOutB C.prog=true) (VK:∀t∈fn.params.toList,C.prog.readableRec t=true/\t<C.prog.types.size) (VL:(fn.params.toList.all λT=>(zy C.prog tt 8 T).isSome)=true)
    (OW:s.vars=[]) (S7:∀ds:List (DataW H),ds.length=fn.params.toList.length->s.fn H (ds++[])={results:=[.lit (.bool true)],args:=ds,vars:=[]})
    {bt:TypeId} (RP:fn.resultTypes=#[bt]) (hbt:C.prog.underlying bt=some .bool)
    (WS:∀as:List Arg,Bc C.prog tt fn.params.toList as->mI C.prog g as (.b true,[])):
    ReturnsInHanded {} C os g .any (λw args=>(s.pre enc C.prog fn conds apart w args/\X w args)/\sizedMet enc C.prog fn (OpenSpec.ofChange s) apart w args) (s.post enc C.prog fn apart fresh handsOn again):=by
  refine returnsInHanded_of_change_and (C:=C) (X:=X) hX own started noInit hfn witness ?_;intro W base args ds gs before hval hW _ _ hL _;have hW':=hW;obtain⟨p,q,hA,hV,rfl,hfz,_⟩:=hW;rw[OW]at hV;obtain⟨rfl,rfl⟩:=trodVars_none hV;obtain⟨as,g1,g2,g3,g4⟩:=Hr hA (λj t v ht hv=>hval j t v (by simpa using ht) (by simpa using hv)) VL;obtain⟨_,hc⟩:=WS as g1;refine(hc W args (λ_=>True) (by simpa using g2) (λj x u hx hu=>g4 j x u hx (by simpa using hu)) (hgl W _ hL)).mono λe W' ⟨u,pl,he,_,hu,_,tU,_,hgr⟩=>?_
  have hu:u=.bool true:=by
    cases hu with
    |r _ _ _ h=>cases h;rfl
  subst hu he;have hc':∀(p:Cell) x,W.at? p=some x->W'.at? p=some x/\W'.eD p=W.eD p:=tU;have hlt:∀x∈p,x.block<W.heap.size:=λx hx=>hW'.lt x (by simpa using hx);refine⟨_,rfl,OV (pa:=p) (pv:=[]) hW' (λ_ _ _=>?_) (λsp hsp=>?_) (λ_ _=>?_) rfl (JI hgr hc' _) (λb off hp=>OU (JI hgr hc' λ_=>False) (hW'.lt _ hp)) (ok_one RP rfl (okWide_bool_mk hbt true))⟩
  · rw[S7 ds g3,RP];exact trodAll_mk1 (shut_bool hbt true)
  · rw[S7 ds g3];exact vL VJ VK hA (λx hx=>S6 hgr hc' (hlt x hx)) (λx hx=>hsp x (by simpa using hx))
  · rw[S7 ds g3,OW];exact rfl
end
def Fe:Array Value:=(Lib.pow10Tab.map λz=>Value.int .u64 z).toArray
abbrev powGlo (n:Nat):Glo:=⟨λg=>cond (Nat.beq g n) (some Fe) none⟩
theorem OX {P:Program} {n:Nat} {w:World} (hg:P.globalNamed "internal/strconv.uint64pow10"=some n) (h:Lib.TabIs P w "internal/strconv.uint64pow10" .u64 Lib.pow10Tab):@GlobW (powGlo n) w (λ_=>False):=by
 intro g cs hc;have hc:(cond (Nat.beq g n) (some Fe) none:Option (Array Value))=some cs:=hc
 cases hb:Nat.beq g n with
 |false=>rw[hb]at hc;exact nomatch hc
 |true=>
  rw[hb]at hc;cases hc;have:=So hb;subst this;refine⟨?_,λ_ _ h=>h.elim⟩;unfold Lib.TabIs World.var? at h;rw[hg,W6]at h;split at h
  ·rename_i cs t fr he;cases h;exact⟨t,fr,he⟩
  ·exact nomatch h
theorem tab_of {P:Program} {n:Nat} {w:World} {fp:Cell->Prop} (hg:P.globalNamed "internal/strconv.uint64pow10"=some n) (h:@GlobW (powGlo n) w fp):Lib.TabIs P w "internal/strconv.uint64pow10" .u64 Lib.pow10Tab:=by
 obtain⟨⟨t,fr,he⟩,_⟩:=h n Fe (by show cond (Nat.beq n n) _ _=_;rw[Nat.beq_refl];rfl);unfold Lib.TabIs World.var?;rw[hg,W6,he];rfl
def Q4:DataW Unit->Array Value
 |.agg l=>(l.map λd=>match d with|.lit (.int k n)=>Value.int k n|_=>undef).toArray
 |_=>#[]
def VM (P:Program) (w:World) (x:String× DataW Unit):World:=
 match P.globalNamed x.1 with
 |some g=>{w with heap:=w.heap.modify g λo=>match o with|.cells _ t fr=>.cells (Q4 x.2) t fr|o=>o}
 |none=>w
noncomputable def S8 (P:Program) (os:Os) (l:List (String× DataW Unit)):World:=l.foldl (VM P) (World.holding P os ⟨#[],#[],[]⟩)
end
section
instance U9:Tok:=⟨λ_=>.slice none 0 0,λ_=>rfl,rfl⟩
instance Va:Glo:=⟨λ_=>none⟩
def okI (n:Int):Prop:=-9223372036854775808<=n/\n<=9223372036854775807
theorem aF {n:Int} (h1:-9223372036854775808<=n) (h2:n<=9223372036854775807):i64.wrap n=n:=Go.IntWalk.i64_in n ⟨h1,h2⟩
theorem Be {n:Int} (h1:0<=n) (h2:n<=255):u8.wrap n=n:=Go.IntWalk.u8_in n ⟨h1,h2⟩
theorem ar {n m:Nat} (h:n<m) (hm:m<=9223372036854775807):i64.wrap ((n:Int)+1)=((n+1:Nat):Int):=by
 rw[aF (by omega) (by omega)];omega
@[simp] theorem aL {α:Type} (xs:List α) (i:Nat):idx xs (i:Int)=xs[i]? :=by
 have:(0:Int)<=(i:Int):=by omega
 simp[idx,this]
theorem zO {α:Type} (xs:List α):idx xs 0=xs[0]? :=rfl
theorem j9 {α:Type} (xs:List α) {i:Int} (h:0<=i):idx xs i=xs[i.toNat]? :=by simp[idx,h]
section
variable {R V:Type} {g:V->(V->Option R)->Option R}
theorem aS (k:Nat) (v:V):iter g (k+1) v=g v (iter g k):=rfl
theorem vN {st:Nat->V} {n:Nat} {P:Nat->Option R} (h:∀i,i<n->∀next:V->Option R,next (st (i+1))=P (i+1)->g (st i) next=P i)
  (hn:∀next,g (st n) next=P n):∀(k i:Nat),i<=n->n-i<k->iter g k (st i)=P i
 |0,i,hi,hk=>by omega
 |k+1,i,hi,hk=>by
  rw[aS];by_cases c:i<n
  ·exact h i c _ (vN h hn k (i+1) (by omega) (by omega))
  ·have:i=n:=by omega
   subst this;exact hn _
theorem ff {st:Nat->V} {n:Nat} {r:Option R} (h:∀i,i<n->∀next:V->Option R,g (st i) next=next (st (i+1))) (hn:∀next,g (st n) next=r) {k:Nat} (hk:n<k):
  iter g k (st 0)=r:=vN (P:=λ_=>r) (λi hi next e=>(h i hi next).trans e) hn k 0 (XE _) (by omega)
end
theorem ab {α:Type} {p:Prop} [Decidable p] (x y:α):cond (decide p) x y=if p then x else y:=by by_cases h:p<;>simp[h]
theorem s7 {α:Type} (a b:Int) (x y:α):cond (a !=b) x y=if a=b then y else x:=by
 by_cases h:a=b
 ·simp[h]
 ·have:(a !=b)=true:=by simpa using h
  rw[this,if_neg h];rfl
theorem dF {α:Type} (a b:Int) (x y:α):cond (a==b) x y=if a=b then x else y:=by
 by_cases h:a=b
 ·simp[h]
 ·have:(a==b)=false:=by simpa using h
  rw[this,if_neg h];rfl
theorem cond_not {α:Type} (b:Bool) (x y:α):cond (!b) x y=cond b y x:=by cases b<;>rfl
theorem S9 (a b:Int):(a==b)=decide (a=b):=by
 by_cases h:a=b
 ·simp[h]
 ·rw[decide_eq_false h];simpa using h
theorem OY (a b:Int):(a !=b)=decide (a≠b):=by
 by_cases h:a=b
 ·simp[h]
 ·rw[decide_eq_true h];simpa using h
theorem ai {α:Type} {xs:List α} {i:Nat} (h:i<xs.length):xs[i]? =some xs[i]:=On h
theorem jx {α:Type} {xs:List α} {i:Nat} (h:i<xs.length):xs.drop i=xs[i]::xs.drop (i+1):=(List.getElem_cons_drop h).symm
theorem dh {α:Type} {xs:List α} {i:Nat} (h:i<xs.length):xs.take (i+1)=xs.take i++[xs[i]]:=(List.take_append_getElem h).symm
theorem OZ {α R:Type} [DecidableEq α] (xs ys:List α) (hl:xs.length=ys.length) {g:Int->(Int->Option R)->Option R} {yes no:Option R}
  (h:∀(i:Nat) (hi:i<xs.length) (hi':i<ys.length) (next:Int->Option R),g (i:Int) next=if xs[i]=ys[i]then next ((i+1:Nat):Int)else no)
  (hn:∀next,g (xs.length:Int) next=yes) {k:Nat} (hk:xs.length<k):iter g k 0=if xs=ys then yes else no:=by
 have:=vN (g:=g) (st:=λi=>(i:Int)) (n:=xs.length) (P:=λi=>if xs.drop i=ys.drop i then yes else no) (λi hi next e=>by
  have hi':i<ys.length:=by omega
  rw[h i hi hi' next]
  have he:(xs.drop i=ys.drop i)↔(xs[i]=ys[i]/\xs.drop (i+1)=ys.drop (i+1)):=by rw[jx hi,jx hi',X6]
  by_cases c:xs[i]=ys[i]
  ·rw[if_pos c,e];simp only[he,c,true_and]
  ·rw[if_neg c,if_neg (λq=>c (he.1 q).1)]) (λnext=>by
  rw[Y3,List.drop_of_length_le (by omega)];simp;exact hn next) k 0 (XE _) (by omega)
 simpa using this
end
section
theorem aa {α β:Type} (a:α) (f:α->Option β):(some a).bind f=f a:=rfl
theorem nO {α R:Type} (xs:List α) (p:α->Bool) {g:Int->(Int->Option R)->Option R} {yes no:Option R}
  (h:∀(i:Nat) (hi:i<xs.length) (next:Int->Option R),g (i:Int) next=cond (p xs[i]) (next ((i+1:Nat):Int)) no)
  (hn:∀next,g (xs.length:Int) next=yes) {k:Nat} (hk:xs.length<k):iter g k 0=cond (xs.all p) yes no:=by
 have:=vN (g:=g) (st:=λi=>(i:Int)) (n:=xs.length) (P:=λi=>cond ((xs.drop i).all p) yes no) (λi hi next e=>by
  rw[h i hi next,jx hi,Yw];cases hp:p xs[i]
  ·rfl
  ·simp only[cond_true,Xf];exact e) (λnext=>by rw[Y3];exact hn next) k 0 (XE _) (by omega)
 simpa using this
theorem er {α R:Type} (xs:List α) (p:α->Bool) {g:Int->(Int->Option R)->Option R} {yes:Option R} {no:Int->Option R}
  (h:∀(i:Nat) (hi:i<xs.length) (next:Int->Option R),g (i:Int) next=cond (p xs[i]) (no (i:Int)) (next ((i+1:Nat):Int)))
  (hn:∀next,g (xs.length:Int) next=yes) {k:Nat} (hk:xs.length<k):iter g k 0=(xs.findIdx? p).elim yes λi=>no (i:Int):=by
 have:=vN (g:=g) (st:=λi=>(i:Int)) (n:=xs.length) (P:=λi=>((xs.drop i).findIdx? p).elim yes λj=>no ((i+j:Nat):Int)) (λi hi next e=>by
  rw[h i hi next,jx hi,Zk];cases hp:p xs[i]
  ·simp only[cond_false,Yt,if_false];rw[e]
   cases(xs.drop (i+1)).findIdx? p with
   |none=>rfl
   |some j=>simp only[YP,W8];congr 2;omega
  ·simp) (λnext=>by rw[Y3];simpa using hn next) k 0 (XE _) (by omega)
 simpa using this
theorem s8 {α β R:Type} (xs:List α) (f:α->β) {g:Int× List β->(Int× List β->Option R)->Option R} {fin:List β->Option R}
  (h:∀(i:Nat) (ys:List β) (hi:i<xs.length) (next:Int× List β->Option R),ys.length=i->g ((i:Int),ys) next=next (((i+1:Nat):Int),ys++[f xs[i]]))
  (hn:∀ys next,g ((xs.length:Int),ys) next=fin ys) {k:Nat} (hk:xs.length<k):iter g k (0,[])=fin (xs.map f):=by
 have:=ff (g:=g) (st:=λi=>((i:Int),(xs.take i).map f)) (n:=xs.length) (r:=fin (xs.map f)) (λi hi next=>by
  rw[h i _ hi next (by simp;omega),dh hi,Yl];rfl) (λnext=>by rw[XO];exact hn _ _) hk
 simpa using this
theorem rX {α S R:Type} (xs:List α) (f:S->α->S) {g:S× Int->(S× Int->Option R)->Option R} {fin:S->Option R} (s0:S)
  (h:∀(i:Nat) (s:S) (hi:i<xs.length) (next:S× Int->Option R),s=(xs.take i).foldl f s0->g (s,(i:Int)) next=next (f s xs[i],((i+1:Nat):Int)))
  (hn:∀next,g (xs.foldl f s0,(xs.length:Int)) next=fin (xs.foldl f s0)) {k:Nat} (hk:xs.length<k):iter g k (s0,0)=fin (xs.foldl f s0):=by
 have:=ff (g:=g) (st:=λi=>((xs.take i).foldl f s0,(i:Int))) (n:=xs.length) (r:=fin (xs.foldl f s0)) (λi hi next=>by
  rw[h i _ hi next rfl,dh hi,X3];rfl) (λnext=>by
  simp only[XO];exact hn next) hk
 simpa using this
theorem rY {a b A B:Int} (h1:0<=a) (h2:a<=A) (h3:0<=b) (h4:b<=B):0<=a*b/\a*b<=A*B:=
 ⟨X7 h1 h3,Yy h2 h4 h3 (by omega)⟩
end
section
theorem ak:aO=274877906944:=rfl
def gp {α:Type} (t:α->Nat) (xs:List α):Nat:=xs.length+(xs.map t).sum
theorem O0 {α:Type} (t:α->Nat):∀{xs:List α} {x:α},x∈xs->t x<=(xs.map t).sum
 |y::xs,x,h=>by
  simp only[XQ,YS]
  rcases Xm.1 h with rfl|h
  ·omega
  ·have:=O0 t h;omega
theorem jy {α:Type} (t:α->Nat) {xs:List α} {x:α} (h:x∈xs):t x+1<=gp t xs:=by
 have:=O0 t h;have:=List.length_pos_of_mem h;unfold gp;omega
theorem bu {α:Type} (t:α->Nat) (xs:List α):xs.length<=gp t xs:=by unfold gp;omega
theorem pn {α:Type} (t:α->Nat) (x:α) (xs:List α):gp t (x::xs)=t x+1+gp t xs:=by simp[gp];omega
theorem qq {α:Type} (t:α->Nat) (xs ys:List α):gp t (xs++ys)=gp t xs+gp t ys:=by simp[gp];omega
end
section
variable [Tok] [Glo]
def zP:Nat:=9223372036854775807
def okS {α:Type} (p:α->Prop) (xs:List α):Prop:=xs.length<=zP/\∀x∈xs,p x
def okB (n:Int):Prop:=0<=n/\n<=255
def Shape.Ok (s:Shape):Prop:=okI s.h/\okI s.w/\okI s.c
def aD.Ok (t:aD):Prop:=t.sh.Ok/\okS okI t.data
def aq.Ok (l:aq):Prop:=okI l.kind/\okI l.out/\okI l.size/\okI l.step/\okI l.mult/\okI l.shift/\okI l.zero/\okS okI l.weights/\okS okI l.my
def Model.Ok (m:Model):Prop:=m.inp.Ok/\okS aq.Ok m.aE
def Job.Ok (j:Job):Prop:=j.model.Ok/\okI j.at_/\j.act.Ok/\okI j.jQ
def Task.Ok (t:Task):Prop:=okI t.id/\okS okI t.ax/\okI t.at_/\okI t.due/\okI t.born
def al.Ok (s:al):Prop:=okI s.now/\okI s.aj/\okI s.age/\okS Task.Ok s.tasks/\okI s.run/\okI s.left/\okI s.turns/\okI s.next
def Request.Ok (r:Request):Prop:=okI r.id/\okI r.model/\r.job.Ok/\okI r.due
def Runtime.Ok (r:Runtime):Prop:=r.sched.Ok/\okS Model.Ok r.aB/\okS (λ_=>True) r.aC/\okS Request.Ok r.ag
def Step.Ok (s:Step):Prop:=okI s.kind/\okI s.a/\okI s.b/\okS okB s.data/\s.input.Ok
def Event.Ok (e:Event):Prop:=okI e.kind/\okI e.a/\okI e.b/\e.out.Ok
def Entry.Ok (e:Entry):Prop:=okI e.id/\e.model.Ok/\e.input.Ok/\okI e.at_/\okI e.due/\okI e.end_
def LG.Ok (w:LG):Prop:=okI w.id/\okI w.model/\okI w.due
theorem VN {n:Int} (h:(R.int .u8 n).Wf):okB n:=by
 cases h with
 |int _ _ h=>simp[Lit.wf,IntKind.min,IntKind.max,IntKind.signed,IntKind.bits]at h;exact h
theorem VO {t:Ty} {xs:List t.El} {p:t.El->Prop} (h:(R.sl t xs).Wf) (hp:∀x∈xs,(∀r∈t.cells x,r.Wf)->p x):okS p xs:=by
 cases h with
 |sl _ _ h hl=>
  refine⟨by unfold zP;unfold maxLen at hl;omega,λx hx=>hp x hx λr hr=>?_⟩;obtain⟨i,hi⟩:=X2 hx;obtain⟨j,hj⟩:=X2 hr;exact h i j r ⟨x,hi,hj⟩
theorem Q5 {xs:List Int} (h:(R.bytes xs).Wf):okS okB xs:=VO h λx _ hx=>VN (hx _ (by simp[Ty.cells]))
section
variable {P:Program} {tt:TT} {T:TypeId} {a:Arg}
def Bf (P:Program) (T:TypeId):Bool:=
 match P.underlying T with
 |some (.struct _)=>true
 |_=>false
theorem O1 {t:Ty} (hf:zy P tt 8 T=some [t]) (hs:Bf P T=false) (h:OT P tt T a):∃r:R,a=.one r/\r.ty=t/\r.Wf:=by
 obtain⟨ts,h1,_,h3⟩:=h;rw[hf]at h1;cases h1;obtain⟨r,rfl,g1,g2⟩:=h3 (λfs e=>by simp[Bf,e]at hs);exact⟨r,rfl,by simpa using g1,g2⟩
theorem Q6 {t:Ty} (hf:zy P tt 8 T=some [.sl t]) (hs:Bf P T=false) (h:OT P tt T a):∃xs:List t.El,a=.one (.sl t xs)/\(R.sl t xs).Wf:=by
 obtain⟨r,rfl,h1,h2⟩:=O1 hf hs h;obtain⟨n,rfl⟩:=vK h1;exact⟨n,rfl,h2⟩
theorem JJ {as:List Arg} {T:TypeId} (h:Bc P tt [T] as):∃a,as=[a]/\OT P tt T a:=by
 match as,h with
 |[a],h=>exact⟨a,rfl,h.1⟩
end
theorem MC {P:Program} {g:FuncId} {G:PG} (h:KO P g G) {as:List Arg} {o:Out} (hG:G Out as some=some o):mI P g as o:=by
 obtain⟨o',h1,h2⟩:=h Out as some o hG;cases h1;exact h2
theorem Q7 {p:TypeId->Bool} {l:List TypeId} (h:l.all p=true):∀t∈l,p t=true:=λt ht=>Xv.1 h t ht
end
section
variable [Tok] [Glo]
section
variable {P:Program} {tt:TT} {T:TypeId} {a:Arg}
end
end
end Go.Proofs.Ev
