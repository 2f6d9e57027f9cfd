/- The evaluator over the model's code, and that it is sound: part 7. -/
import Derived.Test.YtkjdnpefjebmlaaDoorEvK6
import GoSem.ClaimChange
import Derived.Deep.Slices
import Derived.DataReads
import Derived.ProofKit
import Derived.WideKeyArgs
import Derived.Lib.LaidTab
import Derived.Lib.ItoaNum
import Derived.Lib.ItoaLen
import Derived.Lib.Builder
import Derived.Lib.UnsafeStr
import Derived.Stop.LaidErr
import Derived.Sort.Grow
import Derived.Deep.Draws
import Derived.IntWalk
set_option linter.unusedVariables false
set_option linter.unusedSimpArgs false
set_option linter.unusedSectionVars false
namespace Go.Proofs.Ev
open IntKind(i64 u8 u64)
section
variable [Tok] [Glo]
def R.ty:R->Ty
 |.int k _=>.int k
 |.bool _=>.bool
 |.str _=>.str
 |.sl t _=>.sl t
 |.tok _=>.tok
 |.dX=>.st .shape
inductive R.Wf:R->Prop
 |int (k:IntKind) (n:Int) (h:(Lit.int k n).wf=true):R.Wf (.int k n)
 |bool (b:Bool):R.Wf (.bool b)
 |str (l:List UInt8) (h:l.length<=maxLen):R.Wf (.str l)
 |sl (t:Ty) (xs:List t.El) (h:∀i j r,af t xs i j r->R.Wf r) (hl:xs.length<=maxLen):R.Wf (.sl t xs)
theorem cN (t:Ty) (r:R) (h:r.ty=t) (hs:∀s,t≠.st s):∃x,t.iT r=some x:=by
 subst h
 cases r with
 |int k n=>exact⟨n,by simp[Ty.iT,R.ty]⟩
 |bool b=>exact⟨b,by simp[Ty.iT,R.ty]⟩
 |str l=>exact⟨l,by simp[Ty.iT,R.ty]⟩
 |sl t xs=>exact⟨xs,by simp[Ty.iT,R.ty]⟩
 |tok n=>exact⟨n,by simp[Ty.iT,R.ty]⟩
 |dX=>exact(hs .shape rfl).elim
theorem xg {r:R} (h:r.ty=.tok):∃n,r=.tok n:=by cases r<;>simp_all [R.ty]
theorem aC {r:R} {k:IntKind} (h:r.ty=.int k):∃n,r=.int k n:=by cases r<;>simp_all [R.ty]
theorem zS {r:R} (h:r.ty=.bool):∃n,r=.bool n:=by cases r<;>simp_all [R.ty]
theorem iN {r:R} {t:Ty} (h:r.ty=.sl t):∃xs,r=.sl t xs:=by
 cases r with
 |sl t' xs=>cases h;exact⟨xs,rfl⟩
 |_=>cases h
theorem pI:(rs:List R)->rs.map R.ty=S.tys .shape->∃x,mU rs=some x
 |[x0,x1,x2],h=>by
  simp only[S.tys,BA,BK,Bw,and_true]at h;obtain⟨h0,h1,h2⟩:=h;obtain⟨_,rfl⟩:=aC h0;obtain⟨_,rfl⟩:=aC h1;obtain⟨_,rfl⟩:=aC h2
  simp[mU,R.asI,R.asB,R.asL]
 |[],h=>by have:=congrArg List.length h;simp[S.tys]at this
 |[_],h=>by have:=congrArg List.length h;simp[S.tys]at this
 |[_,_],h=>by have:=congrArg List.length h;simp[S.tys]at this
 |_::_::_::_::_,h=>by have:=congrArg List.length h;simp[S.tys]at this
theorem nT:(rs:List R)->rs.map R.ty=S.tys .bY->∃x,jB rs=some x
 |[x0,x1,x2,x3],h=>by
  simp only[S.tys,BA,BK,Bw,and_true]at h;obtain⟨h0,h1,h2,h3⟩:=h;obtain⟨_,rfl⟩:=aC h0;obtain⟨_,rfl⟩:=aC h1;obtain⟨_,rfl⟩:=aC h2;obtain⟨_,rfl⟩:=iN h3
  simp[jB,R.asI,R.asB,R.asL]
 |[],h=>by have:=congrArg List.length h;simp[S.tys]at this
 |[_],h=>by have:=congrArg List.length h;simp[S.tys]at this
 |[_,_],h=>by have:=congrArg List.length h;simp[S.tys]at this
 |[_,_,_],h=>by have:=congrArg List.length h;simp[S.tys]at this
 |_::_::_::_::_::_,h=>by have:=congrArg List.length h;simp[S.tys]at this
theorem pJ:(rs:List R)->rs.map R.ty=S.tys .eN->∃x,mW rs=some x
 |[x0,x1,x2,x3,x4,x5,x6,x7,x8],h=>by
  simp only[S.tys,BA,BK,Bw,and_true]at h;obtain⟨h0,h1,h2,h3,h4,h5,h6,h7,h8⟩:=h;obtain⟨_,rfl⟩:=aC h0;obtain⟨_,rfl⟩:=aC h1;obtain⟨_,rfl⟩:=aC h2;obtain⟨_,rfl⟩:=aC h3;obtain⟨_,rfl⟩:=aC h4;obtain⟨_,rfl⟩:=aC h5;obtain⟨_,rfl⟩:=aC h6;obtain⟨_,rfl⟩:=iN h7;obtain⟨_,rfl⟩:=iN h8
  simp[mW,R.asI,R.asB,R.asL]
 |[],h=>by have:=congrArg List.length h;simp[S.tys]at this
 |[_],h=>by have:=congrArg List.length h;simp[S.tys]at this
 |[_,_],h=>by have:=congrArg List.length h;simp[S.tys]at this
 |[_,_,_],h=>by have:=congrArg List.length h;simp[S.tys]at this
 |[_,_,_,_],h=>by have:=congrArg List.length h;simp[S.tys]at this
 |[_,_,_,_,_],h=>by have:=congrArg List.length h;simp[S.tys]at this
 |[_,_,_,_,_,_],h=>by have:=congrArg List.length h;simp[S.tys]at this
 |[_,_,_,_,_,_,_],h=>by have:=congrArg List.length h;simp[S.tys]at this
 |[_,_,_,_,_,_,_,_],h=>by have:=congrArg List.length h;simp[S.tys]at this
 |_::_::_::_::_::_::_::_::_::_::_,h=>by have:=congrArg List.length h;simp[S.tys]at this
theorem pK:(rs:List R)->rs.map R.ty=S.tys .model->∃x,mX rs=some x
 |[x0,x1,x2,x3],h=>by
  simp only[S.tys,BA,BK,Bw,and_true]at h;obtain⟨h0,h1,h2,h3⟩:=h;obtain⟨_,rfl⟩:=aC h0;obtain⟨_,rfl⟩:=aC h1;obtain⟨_,rfl⟩:=aC h2;obtain⟨_,rfl⟩:=iN h3
  simp[mX,R.asI,R.asB,R.asL]
 |[],h=>by have:=congrArg List.length h;simp[S.tys]at this
 |[_],h=>by have:=congrArg List.length h;simp[S.tys]at this
 |[_,_],h=>by have:=congrArg List.length h;simp[S.tys]at this
 |[_,_,_],h=>by have:=congrArg List.length h;simp[S.tys]at this
 |_::_::_::_::_::_,h=>by have:=congrArg List.length h;simp[S.tys]at this
theorem rU:(rs:List R)->rs.map R.ty=S.tys .task->∃x,sw rs=some x
 |[x0,x1,x2,x3,x4],h=>by
  simp only[S.tys,BA,BK,Bw,and_true]at h;obtain⟨h0,h1,h2,h3,h4⟩:=h;obtain⟨_,rfl⟩:=aC h0;obtain⟨_,rfl⟩:=iN h1;obtain⟨_,rfl⟩:=aC h2;obtain⟨_,rfl⟩:=aC h3;obtain⟨_,rfl⟩:=aC h4
  simp[sw,R.asI,R.asB,R.asL]
 |[],h=>by have:=congrArg List.length h;simp[S.tys]at this
 |[_],h=>by have:=congrArg List.length h;simp[S.tys]at this
 |[_,_],h=>by have:=congrArg List.length h;simp[S.tys]at this
 |[_,_,_],h=>by have:=congrArg List.length h;simp[S.tys]at this
 |[_,_,_,_],h=>by have:=congrArg List.length h;simp[S.tys]at this
 |_::_::_::_::_::_::_,h=>by have:=congrArg List.length h;simp[S.tys]at this
theorem mJ:(rs:List R)->rs.map R.ty=S.tys .request->∃x,gC rs=some x
 |[x0,x1,x2,x3,x4,x5,x6,x7,x8,x9,x10,x11,x12],h=>by
  simp only[S.tys,BA,BK,Bw,and_true]at h;obtain⟨h0,h1,h2,h3,h4,h5,h6,h7,h8,h9,h10,h11,h12⟩:=h;obtain⟨_,rfl⟩:=aC h0;obtain⟨_,rfl⟩:=aC h1;obtain⟨_,rfl⟩:=aC h2;obtain⟨_,rfl⟩:=aC h3;obtain⟨_,rfl⟩:=aC h4;obtain⟨_,rfl⟩:=iN h5;obtain⟨_,rfl⟩:=aC h6;obtain⟨_,rfl⟩:=aC h7;obtain⟨_,rfl⟩:=aC h8;obtain⟨_,rfl⟩:=aC h9;obtain⟨_,rfl⟩:=iN h10;obtain⟨_,rfl⟩:=aC h11;obtain⟨_,rfl⟩:=aC h12
  simp[gC,R.asI,R.asB,R.asL]
 |[],h=>by have:=congrArg List.length h;simp[S.tys]at this
 |[_],h=>by have:=congrArg List.length h;simp[S.tys]at this
 |[_,_],h=>by have:=congrArg List.length h;simp[S.tys]at this
 |[_,_,_],h=>by have:=congrArg List.length h;simp[S.tys]at this
 |[_,_,_,_],h=>by have:=congrArg List.length h;simp[S.tys]at this
 |[_,_,_,_,_],h=>by have:=congrArg List.length h;simp[S.tys]at this
 |[_,_,_,_,_,_],h=>by have:=congrArg List.length h;simp[S.tys]at this
 |[_,_,_,_,_,_,_],h=>by have:=congrArg List.length h;simp[S.tys]at this
 |[_,_,_,_,_,_,_,_],h=>by have:=congrArg List.length h;simp[S.tys]at this
 |[_,_,_,_,_,_,_,_,_],h=>by have:=congrArg List.length h;simp[S.tys]at this
 |[_,_,_,_,_,_,_,_,_,_],h=>by have:=congrArg List.length h;simp[S.tys]at this
 |[_,_,_,_,_,_,_,_,_,_,_],h=>by have:=congrArg List.length h;simp[S.tys]at this
 |[_,_,_,_,_,_,_,_,_,_,_,_],h=>by have:=congrArg List.length h;simp[S.tys]at this
 |_::_::_::_::_::_::_::_::_::_::_::_::_::_::_,h=>by have:=congrArg List.length h;simp[S.tys]at this
theorem rV:(rs:List R)->rs.map R.ty=S.tys .step->∃x,sx rs=some x
 |[x0,x1,x2,x3,x4,x5,x6,x7],h=>by
  simp only[S.tys,BA,BK,Bw,and_true]at h;obtain⟨h0,h1,h2,h3,h4,h5,h6,h7⟩:=h;obtain⟨_,rfl⟩:=aC h0;obtain⟨_,rfl⟩:=aC h1;obtain⟨_,rfl⟩:=aC h2;obtain⟨_,rfl⟩:=iN h3;obtain⟨_,rfl⟩:=aC h4;obtain⟨_,rfl⟩:=aC h5;obtain⟨_,rfl⟩:=aC h6;obtain⟨_,rfl⟩:=iN h7
  simp[sx,R.asI,R.asB,R.asL]
 |[],h=>by have:=congrArg List.length h;simp[S.tys]at this
 |[_],h=>by have:=congrArg List.length h;simp[S.tys]at this
 |[_,_],h=>by have:=congrArg List.length h;simp[S.tys]at this
 |[_,_,_],h=>by have:=congrArg List.length h;simp[S.tys]at this
 |[_,_,_,_],h=>by have:=congrArg List.length h;simp[S.tys]at this
 |[_,_,_,_,_],h=>by have:=congrArg List.length h;simp[S.tys]at this
 |[_,_,_,_,_,_],h=>by have:=congrArg List.length h;simp[S.tys]at this
 |[_,_,_,_,_,_,_],h=>by have:=congrArg List.length h;simp[S.tys]at this
 |_::_::_::_::_::_::_::_::_::_,h=>by have:=congrArg List.length h;simp[S.tys]at this
theorem pL:(rs:List R)->rs.map R.ty=S.tys .event->∃x,mY rs=some x
 |[x0,x1,x2,x3,x4,x5,x6],h=>by
  simp only[S.tys,BA,BK,Bw,and_true]at h;obtain⟨h0,h1,h2,h3,h4,h5,h6⟩:=h;obtain⟨_,rfl⟩:=aC h0;obtain⟨_,rfl⟩:=aC h1;obtain⟨_,rfl⟩:=aC h2;obtain⟨_,rfl⟩:=aC h3;obtain⟨_,rfl⟩:=aC h4;obtain⟨_,rfl⟩:=aC h5;obtain⟨_,rfl⟩:=iN h6
  simp[mY,R.asI,R.asB,R.asL]
 |[],h=>by have:=congrArg List.length h;simp[S.tys]at this
 |[_],h=>by have:=congrArg List.length h;simp[S.tys]at this
 |[_,_],h=>by have:=congrArg List.length h;simp[S.tys]at this
 |[_,_,_],h=>by have:=congrArg List.length h;simp[S.tys]at this
 |[_,_,_,_],h=>by have:=congrArg List.length h;simp[S.tys]at this
 |[_,_,_,_,_],h=>by have:=congrArg List.length h;simp[S.tys]at this
 |[_,_,_,_,_,_],h=>by have:=congrArg List.length h;simp[S.tys]at this
 |_::_::_::_::_::_::_::_::_,h=>by have:=congrArg List.length h;simp[S.tys]at this
theorem pM:(rs:List R)->rs.map R.ty=S.tys .entry->∃x,mZ rs=some x
 |[x0,x1,x2,x3,x4,x5,x6,x7,x8,x9,x10,x11,x12],h=>by
  simp only[S.tys,BA,BK,Bw,and_true]at h;obtain⟨h0,h1,h2,h3,h4,h5,h6,h7,h8,h9,h10,h11,h12⟩:=h;obtain⟨_,rfl⟩:=aC h0;obtain⟨_,rfl⟩:=aC h1;obtain⟨_,rfl⟩:=aC h2;obtain⟨_,rfl⟩:=aC h3;obtain⟨_,rfl⟩:=iN h4;obtain⟨_,rfl⟩:=aC h5;obtain⟨_,rfl⟩:=aC h6;obtain⟨_,rfl⟩:=aC h7;obtain⟨_,rfl⟩:=iN h8;obtain⟨_,rfl⟩:=aC h9;obtain⟨_,rfl⟩:=aC h10;obtain⟨_,rfl⟩:=aC h11;obtain⟨_,rfl⟩:=zS h12
  simp[mZ,R.asI,R.asB,R.asL]
 |[],h=>by have:=congrArg List.length h;simp[S.tys]at this
 |[_],h=>by have:=congrArg List.length h;simp[S.tys]at this
 |[_,_],h=>by have:=congrArg List.length h;simp[S.tys]at this
 |[_,_,_],h=>by have:=congrArg List.length h;simp[S.tys]at this
 |[_,_,_,_],h=>by have:=congrArg List.length h;simp[S.tys]at this
 |[_,_,_,_,_],h=>by have:=congrArg List.length h;simp[S.tys]at this
 |[_,_,_,_,_,_],h=>by have:=congrArg List.length h;simp[S.tys]at this
 |[_,_,_,_,_,_,_],h=>by have:=congrArg List.length h;simp[S.tys]at this
 |[_,_,_,_,_,_,_,_],h=>by have:=congrArg List.length h;simp[S.tys]at this
 |[_,_,_,_,_,_,_,_,_],h=>by have:=congrArg List.length h;simp[S.tys]at this
 |[_,_,_,_,_,_,_,_,_,_],h=>by have:=congrArg List.length h;simp[S.tys]at this
 |[_,_,_,_,_,_,_,_,_,_,_],h=>by have:=congrArg List.length h;simp[S.tys]at this
 |[_,_,_,_,_,_,_,_,_,_,_,_],h=>by have:=congrArg List.length h;simp[S.tys]at this
 |_::_::_::_::_::_::_::_::_::_::_::_::_::_::_,h=>by have:=congrArg List.length h;simp[S.tys]at this
theorem rW:(rs:List R)->rs.map R.ty=S.tys .uk->∃x,sy rs=some x
 |[x0,x1,x2],h=>by
  simp only[S.tys,BA,BK,Bw,and_true]at h;obtain⟨h0,h1,h2⟩:=h;obtain⟨_,rfl⟩:=aC h0;obtain⟨_,rfl⟩:=aC h1;obtain⟨_,rfl⟩:=aC h2
  simp[sy,R.asI,R.asB,R.asL]
 |[],h=>by have:=congrArg List.length h;simp[S.tys]at this
 |[_],h=>by have:=congrArg List.length h;simp[S.tys]at this
 |[_,_],h=>by have:=congrArg List.length h;simp[S.tys]at this
 |_::_::_::_::_,h=>by have:=congrArg List.length h;simp[S.tys]at this
theorem ay {α β:Type} {f:α->β} {rs:List α} {t:β} {ts:List β} (h:rs.map f=t::ts):∃r rs',rs=r::rs'/\f r=t/\rs'.map f=ts:=by
 cases rs with
 |nil=>cases h
 |cons r rs=>grind
theorem pN (rs:List R) (h:rs.map R.ty=S.tys .jz):∃x,p7 rs=some x:=by
 obtain⟨a0,rs,rfl,g0,h⟩:=ay h;obtain⟨a1,rs,rfl,g1,h⟩:=ay h;obtain⟨a2,rs,rfl,g2,h⟩:=ay h;obtain⟨a3,rs,rfl,g3,h⟩:=ay h;obtain⟨a4,rs,rfl,g4,h⟩:=ay h;rw[List.map_eq_nil_iff]at h;subst h;obtain⟨x0,rfl⟩:=aC g0;obtain⟨x1,rfl⟩:=xg g1;obtain⟨x2,rfl⟩:=aC g2;obtain⟨x3,rfl⟩:=aC g3;obtain⟨x4,rfl⟩:=aC g4;exact⟨_,rfl⟩
theorem kX (rs:List R) (h:rs.map R.ty=S.tys .bZ):∃x,gD rs=some x:=by
 obtain⟨a0,rs,rfl,g0,h⟩:=ay h;obtain⟨a1,rs,rfl,g1,h⟩:=ay h;obtain⟨a2,rs,rfl,g2,h⟩:=ay h;obtain⟨a3,rs,rfl,g3,h⟩:=ay h;obtain⟨a4,rs,rfl,g4,h⟩:=ay h;obtain⟨a5,rs,rfl,g5,h⟩:=ay h;obtain⟨a6,rs,rfl,g6,h⟩:=ay h;obtain⟨a7,rs,rfl,g7,h⟩:=ay h;obtain⟨a8,rs,rfl,g8,h⟩:=ay h;obtain⟨a9,rs,rfl,g9,h⟩:=ay h;obtain⟨a10,rs,rfl,g10,h⟩:=ay h;obtain⟨a11,rs,rfl,g11,h⟩:=ay h;obtain⟨a12,rs,rfl,g12,h⟩:=ay h;rw[List.map_eq_nil_iff]at h;subst h;obtain⟨x0,rfl⟩:=aC g0;obtain⟨x1,rfl⟩:=aC g1;obtain⟨x2,rfl⟩:=aC g2;obtain⟨x3,rfl⟩:=aC g3;obtain⟨x4,rfl⟩:=aC g4;obtain⟨x5,rfl⟩:=xg g5;obtain⟨x6,rfl⟩:=aC g6;obtain⟨x7,rfl⟩:=aC g7;obtain⟨x8,rfl⟩:=aC g8;obtain⟨x9,rfl⟩:=aC g9;obtain⟨x10,rfl⟩:=xg g10;obtain⟨x11,rfl⟩:=aC g11;obtain⟨x12,rfl⟩:=aC g12;exact⟨_,rfl⟩
theorem gX (t:Ty) (rs:List R) (h:rs.map R.ty=t.tys):∃x,t.bw rs=some x:=by
 have single:∀{t:Ty},(∀s,t≠.st s)->t.tys=[t]->rs.map R.ty=t.tys->∃r,rs=[r]/\r.ty=t:=λ{t} _ e h=>by
  rw[e]at h
  match rs,h with
  |[r],h=>grind
 have key:∀s:S,rs.map R.ty=s.tys->∃x,s.bw rs=some x:=λs h=>by
  cases s with
  |shape=>exact pI rs h
  |bY=>exact nT rs h
  |eN=>exact pJ rs h
  |model=>exact pK rs h
  |task=>exact rU rs h
  |request=>exact mJ rs h
  |step=>exact rV rs h
  |event=>exact pL rs h
  |entry=>exact pM rs h
  |uk=>exact rW rs h
  |jz=>exact pN rs h
  |bZ=>exact kX rs h
 cases t with
 |st s=>exact key s h
 |ho s=>
  obtain⟨x,hx⟩:=key s h
  exact⟨some x,by show(s.bw rs).bind _=_;rw[hx];rfl⟩
 |hl t=>
  have h:rs.map R.ty=[.sl t]:=h;obtain⟨r,rs',rfl,hr,h⟩:=List.map_eq_cons_iff.1 h;rw[List.map_eq_nil_iff]at h;subst h;obtain⟨xs,rfl⟩:=iN hr
  exact⟨some xs,by show(if h:t=t then some (some (h▸xs))else none)=_;rw[dif_pos rfl];rfl⟩
 |tok=>obtain⟨r,rfl,e⟩:=single (t:=.tok) (λs h=>nomatch h) rfl h;exact cN _ r e (λs h=>nomatch h)
 |int k=>obtain⟨r,rfl,e⟩:=single (t:=.int k) (λs h=>nomatch h) rfl h;exact cN _ r e (λs h=>nomatch h)
 |bool=>obtain⟨r,rfl,e⟩:=single (t:=.bool) (λs h=>nomatch h) rfl h;exact cN _ r e (λs h=>nomatch h)
 |str=>obtain⟨r,rfl,e⟩:=single (t:=.str) (λs h=>nomatch h) rfl h;exact cN _ r e (λs h=>nomatch h)
 |sl t=>obtain⟨r,rfl,e⟩:=single (t:=.sl t) (λs h=>nomatch h) rfl h;exact cN _ r e (λs h=>nomatch h)
def qO (P:Program) (g:TypeId->Option (List Ty)):Nat->List Field->Option (List Ty)
 |_,[]=>some []
 |off,f::l=>cond (Nat.beq f.offset off) ((g f.type).bind λts=>cond (Nat.beq (P.cellsOf f.type) ts.length) ((qO P g (off+ts.length) l).bind λus=>some (ts++us)) none) none
def kq (P:Program) (tt:TT):Nat->TypeId->Option (List Ty)
 |0,_=>none
 |n+1,T=>match P.underlying T with
  |some (.int k)=>some [.int k]
  |some .bool=>some [.bool]
  |some .string=>some [.str]
  |some (.slice e)=>(tt e).bind λt=>(kq P tt n e).bind λts=>if ts=t.tys/\P.cellsOf e=ts.length then some [.sl t]else none
  |some (.struct fs)=>(qO P (kq P tt n) 0 fs.toList).bind λts=>cond (Nat.beq (P.cellsOf T) ts.length) (some ts) none
  |_=>none
def dH (w:World) (ts:List Ty) (cs:List Value):Prop:=
 ∃rs:List R,rs.map R.ty=ts/\rs.length=cs.length/\∀(j:Nat) (r:R) (v:Value),rs[j]? =some r->cs[j]? =some v->RepR w (λ_=>True) r v/\r.Wf
theorem dH.one {w:World} {r:R} {v:Value} (h:RepR w (λ_=>True) r v) (hw:r.Wf):dH w [r.ty] [v]:=
  ⟨[r],rfl,rfl,λj r' v' h1 h2=>by
    cases j with
    |zero=>grind
    |succ j=>simp at h1⟩
theorem dH.append {w:World} {ts us:List Ty} {cs ds:List Value} (h:dH w ts cs) (g:dH w us ds):dH w (ts++us) (cs++ds):=by
 obtain⟨rs,h1,h2,h3⟩:=h;obtain⟨qs,g1,g2,g3⟩:=g;refine⟨rs++qs,by simp[h1,g1],by simp[h2,g2],λj r v hr hv=>?_⟩;grind
section
variable {H:Type} {enc:TypeId× Value->H} {P:Program} {tt:TT} {w:World} {base:Nat} {sp:Nat->Bool} {held:Bool}
theorem kr {g:TypeId->Option (List Ty)} {F:TypeId->List Value->Option (DataW H× List MemPlace)} (hg:∀T cs x ts,F T cs=some x->g T=some ts->cs.length=P.cellsOf T->dH w ts cs) (cs:List Value):
  ∀(fs:List Field) (off:Nat) (ts:List Ty) (xs:List (DataW H× List MemPlace)),qO P g off fs=some ts->fs.mapM (λf=>F f.type ((cs.drop f.offset).take (P.cellsOf f.type)))=some xs->off+ts.length=cs.length->dH w ts (cs.drop off)
 |[],off,ts,xs,h,_,hl=>by
  cases h;have:cs.drop off=[]:=List.drop_eq_nil_of_le (by simp at hl;omega)
  rw[this];exact⟨[],rfl,rfl,λj r v hr _=>by simp at hr⟩
 |f::fs,off,ts,xs,h,hm,hl=>by
  simp only[qO]at h;cases ho:Nat.beq f.offset off<;>simp only[ho,cond_true,cond_false,An]at h
  ·cases h
  have ho:=AR ho;obtain⟨us,hu,h⟩:=h;cases hc:Nat.beq (P.cellsOf f.type) us.length<;>simp only[hc,cond_true,cond_false,An,AP]at h
  ·cases h
  have hc:=AR hc;obtain⟨vs,hv,rfl⟩:=h;rw[List.mapM_cons]at hm
  cases hF:F f.type ((cs.drop f.offset).take (P.cellsOf f.type))with
  |none=>grind
  |some y=>
   cases hR:fs.mapM (λf=>F f.type ((cs.drop f.offset).take (P.cellsOf f.type)))with
   |none=>grind
   |some ys=>
    rw[BR]at hl;have h1:=hg _ _ _ _ hF hu (by rw[Bj,List.length_drop];omega);have h2:=kr hg cs fs (off+us.length) vs ys hv hR (by omega);rw[ho,hc]at h1;have:=h1.append h2;rwa [<-List.drop_drop,BD]at this
theorem trod_int {fuel:Nat} {T:TypeId} {cs:List Value} {x:DataW H× List MemPlace} {k:IntKind} (hu:P.underlying T=some (.int k)) (h:DataW.trod enc P w base sp held fuel T cs=some x):∃n,cs=[.int k n]/\(Lit.int k n).wf=true:=by
 cases fuel with
 |zero=>cases h
 |succ fuel=>
  unfold DataW.trod at h;grind
theorem trod_bool {fuel:Nat} {T:TypeId} {cs:List Value} {x:DataW H× List MemPlace} (hu:P.underlying T=some .bool) (h:DataW.trod enc P w base sp held fuel T cs=some x):∃b,cs=[.bool b]:=by
 cases fuel with
 |zero=>cases h
 |succ fuel=>
  unfold DataW.trod at h;grind
theorem vr {fuel:Nat} {T:TypeId} {cs:List Value} {x:DataW H× List MemPlace} (hu:P.underlying T=some .string) (h:DataW.trod enc P w base sp held fuel T cs=some x):∃s,cs=[.string s]/\s.size<=maxLen:=by
 cases fuel with
 |zero=>cases h
 |succ fuel=>
  unfold DataW.trod at h;grind
theorem pO {fuel:Nat} {T:TypeId} {cs:List Value} {x:DataW H× List MemPlace} {fs:Array Field} (hu:P.underlying T=some (.struct fs)) (h:DataW.trod enc P w base sp held fuel T cs=some x):
  ∃fuel' xs,cs.length=P.cellsOf T/\fs.toList.mapM (λf=>DataW.trod enc P w base sp held fuel' f.type ((cs.drop f.offset).take (P.cellsOf f.type)))=some xs:=by
 cases fuel with
 |zero=>cases h
 |succ fuel=>
  unfold DataW.trod at h;simp only[hu]at h;split at h
  ·rename_i hl;obtain⟨xs,hx,_⟩:=AV.1 h;exact⟨fuel,xs,hl,hx⟩
  ·cases h
theorem kt {α:Type} {Q:Nat->α->Prop}:∀(n:Nat),(∀i,i<n->∃x,Q i x)->∃l:List α,l.length=n/\∀(i:Nat) (x:α),l[i]? =some x->Q i x
 |0,_=>⟨[],rfl,λi x h=>by simp at h⟩
 |n+1,h=>by
  obtain⟨l,h1,h2⟩:=kt n λi hi=>h i (by omega);obtain⟨x,hx⟩:=h n (by omega);refine⟨l++[x],by simp[h1],λi y hy=>?_⟩;grind
theorem tW {a:Addr} {v:Value} (h:w.cell? a=some v):a.spot=none:=by
 unfold World.cell? at h
 cases hs:a.spot with
 |none=>rfl
 |some s=>grind
theorem lO {n j:Nat} (h:j<n):(List.range n)[j]? =some j:=by rw[AU (by simpa using h)];simp
theorem iO:∀(n fuel:Nat) (T:TypeId) (cs:List Value) (x:DataW H× List MemPlace) (ts:List Ty),DataW.trod enc P w base sp held fuel T cs=some x->kq P tt n T=some ts->dH w ts cs
 |0,_,_,_,_,_,_,h=>nomatch h
 |n+1,fuel,T,cs,x,ts,h,hf=>by
  unfold kq at hf;split at hf
  ·rename_i k hu;cases hf;obtain⟨m,rfl,hw⟩:=trod_int hu h;exact dH.one (.int k m) (.int k m hw)
  ·rename_i hu;cases hf;obtain⟨b,rfl⟩:=trod_bool hu h;exact dH.one (.bool b) (.bool b)
  ·rename_i hu;cases hf;obtain⟨s,rfl,hsl⟩:=vr hu h
   have:s=⟨s.data.toList.toArray⟩:=by simp
   rw[this];exact dH.one (.str s.data.toList) (.str _ (by simpa using hsl))
  ·rename_i e hu;simp only[An]at hf;obtain⟨t,ht,us,hus,hf⟩:=hf;split at hf
   ·rename_i hc;obtain⟨rfl,hsz⟩:=hc;cases hf;rw[Ty.iv]at hsz
    rcases DataW.trod_slice hu h with⟨rfl,_⟩|⟨a,len,cap,elems,rest,n',_,rfl,_,hb,hlc,hcap,hlen,hel,_⟩
    ·exact dH.one (.sl t [] none 0 0 0 (λ_ _=>undef) (Bh _) (.inl rfl) (λi j r ⟨x,hx,_⟩=>by simp at hx) (λi j r ⟨x,hx,_⟩=>by simp at hx)) (.sl t [] (λi j r ⟨x,hx,_⟩=>by simp at hx) (Bo _))
    ·subst hlen
     have AJ:∀i,i<elems.length->∃x:t.El,∃ds,w.cells? base (a.add (i*P.cellsOf e)) (P.cellsOf e)=some ds/\(t.cells x).length=ds.length/\
       ∀(j:Nat) (r:R) (v:Value),(t.cells x)[j]? =some r->ds[j]? =some v->RepR w (λ_=>True) r v/\r.Wf:=λi hi=>by
      have:=hel i hi;rw[AU hi]at this;obtain⟨ds,h1,h2⟩:=An.1 this;obtain⟨rs,g1,g2,g3⟩:=iO n n' e ds _ _ h2 hus;obtain⟨x,hx⟩:=gX t rs g1;have hc:=Ty.aI t rs x hx;grind
     obtain⟨xs,hxl,hxs⟩:=kt elems.length AJ
     have key:∀i j r,af t xs i j r->a.spot=none/\∃v,w.at? (a.block,a.off+(i*t.sz+j))=some v/\RepR w (λ_=>True) r v/\r.Wf:=λi j r ⟨x,hx,hr⟩=>by
      obtain⟨ds,h1,h2,h3⟩:=hxs i x hx
      have hj:j<ds.length:=by rw[<-h2];exact(AQ.1 hr).1
      unfold World.cells? at h1;rw[if_pos (by unfold Addr.add;split<;>exact hb)]at h1;have hl:=mapM_some_length h1;rw[List.length_range]at hl;have hg:=mapM_some_get h1 j j (lO (by omega));rw[AU hj]at hg
      have hsp:a.spot=none:=by
       have hi:i<xs.length:=(AQ.1 hx).1;obtain⟨es,q1,q2,_⟩:=hxs 0 _ (AU (by omega));have uN:=t.b4;rw[Ty.aH]at q2;unfold World.cells? at q1;rw[if_pos (by unfold Addr.add;split<;>exact hb)]at q1;have h0:=mapM_some_get q1 0 0 (lO (by omega));rw[AU (by omega)]at h0;have hs:=tW h0;simpa[Addr.add]using hs
      refine⟨hsp,ds[j],?_,h3 j r _ hr (AU hj)⟩
      have:(a.add (i*P.cellsOf e)).add j=⟨a.block,a.off+(i*t.sz+j),none⟩:=by
       obtain⟨b0,o0,s0⟩:=a;simp only at hsp;subst hsp;rw[hsz];simp only[Addr.add];grind
      rw[this]at hg;exact hg
     rw[<-hxl]
     have zB:RepR w (λ_=>True) (.sl t xs) (.slice (some a) xs.length cap):=by
      refine .sl t xs (some a) cap a.block a.off (λi j=>(w.at? (a.block,a.off+(i*t.sz+j))).getD undef) (by omega) ?_ (λi j r hc=>?_) (λi j r hc=>?_)
      ·cases xs with
       |nil=>exact .inl rfl
       |cons x l=>
        right;obtain⟨r,hr⟩:=aX (t:=t) (xs:=x::l) (i:=0) (j:=0) (by simp) t.b4;have:=(key 0 0 r hr).1;obtain⟨b0,o0,s0⟩:=a;grind
      ·grind
      ·grind
     exact dH.one zB (.sl t xs (λi j r hc=>by obtain⟨_,v,_,_,hw⟩:=key i j r hc;exact hw) (by omega))
   ·cases hf
  ·rename_i fs hu;simp only[An]at hf;obtain⟨us,hus,hf⟩:=hf;cases hc:Nat.beq (P.cellsOf T) us.length<;>simp only[hc,cond_true,cond_false]at hf
   ·cases hf
   cases hf;have hc:=AR hc;obtain⟨fuel',xs,hl,hx⟩:=pO hu h;have:=kr (F:=DataW.trod enc P w base sp held fuel') (λT cs x ts h1 h2 _=>iO n fuel' T cs x ts h1 h2) cs fs.toList 0 _ xs hus hx (by omega);grind
  ·cases hf
end
end
section
variable [Tok] [Glo]
open Go.ChangeShapes Go.WideShapes Go.ChangeAt Go.RowKit
def vt (P:Program) (tt:TT) (T:TypeId) (a:Arg):Prop:=
 ∃ts,kq P tt 8 T=some ts/\((∃fs,P.underlying T=some (.struct fs))->∃rs:List R,a=.agg rs/\rs.map R.ty=ts/\∀r∈rs,r.Wf)/\
  ((∀fs,P.underlying T≠some (.struct fs))->∃r:R,a=.one r/\[r.ty]=ts/\r.Wf)
def ku (P:Program) (tt:TT):List TypeId->List Arg->Prop
 |[],[]=>True
 |T::Ts,a::as=>vt P tt T a/\ku P tt Ts as
 |_,_=>False
section
variable {H:Type} {enc:TypeId× Value->H} {P:Program} {tt:TT} {w:World} {base:Nat} {sp:Nat->Bool} {held:Bool}
theorem vu {b0:Nat} {T:TypeId} {v:Value} {d:DataW H} {p:List MemPlace} {ts:List Ty} (hd:DataW.Trod enc P w base sp held T v d p) (hv:Value.okWide P w .any b0 T v) (hf:kq P tt 8 T=some ts):
  ∃a,vt P tt T a/\fV w (λ_=>True) a v:=by
 obtain⟨fuel,hd⟩:=hd;obtain⟨rs,h1,h2,h3⟩:=iO 8 fuel T _ _ ts hd hf;by_cases hs:∃fs,P.underlying T=some (.struct fs)
 ·obtain⟨fs,hfs⟩:=hs;simp only[Value.okWide,hfs]at hv;obtain⟨cs,rfl,hsz,_⟩:=hv;refine⟨.agg rs,⟨ts,hf,λ_=>⟨rs,rfl,h1,λr hr=>?_⟩,λh=>(h fs hfs).elim⟩,cs,rfl,by simpa[Value.cells]using h2,λj r u hr hu=>?_⟩
  ·obtain⟨j,hj⟩:=Bn hr
   have hlt:j<cs.size:=by
    have:=(AQ.1 hj).1;simp[Value.cells]at h2;omega
   exact(h3 j r cs[j] hj (by simp[Value.cells,hlt])).2
  ·exact(h3 j r u hr (by simpa[Value.cells]using hu)).1
 ·have one1:∀{t},rs.map R.ty=[t]->∃r,rs=[r]:=λh=>List.length_eq_one_iff.1 (by simpa using congrArg List.length h)
  have la:∃r,rs=[r]:=by
   unfold kq at hf;split at hf
   ·cases hf;exact one1 h1
   ·cases hf;exact one1 h1
   ·cases hf;exact one1 h1
   ·simp only[An]at hf;obtain⟨t,_,us,_,hf⟩:=hf;split at hf
    ·cases hf;exact one1 h1
    ·exact nomatch hf
   ·rename_i fs hu;exact(hs ⟨fs,hu⟩).elim
   ·exact nomatch hf
  obtain⟨r,rfl⟩:=la
  have yV:v.cells.toList=[v]:=by
   have AK:∀cs,v≠.agg cs:=λcs e=>by
    subst e;unfold kq at hf;split at hf
    ·rename_i k hu;obtain⟨n,e⟩:=okWide_int hu hv;exact nomatch e
    ·rename_i hu;obtain⟨n,e⟩:=okWide_bool hu hv;exact nomatch e
    ·rename_i hu;obtain⟨n,e⟩:=okWide_string hu hv;exact nomatch e
    ·rename_i e hu;obtain⟨a,l,c,e⟩:=okWide_slice hu hv;exact nomatch e
    ·rename_i fs hu;exact(hs ⟨fs,hu⟩).elim
    ·exact nomatch hf
   cases v<;>first|rfl|exact(AK _ rfl).elim
  rw[yV]at h3;have:=h3 0 r v rfl rfl;exact⟨.one r,⟨ts,hf,λh=>(hs h).elim,λ_=>⟨r,rfl,by simpa using h1,this.2⟩⟩,this.1⟩
theorem nU {b0:Nat}:∀{Ts:List TypeId} {vs:List Value} {ds:List (DataW H)} {ps:List MemPlace},DataW.TrodAll enc P w base sp held Ts vs ds ps->
  (∀(j:Nat) t v,Ts[j]? =some t->vs[j]? =some v->Value.okWide P w .any b0 t v)->(Ts.all λT=>(kq P tt 8 T).isSome)=true->
  ∃as,ku P tt Ts as/\as.length=vs.length/\ds.length=Ts.length/\∀(j:Nat) (x:Arg) (u:Value),as[j]? =some x->vs[j]? =some u->fV w (λ_=>True) x u
 |[],[],[],_,_,_,_=>⟨[],trivial,rfl,rfl,λj x u h=>by simp at h⟩
 |T::Ts,v::vs,d::ds,ps,⟨p,q,h1,h2,_⟩,hv,hf=>by
  simp only[List.all_cons,AW]at hf;obtain⟨ts,hts⟩:=Option.isSome_iff_exists.1 hf.1;obtain⟨a,g1,g2⟩:=vu h1 (hv 0 T v rfl rfl) hts;obtain⟨as,g3,g4,g5,g6⟩:=nU h2 (λj t v ht hw=>hv (j+1) t v (by simpa using ht) (by simpa using hw)) hf.2;refine⟨a::as,⟨g1,g3⟩,by simp[g4],by simp[g5],λj x u hx hu=>?_⟩
  cases j with
  |zero=>simp at hx hu;subst hx hu;exact g2
  |succ j=>exact g6 j x u (by simpa using hx) (by simpa using hu)
 |[],_::_,_,_,h,_,_=>nomatch h
 |[],[],_::_,_,h,_,_=>nomatch h
 |_::_,[],_,_,h,_,_=>nomatch h
 |_::_,_::_,[],_,h,_,_=>nomatch h
variable {w':World}
theorem pP (hg:aV w w') (hc:∀(p:Cell) x,w.at? p=some x->w'.at? p=some x/\w'.bc p=w.bc p) (may:MemPlace->Prop):w.keptBut w' may:=by
 obtain⟨h1,h2,h3⟩:=hg;refine⟨h1,h2,λi hi=>?_⟩;have:=h3 i hi;split at this
 ·rename_i c t fr c' t' fr' e1 e2;obtain⟨q1,q2,q3⟩:=this;rw[e1,e2];refine⟨q1,?_,q3,λj _=>?_⟩
  ·rcases q2 with q2|q2
   ·exact q2
   ·have h0:w.at? (i,0)=some c[0]:=by simp[World.at?,World.cell?,e1,q2]
    have:=(hc _ _ h0).2;simp only[World.bc,e1,e2,A4]at this;exact Prod.ext this.1 this.2.1
  ·by_cases hj:j<c.size
   ·have:w.at? (i,j)=some c[j]:=by simp[World.at?,World.cell?,e1,hj]
    have:=(hc _ _ this).1;simp only[World.at?,World.cell?,e2,B6,BF,if_false]at this;rw[this,A0 hj]
   ·rw[Array.getElem?_eq_none (by omega),Array.getElem?_eq_none (by omega)]
 ·rename_i x y h4;rw[this];split
  ·rename_i e1 e2;rw[e1]at e2;cases e2;exact⟨rfl,rfl,rfl,λ_ _=>rfl⟩
  ·rename_i e1 e2;rw[e1]at e2;cases e2;exact .inr ⟨rfl,rfl⟩
  ·rfl
theorem tX {may:MemPlace->Prop} (h:w.keptBut w' may) {a:Addr} (ha:a.block<w.heap.size):w'.frozen? a=w.frozen? a:=by
 have:=h.2.2 a.block ha;unfold World.frozen?;split at this
 ·rename_i e1 e2;obtain⟨_,q2,_⟩:=this;rw[e1,e2,q2]
 ·rename_i e1 e2;rw[e1,e2]
 ·rw[this]
theorem xh (hg:aV w w') (hc:∀(p:Cell) x,w.at? p=some x->w'.at? p=some x/\w'.bc p=w.bc p) {p:MemPlace} (hp:p.block<w.heap.size):w.sameAt w' p:=by
 obtain⟨_,_,h3⟩:=pP hg hc λ_=>False
 cases p with
 |cell b o=>
  have:=h3 b hp;show w'.cell? ⟨b,o,none⟩=w.cell? ⟨b,o,none⟩;split at this
  ·rename_i c t fr c' t' fr' e1 e2;obtain⟨q1,q2,q3,q4⟩:=this;simp only[World.cell?,e1,e2,B6,BF,if_false];exact q4 o (λh=>h)
  ·rename_i es ck es' ck' e1 e2;simp[World.cell?,e1,e2]
  ·simp only[World.cell?,this]
 |map b=>
  have:=h3 b hp;show w'.heap[b]? =w.heap[b]?;split at this
  ·rename_i c t fr c' t' fr' e1 e2;obtain⟨rfl,rfl,q3,q4⟩:=this;rw[e1,e2];have:c'=c:=Array.ext_getElem? λj=>q4 j (λh=>h);rw[this]
  ·rename_i es ck es' ck' e1 e2
   rcases this with h|⟨rfl,rfl⟩
   ·exact h.elim
   ·rw[e1,e2]
  ·exact this
theorem gY (hl:laidOutB P=true):∀{Ts:List TypeId} {vs:List Value} {ds:List (DataW H)} {ps:List MemPlace},(∀t∈Ts,P.readableRec t=true/\t<P.types.size)->
    DataW.TrodAll enc P w 0 (λ_=>true) true Ts vs ds ps->(∀p∈ps,w.sameAt w' p)->(∀p∈ps,sp p.block=true)->DataW.TrodAll enc P w' 0 sp true Ts vs ds ps
  |[],[],[],_,_,h,_,_=>h
  | T :: Ts, v :: vs, d :: ds, ps, hT, ⟨p, q, h1, h2, e⟩, hs, hp =>
    ⟨p,q,WideElems.Trod_stays hl (hT T (by simp)).1 (hT T (by simp)).2 h1 (λx hx=>hs x (by rw[e];exact List.mem_append_left _ hx)) (λx hx=>hp x (by rw[e];exact List.mem_append_left _ hx)),
      gY hl (λt ht=>hT t (by simp[ht])) h2 (λx hx=>hs x (by rw[e];exact List.mem_append_right _ hx)) (λx hx=>hp x (by rw[e];exact List.mem_append_right _ hx)),e⟩
  |[],_::_,_,_,_,h,_,_=>nomatch h
  |[],[],_::_,_,_,h,_,_=>nomatch h
  |_::_,[],_,_,_,h,_,_=>nomatch h
  |_::_,_::_,[],_,_,h,_,_=>nomatch h
end
theorem tY {H:Type} {enc:TypeId× Value->H} {P:Program} {f:Func} {s:ChangeSpec} {apart fresh handsOn again:Bool} {W W':World} {args:Array Value} {v:Value} {ds gs:List (DataW H)} {before pa pv:List MemPlace}
  (hW:DataW.Whole enc P f.params.toList s.vars apart W args.toList ds gs before)
  (yW:∀(b:Nat) (sp:Nat->Bool) (hd:Bool),DataW.TrodAll enc P W' b sp hd f.resultTypes.toList (v.resultList f.resultTypes.size) (s.fn H (ds++gs)).results [])
  (kQ:∀sp:Nat->Bool,(∀p∈before,sp p.block=true)->DataW.TrodAll enc P W' 0 sp true f.params.toList args.toList (s.fn H (ds++gs)).args pa)
  (tZ:∀sp:Nat->Bool,(∀p∈before,sp p.block=true)->DataW.TrodVars enc P W' sp s.vars (s.fn H (ds++gs)).vars pv)
  (hps:before=pa++pv) (hk:W.keptBut W' (·∈before)) (hfz:∀b off,MemPlace.cell b off∈before->W'.frozen? ⟨b,off,none⟩=W.frozen? ⟨b,off,none⟩)
  (hok:∀(j:Nat) (t:TypeId) (r:Value),f.resultTypes[j]? =some t->(v.resultList f.resultTypes.size)[j]? =some r->Value.okWide P W' .any 0 t r):s.post enc P f apart fresh handsOn again W args v W':=by
 have hin:∀p∈before,(decide (p.block<W.heap.size))=true:=λp hp=>decide_eq_true (hW.lt p hp);subst hps;refine⟨ds,gs,_,[],pa,pv,hW,yW _ _ _,kQ (λb=>decide (b<W.heap.size)) hin,tZ _ hin,World.keptBut_mono (λp hp=>⟨hp,.inr (List.mem_append.1 hp)⟩) hk,λ_=>?_⟩;obtain⟨_,_,_,_,_,hz,hn⟩:=id hW;refine⟨hok,_,_,([]++pa)++pv,⟨[]++pa,pv,trodAll_append (kQ _ λ_ _=>rfl) (yW _ _ _),tZ _ λ_ _=>rfl,rfl,λb off hp=>?_,λha=>?_⟩,λp hp _=>?_⟩
 ·have hp:MemPlace.cell b off∈pa++pv:=by simpa using hp
  rw[hfz b off hp];exact hz b off hp
 ·simpa using hn ha
 ·simpa using hp
end
section
open Go.ChangeShapes Go.WideShapes Go.ChangeAt Go.RowKit
section
variable [Tok] [Glo]
theorem pure_str {P:Program} {g:FuncId} (he:qw P g) {args:List Arg} {l:List UInt8}
    (h:∀(w:World) (us:Array Value) (ok:Cell->Prop),args.length=us.size->(∀(j:Nat) (x:Arg) (u:Value),args[j]? =some x->us[j]? =some u->fV w ok x u)->GlobW w (λ_=>False)->
      Calls P g us w λe w'=>e=.returned (.string ⟨l.toArray⟩)/\Below w.heap.size w w'):dq P g args (.r [] (.str l),[]):=by
  refine⟨he,λw us ok hl hr hg=>(h w us ok hl hr hg).mono ?_⟩
  rintro e w' ⟨rfl,hB⟩
  refine⟨_,⟨λ_=>undef,λ_ _=>False,λp=>ok p\/w.at? p=none⟩,rfl,⟨λi B hB=>(nomatch hB),λi j B B' p h1=>(nomatch h1),λi B p h1=>(nomatch h1),λp hp=>.inr ?_⟩,.r _ _ _ (.str l),rfl,λp x hx=>Below.at_ hB hx,λi B p h1=>(nomatch h1),Below.yU hB⟩
  cases hx:w.at? p with
  |none=>rfl
  |some x=>rw[(Below.at_ hB hx).1]at hp;exact nomatch hp
theorem globW_below {w w':World} {fp:Cell->Prop} (h:GlobW w fp) (hb:Below w.heap.size w w'):GlobW w' fp:=λg cs hc=>by
 obtain⟨⟨t,fr,he⟩,h2⟩:=h g cs hc;exact⟨⟨t,fr,(hb.block g (A2.1 he).1).trans he⟩,h2⟩
theorem below_grow (w:World) (q:Nat) (os:Array Obj):Below w.heap.size w (Sort.grow (w.drewN q) os):=
  ⟨rfl,rfl,rfl,by show _<=(w.heap++os).size;simp,λi hi=>by
    show(w.heap++os)[i]? =_
    rw[BB hi]⟩
theorem gZ {T e:TypeId} {B b:Nat} {p:Value} {bs:List Value} {w w':World} (h:Lib.BuilderAt T e B b p bs w) (hb:Below w.heap.size w w'):Lib.BuilderAt T e B b p bs w':=by
 have hlt:=h.lt;obtain⟨h1,v,h2,h3,h4⟩:=h;exact⟨h1,v,(hb.block _ hlt).trans h2,h3.kept (row:=some b) ⟨hb.os,hb.tape,hb.output,hb.size,λk hk _=>hb.block k hk⟩ (.inr h4),h4⟩
theorem isBuilder_below {T e:TypeId} {B b:Nat} {bs:List Value} {w w':World} (h:Lib.IsBuilder T e B b bs w) (hb:Below w.heap.size w w'):Lib.IsBuilder T e B b bs w':=
 h.imp (gZ · hb) (gZ · hb)
theorem kv {C:Checked} {os:Os} {g:FuncId} {fn:Func} {s:ChangeSpec} {tt:TT} {H:Type} {enc:TypeId× Value->H} {conds:List PathCond} {apart fresh handsOn again:Bool} {X:World->Array Value->Prop}
    (hX:∀(w w':World) (args:Array Value),w.heap=w'.heap->X w args->X w' args) (hgl:∀W args,X W args->GlobW W (λ_=>False))
    (own:ownKnob C.prog.godebug=none) (started:os.Started) (noInit:C.prog.inits.idxOf? g=none) (hfn:C.prog.funcs[g]? =some fn)
    (witness:∃(w:World) (tape:Tape) (i:Input),w.os=os/\(w.forCall tape i).Shaped C.prog/\i.vars=[]/\Input.okWide C.prog (w.forCall tape i) .any w.heap.size g i/\
      ((s.pre enc C.prog fn conds apart (w.forCall tape i).memory i.args/\X (w.forCall tape i).memory i.args)/\sizedMet enc C.prog fn (OpenSpec.ofChange s) apart (w.forCall tape i).memory i.args)/\Assume.holds {} C.prog (lone (Frame.enter C.prog g i.args .normal) [] (w.forCall tape i)))
    (zT:laidOutB C.prog=true) (zU:∀t∈fn.params.toList,C.prog.readableRec t=true/\t<C.prog.types.size) (zV:(fn.params.toList.all λT=>(kq C.prog tt 8 T).isSome)=true)
    (tZ:s.vars=[]) (xi:∀ds:List (DataW H),ds.length=fn.params.toList.length->s.fn H (ds++[])={results:=[.lit (.bool true)],args:=ds,vars:=[]})
    {bt:TypeId} (yW:fn.resultTypes=#[bt]) (hbt:C.prog.underlying bt=some .bool)
    (AL:∀as:List Arg,ku C.prog tt fn.params.toList as->dq C.prog g as (.b true,[])):
    ReturnsInHanded {} C os g .any (λw args=>(s.pre enc C.prog fn conds apart w args/\X w args)/\sizedMet enc C.prog fn (OpenSpec.ofChange s) apart w args) (s.post enc C.prog fn apart fresh handsOn again):=by
  refine returnsInHanded_of_change_and (C:=C) (X:=X) hX own started noInit hfn witness ?_;intro W base args ds gs before hval hW _ _ hL _;have hW':=hW;obtain⟨p,q,hA,hV,rfl,hfz,_⟩:=hW;rw[tZ]at hV;obtain⟨rfl,rfl⟩:=trodVars_none hV;obtain⟨as,g1,g2,g3,g4⟩:=nU hA (λj t v ht hv=>hval j t v (by simpa using ht) (by simpa using hv)) zV;obtain⟨_,hc⟩:=AL as g1;refine(hc W args (λ_=>True) (by simpa using g2) (λj x u hx hu=>g4 j x u hx (by simpa using hu)) (hgl W _ hL)).mono λe W' ⟨u,pl,he,_,hu,_,fM,_,hgr⟩=>?_
  have hu:u=.bool true:=by
    cases hu with
    |r _ _ _ h=>cases h;rfl
  subst hu he;have hc':∀(p:Cell) x,W.at? p=some x->W'.at? p=some x/\W'.bc p=W.bc p:=fM;have hlt:∀x∈p,x.block<W.heap.size:=λx hx=>hW'.lt x (by simpa using hx);refine⟨_,rfl,tY (pa:=p) (pv:=[]) hW' (λ_ _ _=>?_) (λsp hsp=>?_) (λ_ _=>?_) rfl (pP hgr hc' _) (λb off hp=>tX (pP hgr hc' λ_=>False) (hW'.lt _ hp)) (ok_one yW rfl (okWide_bool_mk hbt true))⟩
  · rw[xi ds g3,yW];exact trodAll_mk1 (shut_bool hbt true)
  · rw[xi ds g3];exact gY zT zU hA (λx hx=>xh hgr hc' (hlt x hx)) (λx hx=>hsp x (by simpa using hx))
  · rw[xi ds g3,tZ];exact rfl
end
def mK:Array Value:=(Lib.pow10Tab.map λz=>Value.int .u64 z).toArray
abbrev powGlo (n:Nat):Glo:=⟨λg=>cond (Nat.beq g n) (some mK) none⟩
theorem ua {P:Program} {n:Nat} {w:World} (hg:P.globalNamed "internal/strconv.uint64pow10"=some n) (h:Lib.TabIs P w "internal/strconv.uint64pow10" .u64 Lib.pow10Tab):@GlobW (powGlo n) w (λ_=>False):=by
 intro g cs hc;have hc:(cond (Nat.beq g n) (some mK) none:Option (Array Value))=some cs:=hc
 cases hb:Nat.beq g n with
 |false=>rw[hb]at hc;exact nomatch hc
 |true=>
  rw[hb]at hc;cases hc;have:=AR hb;subst this;refine⟨?_,λ_ _ h=>h.elim⟩;unfold Lib.TabIs World.var? at h;rw[hg,A5]at h;split at h
  ·rename_i cs t fr he;cases h;exact⟨t,fr,he⟩
  ·exact nomatch h
theorem tab_of {P:Program} {n:Nat} {w:World} {fp:Cell->Prop} (hg:P.globalNamed "internal/strconv.uint64pow10"=some n) (h:@GlobW (powGlo n) w fp):Lib.TabIs P w "internal/strconv.uint64pow10" .u64 Lib.pow10Tab:=by
 obtain⟨⟨t,fr,he⟩,_⟩:=h n mK (by show cond (Nat.beq n n) _ _=_;rw[Nat.beq_refl];rfl);unfold Lib.TabIs World.var?;rw[hg,A5,he];rfl
def vw:DataW Unit->Array Value
 |.agg l=>(l.map λd=>match d with|.lit (.int k n)=>Value.int k n|_=>undef).toArray
 |_=>#[]
def zW (P:Program) (w:World) (x:String× DataW Unit):World:=
 match P.globalNamed x.1 with
 |some g=>{w with heap:=w.heap.modify g λo=>match o with|.cells _ t fr=>.cells (vw x.2) t fr|o=>o}
 |none=>w
noncomputable def xj (P:Program) (os:Os) (l:List (String× DataW Unit)):World:=l.foldl (zW P) (World.holding P os ⟨#[],#[],[]⟩)
end
section
instance zm:Tok:=⟨λ_=>.slice none 0 0,λ_=>rfl,rfl⟩
instance zn:Glo:=⟨λ_=>none⟩
def okI (n:Int):Prop:=-9223372036854775808<=n/\n<=9223372036854775807
theorem nV {n:Int} (h1:-9223372036854775808<=n) (h2:n<=9223372036854775807):i64.wrap n=n:=Go.IntWalk.i64_in n ⟨h1,h2⟩
theorem hC {n m:Nat} (h:n<m) (hm:m<=9223372036854775807):i64.wrap ((n:Int)+1)=((n+1:Nat):Int):=by
 rw[nV (by omega) (by omega)];omega
@[simp] theorem iP {α:Type} (xs:List α) (i:Nat):idx xs (i:Int)=xs[i]? :=by
 have:(0:Int)<=(i:Int):=by omega
 simp[idx,this]
section
variable {R V:Type} {g:V->(V->Option R)->Option R}
theorem ub (k:Nat) (v:V):iter g (k+1) v=g v (iter g k):=rfl
theorem hJ {st:Nat->V} {n:Nat} {P:Nat->Option R} (h:∀i,i<n->∀next:V->Option R,next (st (i+1))=P (i+1)->g (st i) next=P i)
  (hn:∀next,g (st n) next=P n):∀(k i:Nat),i<=n->n-i<k->iter g k (st i)=P i
 |0,i,hi,hk=>by omega
 |k+1,i,hi,hk=>by
  rw[ub];by_cases c:i<n
  ·exact h i c _ (hJ h hn k (i+1) (by omega) (by omega))
  ·have:i=n:=by omega
   subst this;exact hn _
theorem vx {st:Nat->V} {n:Nat} {r:Option R} (h:∀i,i<n->∀next:V->Option R,g (st i) next=next (st (i+1))) (hn:∀next,g (st n) next=r) {k:Nat} (hk:n<k):
  iter g k (st 0)=r:=hJ (P:=λ_=>r) (λi hi next e=>(h i hi next).trans e) hn k 0 (Bo _) (by omega)
end
theorem aj {α:Type} {p:Prop} [Decidable p] (x y:α):cond (decide p) x y=if p then x else y:=by by_cases h:p<;>simp[h]
theorem mL {α:Type} (a b:Int) (x y:α):cond (a !=b) x y=if a=b then y else x:=by
 by_cases h:a=b
 ·simp[h]
 ·have:(a !=b)=true:=by simpa using h
  rw[this,if_neg h];rfl
theorem vy {α:Type} (a b:Int) (x y:α):cond (a==b) x y=if a=b then x else y:=by
 by_cases h:a=b
 ·simp[h]
 ·have:(a==b)=false:=by simpa using h
  rw[this,if_neg h];rfl
theorem cond_not {α:Type} (b:Bool) (x y:α):cond (!b) x y=cond b y x:=by cases b<;>rfl
theorem xk (a b:Int):(a !=b)=decide (a≠b):=by
 by_cases h:a=b
 ·simp[h]
 ·rw[decide_eq_true h];simpa using h
theorem fE {α:Type} {xs:List α} {i:Nat} (h:i<xs.length):xs[i]? =some xs[i]:=AU h
theorem hU {α:Type} {xs:List α} {i:Nat} (h:i<xs.length):xs.drop i=xs[i]::xs.drop (i+1):=(List.getElem_cons_drop h).symm
theorem uc {α:Type} {xs:List α} {i:Nat} (h:i<xs.length):xs.take (i+1)=xs.take i++[xs[i]]:=(List.take_append_getElem h).symm
theorem vz {α:Type} (xs:List α) (z:α) {i:Nat} (h:i<xs.length):(xs.take i++List.replicate (xs.length-i) z).set i xs[i]=xs.take (i+1)++List.replicate (xs.length-(i+1)) z:=by
 rw[List.set_append_right _ _ (by simp;omega)]
 have e:i-(xs.take i).length=0:=by simp;omega
 rw[e,show xs.length-i=(xs.length-(i+1))+1 from by omega,List.replicate_succ,List.set_cons_zero,uc h,A9];rfl
theorem nW {α R:Type} (xs:List α) (z:α) {g:Int× List α->(Int× List α->Option R)->Option R} {fin:List α->Option R}
  (h:∀(i:Nat) (ys:List α) (hi:i<xs.length) (next:Int× List α->Option R),ys.length=xs.length->g ((i:Int),ys) next=next (((i+1:Nat):Int),ys.set i xs[i]))
  (hn:∀ys next,g ((xs.length:Int),ys) next=fin ys) {k:Nat} (hk:xs.length<k):iter g k (0,List.replicate xs.length z)=fin xs:=by
 have:=vx (g:=g) (st:=λi=>((i:Int),xs.take i++List.replicate (xs.length-i) z)) (n:=xs.length) (r:=fin xs) (λi hi next=>by
  rw[h i _ hi next (by simp;omega),vz xs z hi]) (λnext=>by
  simp only[List.take_length,Nat.sub_self,List.replicate_zero,Be];exact hn _ _) hk
 simpa using this
theorem nX {α R:Type} [DecidableEq α] (xs ys:List α) (hl:xs.length=ys.length) {g:Int->(Int->Option R)->Option R} {yes no:Option R}
  (h:∀(i:Nat) (hi:i<xs.length) (hi':i<ys.length) (next:Int->Option R),g (i:Int) next=if xs[i]=ys[i]then next ((i+1:Nat):Int)else no)
  (hn:∀next,g (xs.length:Int) next=yes) {k:Nat} (hk:xs.length<k):iter g k 0=if xs=ys then yes else no:=by
 have:=hJ (g:=g) (st:=λi=>(i:Int)) (n:=xs.length) (P:=λi=>if xs.drop i=ys.drop i then yes else no) (λi hi next e=>by
  have hi':i<ys.length:=by omega
  rw[h i hi hi' next]
  have he:(xs.drop i=ys.drop i)↔(xs[i]=ys[i]/\xs.drop (i+1)=ys.drop (i+1)):=by rw[hU hi,hU hi',Bw]
  by_cases c:xs[i]=ys[i]
  ·rw[if_pos c,e];simp only[he,c,true_and]
  ·rw[if_neg c,if_neg (λq=>c (he.1 q).1)]) (λnext=>by
  rw[B4,List.drop_of_length_le (by omega)];simp;exact hn next) k 0 (Bo _) (by omega)
 simpa using this
end
section
theorem ar {α β:Type} (a:α) (f:α->Option β):(some a).bind f=f a:=rfl
theorem vA {α R:Type} (xs:List α) (p:α->Bool) {g:Int->(Int->Option R)->Option R} {yes no:Option R}
  (h:∀(i:Nat) (hi:i<xs.length) (next:Int->Option R),g (i:Int) next=cond (p xs[i]) (next ((i+1:Nat):Int)) no)
  (hn:∀next,g (xs.length:Int) next=yes) {k:Nat} (hk:xs.length<k):iter g k 0=cond (xs.all p) yes no:=by
 have:=hJ (g:=g) (st:=λi=>(i:Int)) (n:=xs.length) (P:=λi=>cond ((xs.drop i).all p) yes no) (λi hi next e=>by
  rw[h i hi next,hU hi,List.all_cons];cases hp:p xs[i]
  ·rfl
  ·simp only[cond_true,Bool.true_and];exact e) (λnext=>by rw[B4];exact hn next) k 0 (Bo _) (by omega)
 simpa using this
theorem ud {α R:Type} (xs:List α) (p:α->Bool) {g:Int->(Int->Option R)->Option R} {yes:Option R} {no:Int->Option R}
  (h:∀(i:Nat) (hi:i<xs.length) (next:Int->Option R),g (i:Int) next=cond (p xs[i]) (no (i:Int)) (next ((i+1:Nat):Int)))
  (hn:∀next,g (xs.length:Int) next=yes) {k:Nat} (hk:xs.length<k):iter g k 0=(xs.findIdx? p).elim yes λi=>no (i:Int):=by
 have:=hJ (g:=g) (st:=λi=>(i:Int)) (n:=xs.length) (P:=λi=>((xs.drop i).findIdx? p).elim yes λj=>no ((i+j:Nat):Int)) (λi hi next e=>by
  rw[h i hi next,hU hi,List.findIdx?_cons];cases hp:p xs[i]
  ·simp only[cond_false,BF,if_false];rw[e]
   cases(xs.drop (i+1)).findIdx? p with
   |none=>rfl
   |some j=>simp only[BO,Option.elim_some];congr 2;omega
  ·simp) (λnext=>by rw[B4];simpa using hn next) k 0 (Bo _) (by omega)
 simpa using this
theorem we {a b A B:Int} (h1:0<=a) (h2:a<=A) (h3:0<=b) (h4:b<=B):0<=a*b/\a*b<=A*B:=
 ⟨Int.mul_nonneg h1 h3,Int.mul_le_mul h2 h4 h3 (by omega)⟩
end
section
theorem bU:bO=274877906944:=rfl
def Sz (r:Option Int) (n:Int) (t:Nat):Prop:=r=some (if n<(t:Int)then -1 else n-t)
theorem ue {o:Option Int} {t u:Nat} {n:Int} {G:Int->Option Int} (hn:0<=n) (h:Sz o n t) (hG:(t:Int)<=n->Sz (G (n-t)) (n-t) u):
  Sz (o.bind λr=>cond (decide (r<0)) (some (-1)) (G r)) n (t+u):=by
 unfold Sz at*;subst h;rw[ar,aj];by_cases c:n<(t:Int)
 ·rw[if_pos c,if_pos (by omega),if_pos (by omega)]
 ·rw[if_neg c,if_neg (by omega),hG (by omega)]
  congr 1
  split<;>split<;>omega
theorem wg {n:Int} (hn:0<=n):Sz (some n) n 0:=by unfold Sz;rw[if_neg (by omega)];simp
def zo {α:Type} (t:α->Nat) (xs:List α):Nat:=xs.length+(xs.map t).sum
theorem xC {a b:Int} {G:Option Bool} {Q:Prop} [Decidable Q] (h:G=some (decide Q)):cond (a !=b) (some false) G=some (decide (a=b/\Q)):=by
 rw[mL,h];by_cases c:a=b<;>simp[c]
theorem zp {o:Option Bool} {P:Prop} [Decidable P] {G:Option Bool} {Q:Prop} [Decidable Q] (h1:o=some (decide P)) (h:G=some (decide Q)):(o.bind λr=>cond (!r) (some false) G)=some (decide (P/\Q)):=by
 rw[h1,h,ar];by_cases c:P<;>simp[c]
theorem uf:(some true)=some (decide True):=rfl
end
section
variable [Tok] [Glo]
def mM:Nat:=9223372036854775807
def okS {α:Type} (p:α->Prop) (xs:List α):Prop:=xs.length<=mM/\∀x∈xs,p x
def okB (n:Int):Prop:=0<=n/\n<=255
def Shape.Ok (s:Shape):Prop:=okI s.h/\okI s.w/\okI s.c
def aG.Ok (t:aG):Prop:=t.sh.Ok/\okS okI t.data
def jf.Ok (l:jf):Prop:=okI l.kind/\okI l.out/\okI l.size/\okI l.step/\okI l.mult/\okI l.shift/\okI l.zero/\okS okI l.weights/\okS okI l.zq
def Model.Ok (m:Model):Prop:=m.inp.Ok/\okS jf.Ok m.jy
def Job.Ok (j:Job):Prop:=j.model.Ok/\okI j.at_/\j.act.Ok/\okI j.uw
def Task.Ok (t:Task):Prop:=okI t.id/\okS okI t.sk/\okI t.at_/\okI t.due/\okI t.born
def sm.Ok (s:sm):Prop:=okI s.now/\okI s.zr/\okI s.age/\okS Task.Ok s.tasks/\okI s.run/\okI s.left/\okI s.turns/\okI s.next
def Request.Ok (r:Request):Prop:=okI r.id/\okI r.model/\r.job.Ok/\okI r.due
def Runtime.Ok (r:Runtime):Prop:=r.sched.Ok/\okS Model.Ok r.vH/\okS (λ_=>True) r.vI/\okS Request.Ok r.p5
def Step.Ok (s:Step):Prop:=okI s.kind/\okI s.a/\okI s.b/\okS okB s.data/\s.input.Ok
def Event.Ok (e:Event):Prop:=okI e.kind/\okI e.a/\okI e.b/\e.out.Ok
def Entry.Ok (e:Entry):Prop:=okI e.id/\e.model.Ok/\e.input.Ok/\okI e.at_/\okI e.due/\okI e.end_
def wj.Ok (w:wj):Prop:=okI w.id/\okI w.model/\okI w.due
theorem xl {n:Int} (h:(R.int .i64 n).Wf):okI n:=by
 cases h with
 |int _ _ h=>simp[Lit.wf,IntKind.min,IntKind.max,IntKind.signed,IntKind.bits]at h;exact h
theorem zX {n:Int} (h:(R.int .u8 n).Wf):okB n:=by
 cases h with
 |int _ _ h=>simp[Lit.wf,IntKind.min,IntKind.max,IntKind.signed,IntKind.bits]at h;exact h
theorem yX {t:Ty} {xs:List t.El} {p:t.El->Prop} (h:(R.sl t xs).Wf) (hp:∀x∈xs,(∀r∈t.cells x,r.Wf)->p x):okS p xs:=by
 cases h with
 |sl _ _ h hl=>
  refine⟨by unfold mM;unfold maxLen at hl;omega,λx hx=>hp x hx λr hr=>?_⟩;obtain⟨i,hi⟩:=Bn hx;obtain⟨j,hj⟩:=Bn hr;exact h i j r ⟨x,hi,hj⟩
theorem xm {xs:List Int} (h:(R.ints xs).Wf):okS okI xs:=yX h λx _ hx=>xl (hx _ (by simp[Ty.cells]))
theorem vB {xs:List Int} (h:(R.bytes xs).Wf):okS okB xs:=yX h λx _ hx=>zX (hx _ (by simp[Ty.cells]))
theorem xn {x:Step} (h:∀r∈uy x,r.Wf):x.Ok:=by
 simp[uy]at h;obtain⟨h1,h2,h3,h4,h5,h6,h7,h8⟩:=h;exact⟨xl h1,xl h2,xl h3,vB h4,⟨xl h5,xl h6,xl h7⟩,xm h8⟩
section
variable {P:Program} {tt:TT} {T:TypeId} {a:Arg}
def nY (P:Program) (T:TypeId):Bool:=
 match P.underlying T with
 |some (.struct _)=>true
 |_=>false
theorem vC (s:S) (hf:kq P tt 8 T=some s.tys) (hs:nY P T=true) (h:vt P tt T a):∃x:s.E,a=.agg (s.cells x)/\∀r∈s.cells x,r.Wf:=by
 obtain⟨ts,h1,h2,_⟩:=h;rw[hf]at h1;cases h1;obtain⟨rs,rfl,g1,g2⟩:=h2 (by unfold nY at hs;split at hs<;>simp_all);obtain⟨x,hx⟩:=gX (.st s) rs g1;have:=S.aI s rs x hx;exact⟨x,by rw[this],by rw[this];exact g2⟩
theorem pQ {as:List Arg} {T:TypeId} (h:ku P tt [T] as):∃a,as=[a]/\vt P tt T a:=by
 match as,h with
 |[a],h=>exact⟨a,rfl,h.1⟩
end
theorem rX {P:Program} {g:FuncId} {G:PG} (h:qH P g G) {as:List Arg} {o:Out} (hG:G Out as some=some o):dq P g as o:=by
 obtain⟨o',h1,h2⟩:=h Out as some o hG;cases h1;exact h2
theorem vD {p:TypeId->Bool} {l:List TypeId} (h:l.all p=true):∀t∈l,p t=true:=λt ht=>List.all_eq_true.1 h t ht
end
section
variable [Tok] [Glo]
section
variable {P:Program} {tt:TT} {T:TypeId} {a:Arg}
end
end
end Go.Proofs.Ev
