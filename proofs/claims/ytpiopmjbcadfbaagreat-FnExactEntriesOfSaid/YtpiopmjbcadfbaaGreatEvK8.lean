/- The evaluator over the model's code, and that it is sound: part 8. -/
import Derived.Test.YtpiopmjbcadfbaaGreatEvK7
import GoSem.ClaimChange
import Derived.Deep.Slices
import Derived.DataReads
import Derived.ProofKit
import Derived.WideKeyArgs
import Derived.IntWalk
set_option linter.unusedVariables false
set_option linter.unusedSimpArgs false
set_option linter.unusedSectionVars false
namespace Go.Proofs.Ev
section
variable [Tok]
def R.ty:R->Ty
 |.int k _=>.int k
 |.bool _=>.bool
 |.str _=>.str
 |.sl t _=>.sl t
 |.tok _=>.tok
 |.lN=>.st .shape
inductive R.Wf:R->Prop
 |int (k:IntKind) (n:Int) (h:(Lit.int k n).wf=true):R.Wf (.int k n)
 |bool (b:Bool):R.Wf (.bool b)
 |str (l:List UInt8) (h:l.length<=maxLen):R.Wf (.str l)
 |sl (t:Ty) (xs:List t.El) (h:∀i j r,az t xs i j r->R.Wf r) (hl:xs.length<=maxLen):R.Wf (.sl t xs)
theorem jK (t:Ty) (r:R) (h:r.ty=t) (hs:∀s,t≠.st s):∃x,t.vD r=some x:=by
 subst h
 cases r with
 |int k n=>exact⟨n,by simp[Ty.vD,R.ty]⟩
 |bool b=>exact⟨b,by simp[Ty.vD,R.ty]⟩
 |str l=>exact⟨l,by simp[Ty.vD,R.ty]⟩
 |sl t xs=>exact⟨xs,by simp[Ty.vD,R.ty]⟩
 |tok n=>exact⟨n,by simp[Ty.vD,R.ty]⟩
 |lN=>exact(hs .shape rfl).elim
theorem Pc {r:R} (h:r.ty=.tok):∃n,r=.tok n:=by cases r<;>simp_all [R.ty]
theorem ca {r:R} {k:IntKind} (h:r.ty=.int k):∃n,r=.int k n:=by cases r<;>simp_all [R.ty]
theorem Q5 {r:R} (h:r.ty=.bool):∃n,r=.bool n:=by cases r<;>simp_all [R.ty]
theorem s8 {r:R} {t:Ty} (h:r.ty=.sl t):∃xs,r=.sl t xs:=by
 cases r with
 |sl t' xs=>cases h;exact⟨xs,rfl⟩
 |_=>exact nomatch h
theorem Gn:(rs:List R)->rs.map R.ty=S.tys .shape->∃x,Df rs=some x
 |[x0,x1,x2],h=>by
  simp only[S.tys,R4,S6,Sl,and_true]at h;obtain⟨h0,h1,h2⟩:=h;obtain⟨_,rfl⟩:=ca h0;obtain⟨_,rfl⟩:=ca h1;obtain⟨_,rfl⟩:=ca h2
  simp[Df,R.asI,R.asB,R.asL]
 |[],h=>by have:=congrArg List.length h;simp[S.tys]at this
 |[_],h=>by have:=congrArg List.length h;simp[S.tys]at this
 |[_,_],h=>by have:=congrArg List.length h;simp[S.tys]at this
 |_::_::_::_::_,h=>by have:=congrArg List.length h;simp[S.tys]at this
theorem Em:(rs:List R)->rs.map R.ty=S.tys .dg->∃x,xc rs=some x
 |[x0,x1,x2,x3],h=>by
  simp only[S.tys,R4,S6,Sl,and_true]at h;obtain⟨h0,h1,h2,h3⟩:=h;obtain⟨_,rfl⟩:=ca h0;obtain⟨_,rfl⟩:=ca h1;obtain⟨_,rfl⟩:=ca h2;obtain⟨_,rfl⟩:=s8 h3
  simp[xc,R.asI,R.asB,R.asL]
 |[],h=>by have:=congrArg List.length h;simp[S.tys]at this
 |[_],h=>by have:=congrArg List.length h;simp[S.tys]at this
 |[_,_],h=>by have:=congrArg List.length h;simp[S.tys]at this
 |[_,_,_],h=>by have:=congrArg List.length h;simp[S.tys]at this
 |_::_::_::_::_::_,h=>by have:=congrArg List.length h;simp[S.tys]at this
theorem Gp:(rs:List R)->rs.map R.ty=S.tys .aH->∃x,Dh rs=some x
 |[x0,x1,x2,x3,x4,x5,x6,x7,x8],h=>by
  simp only[S.tys,R4,S6,Sl,and_true]at h;obtain⟨h0,h1,h2,h3,h4,h5,h6,h7,h8⟩:=h;obtain⟨_,rfl⟩:=ca h0;obtain⟨_,rfl⟩:=ca h1;obtain⟨_,rfl⟩:=ca h2;obtain⟨_,rfl⟩:=ca h3;obtain⟨_,rfl⟩:=ca h4;obtain⟨_,rfl⟩:=ca h5;obtain⟨_,rfl⟩:=ca h6;obtain⟨_,rfl⟩:=s8 h7;obtain⟨_,rfl⟩:=s8 h8
  simp[Dh,R.asI,R.asB,R.asL]
 |[],h=>by have:=congrArg List.length h;simp[S.tys]at this
 |[_],h=>by have:=congrArg List.length h;simp[S.tys]at this
 |[_,_],h=>by have:=congrArg List.length h;simp[S.tys]at this
 |[_,_,_],h=>by have:=congrArg List.length h;simp[S.tys]at this
 |[_,_,_,_],h=>by have:=congrArg List.length h;simp[S.tys]at this
 |[_,_,_,_,_],h=>by have:=congrArg List.length h;simp[S.tys]at this
 |[_,_,_,_,_,_],h=>by have:=congrArg List.length h;simp[S.tys]at this
 |[_,_,_,_,_,_,_],h=>by have:=congrArg List.length h;simp[S.tys]at this
 |[_,_,_,_,_,_,_,_],h=>by have:=congrArg List.length h;simp[S.tys]at this
 |_::_::_::_::_::_::_::_::_::_::_,h=>by have:=congrArg List.length h;simp[S.tys]at this
theorem Gq:(rs:List R)->rs.map R.ty=S.tys .model->∃x,Di rs=some x
 |[x0,x1,x2,x3],h=>by
  simp only[S.tys,R4,S6,Sl,and_true]at h;obtain⟨h0,h1,h2,h3⟩:=h;obtain⟨_,rfl⟩:=ca h0;obtain⟨_,rfl⟩:=ca h1;obtain⟨_,rfl⟩:=ca h2;obtain⟨_,rfl⟩:=s8 h3
  simp[Di,R.asI,R.asB,R.asL]
 |[],h=>by have:=congrArg List.length h;simp[S.tys]at this
 |[_],h=>by have:=congrArg List.length h;simp[S.tys]at this
 |[_,_],h=>by have:=congrArg List.length h;simp[S.tys]at this
 |[_,_,_],h=>by have:=congrArg List.length h;simp[S.tys]at this
 |_::_::_::_::_::_,h=>by have:=congrArg List.length h;simp[S.tys]at this
theorem Jo:(rs:List R)->rs.map R.ty=S.tys .task->∃x,J9 rs=some x
 |[x0,x1,x2,x3,x4],h=>by
  simp only[S.tys,R4,S6,Sl,and_true]at h;obtain⟨h0,h1,h2,h3,h4⟩:=h;obtain⟨_,rfl⟩:=ca h0;obtain⟨_,rfl⟩:=s8 h1;obtain⟨_,rfl⟩:=ca h2;obtain⟨_,rfl⟩:=ca h3;obtain⟨_,rfl⟩:=ca h4
  simp[J9,R.asI,R.asB,R.asL]
 |[],h=>by have:=congrArg List.length h;simp[S.tys]at this
 |[_],h=>by have:=congrArg List.length h;simp[S.tys]at this
 |[_,_],h=>by have:=congrArg List.length h;simp[S.tys]at this
 |[_,_,_],h=>by have:=congrArg List.length h;simp[S.tys]at this
 |[_,_,_,_],h=>by have:=congrArg List.length h;simp[S.tys]at this
 |_::_::_::_::_::_::_,h=>by have:=congrArg List.length h;simp[S.tys]at this
theorem Cs:(rs:List R)->rs.map R.ty=S.tys .request->∃x,sG rs=some x
 |[x0,x1,x2,x3,x4,x5,x6,x7,x8,x9,x10,x11,x12],h=>by
  simp only[S.tys,R4,S6,Sl,and_true]at h;obtain⟨h0,h1,h2,h3,h4,h5,h6,h7,h8,h9,h10,h11,h12⟩:=h;obtain⟨_,rfl⟩:=ca h0;obtain⟨_,rfl⟩:=ca h1;obtain⟨_,rfl⟩:=ca h2;obtain⟨_,rfl⟩:=ca h3;obtain⟨_,rfl⟩:=ca h4;obtain⟨_,rfl⟩:=s8 h5;obtain⟨_,rfl⟩:=ca h6;obtain⟨_,rfl⟩:=ca h7;obtain⟨_,rfl⟩:=ca h8;obtain⟨_,rfl⟩:=ca h9;obtain⟨_,rfl⟩:=s8 h10;obtain⟨_,rfl⟩:=ca h11;obtain⟨_,rfl⟩:=ca h12
  simp[sG,R.asI,R.asB,R.asL]
 |[],h=>by have:=congrArg List.length h;simp[S.tys]at this
 |[_],h=>by have:=congrArg List.length h;simp[S.tys]at this
 |[_,_],h=>by have:=congrArg List.length h;simp[S.tys]at this
 |[_,_,_],h=>by have:=congrArg List.length h;simp[S.tys]at this
 |[_,_,_,_],h=>by have:=congrArg List.length h;simp[S.tys]at this
 |[_,_,_,_,_],h=>by have:=congrArg List.length h;simp[S.tys]at this
 |[_,_,_,_,_,_],h=>by have:=congrArg List.length h;simp[S.tys]at this
 |[_,_,_,_,_,_,_],h=>by have:=congrArg List.length h;simp[S.tys]at this
 |[_,_,_,_,_,_,_,_],h=>by have:=congrArg List.length h;simp[S.tys]at this
 |[_,_,_,_,_,_,_,_,_],h=>by have:=congrArg List.length h;simp[S.tys]at this
 |[_,_,_,_,_,_,_,_,_,_],h=>by have:=congrArg List.length h;simp[S.tys]at this
 |[_,_,_,_,_,_,_,_,_,_,_],h=>by have:=congrArg List.length h;simp[S.tys]at this
 |[_,_,_,_,_,_,_,_,_,_,_,_],h=>by have:=congrArg List.length h;simp[S.tys]at this
 |_::_::_::_::_::_::_::_::_::_::_::_::_::_::_,h=>by have:=congrArg List.length h;simp[S.tys]at this
theorem Jp:(rs:List R)->rs.map R.ty=S.tys .step->∃x,Ka rs=some x
 |[x0,x1,x2,x3,x4,x5,x6,x7],h=>by
  simp only[S.tys,R4,S6,Sl,and_true]at h;obtain⟨h0,h1,h2,h3,h4,h5,h6,h7⟩:=h;obtain⟨_,rfl⟩:=ca h0;obtain⟨_,rfl⟩:=ca h1;obtain⟨_,rfl⟩:=ca h2;obtain⟨_,rfl⟩:=s8 h3;obtain⟨_,rfl⟩:=ca h4;obtain⟨_,rfl⟩:=ca h5;obtain⟨_,rfl⟩:=ca h6;obtain⟨_,rfl⟩:=s8 h7
  simp[Ka,R.asI,R.asB,R.asL]
 |[],h=>by have:=congrArg List.length h;simp[S.tys]at this
 |[_],h=>by have:=congrArg List.length h;simp[S.tys]at this
 |[_,_],h=>by have:=congrArg List.length h;simp[S.tys]at this
 |[_,_,_],h=>by have:=congrArg List.length h;simp[S.tys]at this
 |[_,_,_,_],h=>by have:=congrArg List.length h;simp[S.tys]at this
 |[_,_,_,_,_],h=>by have:=congrArg List.length h;simp[S.tys]at this
 |[_,_,_,_,_,_],h=>by have:=congrArg List.length h;simp[S.tys]at this
 |[_,_,_,_,_,_,_],h=>by have:=congrArg List.length h;simp[S.tys]at this
 |_::_::_::_::_::_::_::_::_::_,h=>by have:=congrArg List.length h;simp[S.tys]at this
theorem Gr:(rs:List R)->rs.map R.ty=S.tys .event->∃x,Dj rs=some x
 |[x0,x1,x2,x3,x4,x5,x6],h=>by
  simp only[S.tys,R4,S6,Sl,and_true]at h;obtain⟨h0,h1,h2,h3,h4,h5,h6⟩:=h;obtain⟨_,rfl⟩:=ca h0;obtain⟨_,rfl⟩:=ca h1;obtain⟨_,rfl⟩:=ca h2;obtain⟨_,rfl⟩:=ca h3;obtain⟨_,rfl⟩:=ca h4;obtain⟨_,rfl⟩:=ca h5;obtain⟨_,rfl⟩:=s8 h6
  simp[Dj,R.asI,R.asB,R.asL]
 |[],h=>by have:=congrArg List.length h;simp[S.tys]at this
 |[_],h=>by have:=congrArg List.length h;simp[S.tys]at this
 |[_,_],h=>by have:=congrArg List.length h;simp[S.tys]at this
 |[_,_,_],h=>by have:=congrArg List.length h;simp[S.tys]at this
 |[_,_,_,_],h=>by have:=congrArg List.length h;simp[S.tys]at this
 |[_,_,_,_,_],h=>by have:=congrArg List.length h;simp[S.tys]at this
 |[_,_,_,_,_,_],h=>by have:=congrArg List.length h;simp[S.tys]at this
 |_::_::_::_::_::_::_::_::_,h=>by have:=congrArg List.length h;simp[S.tys]at this
theorem Gs:(rs:List R)->rs.map R.ty=S.tys .entry->∃x,Dk rs=some x
 |[x0,x1,x2,x3,x4,x5,x6,x7,x8,x9,x10,x11,x12],h=>by
  simp only[S.tys,R4,S6,Sl,and_true]at h;obtain⟨h0,h1,h2,h3,h4,h5,h6,h7,h8,h9,h10,h11,h12⟩:=h;obtain⟨_,rfl⟩:=ca h0;obtain⟨_,rfl⟩:=ca h1;obtain⟨_,rfl⟩:=ca h2;obtain⟨_,rfl⟩:=ca h3;obtain⟨_,rfl⟩:=s8 h4;obtain⟨_,rfl⟩:=ca h5;obtain⟨_,rfl⟩:=ca h6;obtain⟨_,rfl⟩:=ca h7;obtain⟨_,rfl⟩:=s8 h8;obtain⟨_,rfl⟩:=ca h9;obtain⟨_,rfl⟩:=ca h10;obtain⟨_,rfl⟩:=ca h11;obtain⟨_,rfl⟩:=Q5 h12
  simp[Dk,R.asI,R.asB,R.asL]
 |[],h=>by have:=congrArg List.length h;simp[S.tys]at this
 |[_],h=>by have:=congrArg List.length h;simp[S.tys]at this
 |[_,_],h=>by have:=congrArg List.length h;simp[S.tys]at this
 |[_,_,_],h=>by have:=congrArg List.length h;simp[S.tys]at this
 |[_,_,_,_],h=>by have:=congrArg List.length h;simp[S.tys]at this
 |[_,_,_,_,_],h=>by have:=congrArg List.length h;simp[S.tys]at this
 |[_,_,_,_,_,_],h=>by have:=congrArg List.length h;simp[S.tys]at this
 |[_,_,_,_,_,_,_],h=>by have:=congrArg List.length h;simp[S.tys]at this
 |[_,_,_,_,_,_,_,_],h=>by have:=congrArg List.length h;simp[S.tys]at this
 |[_,_,_,_,_,_,_,_,_],h=>by have:=congrArg List.length h;simp[S.tys]at this
 |[_,_,_,_,_,_,_,_,_,_],h=>by have:=congrArg List.length h;simp[S.tys]at this
 |[_,_,_,_,_,_,_,_,_,_,_],h=>by have:=congrArg List.length h;simp[S.tys]at this
 |[_,_,_,_,_,_,_,_,_,_,_,_],h=>by have:=congrArg List.length h;simp[S.tys]at this
 |_::_::_::_::_::_::_::_::_::_::_::_::_::_::_,h=>by have:=congrArg List.length h;simp[S.tys]at this
theorem Jq:(rs:List R)->rs.map R.ty=S.tys .Ms->∃x,Kb rs=some x
 |[x0,x1,x2],h=>by
  simp only[S.tys,R4,S6,Sl,and_true]at h;obtain⟨h0,h1,h2⟩:=h;obtain⟨_,rfl⟩:=ca h0;obtain⟨_,rfl⟩:=ca h1;obtain⟨_,rfl⟩:=ca h2
  simp[Kb,R.asI,R.asB,R.asL]
 |[],h=>by have:=congrArg List.length h;simp[S.tys]at this
 |[_],h=>by have:=congrArg List.length h;simp[S.tys]at this
 |[_,_],h=>by have:=congrArg List.length h;simp[S.tys]at this
 |_::_::_::_::_,h=>by have:=congrArg List.length h;simp[S.tys]at this
theorem bB {α β:Type} {f:α->β} {rs:List α} {t:β} {ts:List β} (h:rs.map f=t::ts):∃r rs',rs=r::rs'/\f r=t/\rs'.map f=ts:=by
 cases rs with
 |nil=>exact nomatch h
 |cons r rs=>rw[R4,Sl]at h;exact⟨r,rs,rfl,h.1,h.2⟩
theorem Gt (rs:List R) (h:rs.map R.ty=S.tys .cS):∃x,Hh rs=some x:=by
 obtain⟨a0,rs,rfl,g0,h⟩:=bB h;obtain⟨a1,rs,rfl,g1,h⟩:=bB h;obtain⟨a2,rs,rfl,g2,h⟩:=bB h;obtain⟨a3,rs,rfl,g3,h⟩:=bB h;obtain⟨a4,rs,rfl,g4,h⟩:=bB h;rw[List.map_eq_nil_iff]at h;subst h;obtain⟨x0,rfl⟩:=ca g0;obtain⟨x1,rfl⟩:=Pc g1;obtain⟨x2,rfl⟩:=ca g2;obtain⟨x3,rfl⟩:=ca g3;obtain⟨x4,rfl⟩:=ca g4;exact⟨_,rfl⟩
theorem zX (rs:List R) (h:rs.map R.ty=S.tys .ig):∃x,sH rs=some x:=by
 obtain⟨a0,rs,rfl,g0,h⟩:=bB h;obtain⟨a1,rs,rfl,g1,h⟩:=bB h;obtain⟨a2,rs,rfl,g2,h⟩:=bB h;obtain⟨a3,rs,rfl,g3,h⟩:=bB h;obtain⟨a4,rs,rfl,g4,h⟩:=bB h;obtain⟨a5,rs,rfl,g5,h⟩:=bB h;obtain⟨a6,rs,rfl,g6,h⟩:=bB h;obtain⟨a7,rs,rfl,g7,h⟩:=bB h;obtain⟨a8,rs,rfl,g8,h⟩:=bB h;obtain⟨a9,rs,rfl,g9,h⟩:=bB h;obtain⟨a10,rs,rfl,g10,h⟩:=bB h;obtain⟨a11,rs,rfl,g11,h⟩:=bB h;obtain⟨a12,rs,rfl,g12,h⟩:=bB h;rw[List.map_eq_nil_iff]at h;subst h;obtain⟨x0,rfl⟩:=ca g0;obtain⟨x1,rfl⟩:=ca g1;obtain⟨x2,rfl⟩:=ca g2;obtain⟨x3,rfl⟩:=ca g3;obtain⟨x4,rfl⟩:=ca g4;obtain⟨x5,rfl⟩:=Pc g5;obtain⟨x6,rfl⟩:=ca g6;obtain⟨x7,rfl⟩:=ca g7;obtain⟨x8,rfl⟩:=ca g8;obtain⟨x9,rfl⟩:=ca g9;obtain⟨x10,rfl⟩:=Pc g10;obtain⟨x11,rfl⟩:=ca g11;obtain⟨x12,rfl⟩:=ca g12;exact⟨_,rfl⟩
theorem Ct (t:Ty) (rs:List R) (h:rs.map R.ty=t.tys):∃x,t.ey rs=some x:=by
 have single:∀{t:Ty},(∀s,t≠.st s)->t.tys=[t]->rs.map R.ty=t.tys->∃r,rs=[r]/\r.ty=t:=λ{t} _ e h=>by
  rw[e]at h
  match rs,h with
  |[r],h=>simp at h;exact⟨r,rfl,h⟩
 have key:∀s:S,rs.map R.ty=s.tys->∃x,s.ey rs=some x:=λs h=>by
  cases s with
  |shape=>exact Gn rs h
  |dg=>exact Em rs h
  |aH=>exact Gp rs h
  |model=>exact Gq rs h
  |task=>exact Jo rs h
  |request=>exact Cs rs h
  |step=>exact Jp rs h
  |event=>exact Gr rs h
  |entry=>exact Gs rs h
  |Ms=>exact Jq rs h
  |cS=>exact Gt rs h
  |ig=>exact zX rs h
 cases t with
 |st s=>exact key s h
 |ho s=>
  obtain⟨x,hx⟩:=key s h
  exact⟨some x,by show(s.ey rs).bind _=_;rw[hx];rfl⟩
 |hl t=>
  have h:rs.map R.ty=[.sl t]:=h;obtain⟨r,rs',rfl,hr,h⟩:=List.map_eq_cons_iff.1 h;rw[List.map_eq_nil_iff]at h;subst h;obtain⟨xs,rfl⟩:=s8 hr
  exact⟨some xs,by show(if h:t=t then some (some (h▸xs))else none)=_;rw[dif_pos rfl];rfl⟩
 |tok=>obtain⟨r,rfl,e⟩:=single (t:=.tok) (λs h=>nomatch h) rfl h;exact jK _ r e (λs h=>nomatch h)
 |int k=>obtain⟨r,rfl,e⟩:=single (t:=.int k) (λs h=>nomatch h) rfl h;exact jK _ r e (λs h=>nomatch h)
 |bool=>obtain⟨r,rfl,e⟩:=single (t:=.bool) (λs h=>nomatch h) rfl h;exact jK _ r e (λs h=>nomatch h)
 |str=>obtain⟨r,rfl,e⟩:=single (t:=.str) (λs h=>nomatch h) rfl h;exact jK _ r e (λs h=>nomatch h)
 |sl t=>obtain⟨r,rfl,e⟩:=single (t:=.sl t) (λs h=>nomatch h) rfl h;exact jK _ r e (λs h=>nomatch h)
def H6 (P:Program) (g:TypeId->Option (List Ty)):Nat->List Field->Option (List Ty)
 |_,[]=>some []
 |off,f::l=>cond (Nat.beq f.offset off) ((g f.type).bind λts=>cond (Nat.beq (P.cellsOf f.type) ts.length) ((H6 P g (off+ts.length) l).bind λus=>some (ts++us)) none) none
def vb (P:Program) (tt:TT):Nat->TypeId->Option (List Ty)
 |0,_=>none
 |n+1,T=>match P.underlying T with
  |some (.int k)=>some [.int k]
  |some .bool=>some [.bool]
  |some .string=>some [.str]
  |some (.slice e)=>(tt e).bind λt=>(vb P tt n e).bind λts=>if ts=t.tys/\P.cellsOf e=ts.length then some [.sl t]else none
  |some (.struct fs)=>(H6 P (vb P tt n) 0 fs.toList).bind λts=>cond (Nat.beq (P.cellsOf T) ts.length) (some ts) none
  |_=>none
def l8 (w:World) (ts:List Ty) (cs:List Value):Prop:=
 ∃rs:List R,rs.map R.ty=ts/\rs.length=cs.length/\∀(j:Nat) (r:R) (v:Value),rs[j]? =some r->cs[j]? =some v->ja w (λ_=>True) r v/\r.Wf
theorem l8.one {w:World} {r:R} {v:Value} (h:ja w (λ_=>True) r v) (hw:r.Wf):l8 w [r.ty] [v]:=
  ⟨[r],rfl,rfl,λj r' v' h1 h2=>by
    cases j with
    |zero=>simp at h1 h2;subst h1 h2;exact⟨h,hw⟩
    |succ j=>simp at h1⟩
theorem l8.append {w:World} {ts us:List Ty} {cs ds:List Value} (h:l8 w ts cs) (g:l8 w us ds):l8 w (ts++us) (cs++ds):=by
 obtain⟨rs,h1,h2,h3⟩:=h;obtain⟨qs,g1,g2,g3⟩:=g;refine⟨rs++qs,by simp[h1,g1],by simp[h2,g2],λj r v hr hv=>?_⟩;by_cases c:j<rs.length
 ·rw[Rt c]at hr;rw[Rt (by omega)]at hv;exact h3 j r v hr hv
 ·rw[Rs (by omega)]at hr;rw[Rs (by omega),<-h2]at hv;exact g3 _ r v hr hv
section
variable {H:Type} {enc:TypeId× Value->H} {P:Program} {tt:TT} {w:World} {base:Nat} {sp:Nat->Bool} {held:Bool}
theorem xT {g:TypeId->Option (List Ty)} {F:TypeId->List Value->Option (DataW H× List MemPlace)} (hg:∀T cs x ts,F T cs=some x->g T=some ts->cs.length=P.cellsOf T->l8 w ts cs) (cs:List Value):
  ∀(fs:List Field) (off:Nat) (ts:List Ty) (xs:List (DataW H× List MemPlace)),H6 P g off fs=some ts->fs.mapM (λf=>F f.type ((cs.drop f.offset).take (P.cellsOf f.type)))=some xs->off+ts.length=cs.length->l8 w ts (cs.drop off)
 |[],off,ts,xs,h,_,hl=>by
  cases h;have:cs.drop off=[]:=List.drop_eq_nil_of_le (by simp at hl;omega)
  rw[this];exact⟨[],rfl,rfl,λj r v hr _=>by simp at hr⟩
 |f::fs,off,ts,xs,h,hm,hl=>by
  simp only[H6]at h;cases ho:Nat.beq f.offset off<;>simp only[ho,cond_true,cond_false,An]at h
  ·exact nomatch h
  have ho:=Rp ho;obtain⟨us,hu,h⟩:=h;cases hc:Nat.beq (P.cellsOf f.type) us.length<;>simp only[hc,cond_true,cond_false,An,It]at h
  ·exact nomatch h
  have hc:=Rp hc;obtain⟨vs,hv,rfl⟩:=h;rw[List.mapM_cons]at hm
  cases hF:F f.type ((cs.drop f.offset).take (P.cellsOf f.type))with
  |none=>rw[hF]at hm;exact nomatch hm
  |some y=>
   cases hR:fs.mapM (λf=>F f.type ((cs.drop f.offset).take (P.cellsOf f.type)))with
   |none=>rw[hF,hR]at hm;exact nomatch hm
   |some ys=>
    rw[RD]at hl;have h1:=hg _ _ _ _ hF hu (by rw[R8,SE];omega);have h2:=xT hg cs fs (off+us.length) vs ys hv hR (by omega);rw[ho,hc]at h1;have:=h1.append h2;rwa [<-List.drop_drop,SJ]at this
theorem trod_int {fuel:Nat} {T:TypeId} {cs:List Value} {x:DataW H× List MemPlace} {k:IntKind} (hu:P.underlying T=some (.int k)) (h:DataW.trod enc P w base sp held fuel T cs=some x):∃n,cs=[.int k n]/\(Lit.int k n).wf=true:=by
 cases fuel with
 |zero=>exact nomatch h
 |succ fuel=>
  unfold DataW.trod at h;simp only[hu]at h
  match cs,h with
  |[.int k' n],h=>
   simp only at h;split at h
   ·rename_i hc;obtain⟨rfl,hw⟩:=hc;exact⟨n,rfl,hw⟩
   ·exact nomatch h
theorem trod_bool {fuel:Nat} {T:TypeId} {cs:List Value} {x:DataW H× List MemPlace} (hu:P.underlying T=some .bool) (h:DataW.trod enc P w base sp held fuel T cs=some x):∃b,cs=[.bool b]:=by
 cases fuel with
 |zero=>exact nomatch h
 |succ fuel=>
  unfold DataW.trod at h;simp only[hu]at h
  match cs,h with
  |[.bool b],h=>exact⟨b,rfl⟩
theorem Nx {fuel:Nat} {T:TypeId} {cs:List Value} {x:DataW H× List MemPlace} (hu:P.underlying T=some .string) (h:DataW.trod enc P w base sp held fuel T cs=some x):∃s,cs=[.string s]/\s.size<=maxLen:=by
 cases fuel with
 |zero=>exact nomatch h
 |succ fuel=>
  unfold DataW.trod at h;simp only[hu]at h
  match cs,h with
  |[.string s],h=>
   simp only at h;split at h
   ·rename_i hc;exact⟨s,rfl,hc⟩
   ·exact nomatch h
theorem Gu {fuel:Nat} {T:TypeId} {cs:List Value} {x:DataW H× List MemPlace} {fs:Array Field} (hu:P.underlying T=some (.struct fs)) (h:DataW.trod enc P w base sp held fuel T cs=some x):
  ∃fuel' xs,cs.length=P.cellsOf T/\fs.toList.mapM (λf=>DataW.trod enc P w base sp held fuel' f.type ((cs.drop f.offset).take (P.cellsOf f.type)))=some xs:=by
 cases fuel with
 |zero=>exact nomatch h
 |succ fuel=>
  unfold DataW.trod at h;simp only[hu]at h;split at h
  ·rename_i hl;obtain⟨xs,hx,_⟩:=Rv.1 h;exact⟨fuel,xs,hl,hx⟩
  ·exact nomatch h
theorem xU {α:Type} {Q:Nat->α->Prop}:∀(n:Nat),(∀i,i<n->∃x,Q i x)->∃l:List α,l.length=n/\∀(i:Nat) (x:α),l[i]? =some x->Q i x
 |0,_=>⟨[],rfl,λi x h=>by simp at h⟩
 |n+1,h=>by
  obtain⟨l,h1,h2⟩:=xU n λi hi=>h i (by omega);obtain⟨x,hx⟩:=h n (by omega);refine⟨l++[x],by simp[h1],λi y hy=>?_⟩;by_cases c:i<l.length
  ·rw[Rt c]at hy;exact h2 i y hy
  ·rw[Rs (by omega)]at hy
   have hi:i-l.length<1:=by have:=(Of.1 hy).1;simpa using this
   have:i=n:=by omega
   subst this
   have:i-l.length=0:=by omega
   rw[this]at hy;simp at hy;subst hy;exact hx
theorem Lw {a:Addr} {v:Value} (h:w.cell? a=some v):a.spot=none:=by
 unfold World.cell? at h
 cases hs:a.spot with
 |none=>rfl
 |some s=>simp[hs]at h;split at h<;>simp_all
theorem A9 {n j:Nat} (h:j<n):(List.range n)[j]? =some j:=by rw[On (by simpa using h)];simp
theorem vc:∀(n fuel:Nat) (T:TypeId) (cs:List Value) (x:DataW H× List MemPlace) (ts:List Ty),DataW.trod enc P w base sp held fuel T cs=some x->vb P tt n T=some ts->l8 w ts cs
 |0,_,_,_,_,_,_,h=>nomatch h
 |n+1,fuel,T,cs,x,ts,h,hf=>by
  unfold vb at hf;split at hf
  ·rename_i k hu;cases hf;obtain⟨m,rfl,hw⟩:=trod_int hu h;exact l8.one (.int k m) (.int k m hw)
  ·rename_i hu;cases hf;obtain⟨b,rfl⟩:=trod_bool hu h;exact l8.one (.bool b) (.bool b)
  ·rename_i hu;cases hf;obtain⟨s,rfl,hsl⟩:=Nx hu h
   have:s=⟨s.data.toList.toArray⟩:=by simp
   rw[this];exact l8.one (.str s.data.toList) (.str _ (by simpa using hsl))
  ·rename_i e hu;simp only[An]at hf;obtain⟨t,ht,us,hus,hf⟩:=hf;split at hf
   ·rename_i hc;obtain⟨rfl,hsz⟩:=hc;cases hf;rw[Ty.uz]at hsz
    rcases DataW.trod_slice hu h with⟨rfl,_⟩|⟨a,len,cap,elems,rest,n',_,rfl,_,hb,hlc,ib,hlen,hel,_⟩
    ·exact l8.one (.sl t [] none 0 0 0 (λ_ _=>undef) (RJ _) (.inl rfl) (λi j r ⟨x,hx,_⟩=>by simp at hx) (λi j r ⟨x,hx,_⟩=>by simp at hx)) (.sl t [] (λi j r ⟨x,hx,_⟩=>by simp at hx) (R9 _))
    ·subst hlen
     have hel':∀i,i<elems.length->∃x:t.El,∃ds,w.cells? base (a.add (i*P.cellsOf e)) (P.cellsOf e)=some ds/\(t.cells x).length=ds.length/\
       ∀(j:Nat) (r:R) (v:Value),(t.cells x)[j]? =some r->ds[j]? =some v->ja w (λ_=>True) r v/\r.Wf:=λi hi=>by
      have:=hel i hi;rw[On hi]at this;obtain⟨ds,h1,h2⟩:=An.1 this;obtain⟨rs,g1,g2,g3⟩:=vc n n' e ds _ _ h2 hus;obtain⟨x,hx⟩:=Ct t rs g1;have hc:=Ty.cu t rs x hx;exact⟨x,ds,h1,by rw[hc];exact g2,by rw[hc];exact g3⟩
     obtain⟨xs,hxl,hxs⟩:=xU elems.length hel'
     have key:∀i j r,az t xs i j r->a.spot=none/\∃v,w.at? (a.block,a.off+(i*t.sz+j))=some v/\ja w (λ_=>True) r v/\r.Wf:=λi j r ⟨x,hx,hr⟩=>by
      obtain⟨ds,h1,h2,h3⟩:=hxs i x hx
      have hj:j<ds.length:=by rw[<-h2];exact(Of.1 hr).1
      unfold World.cells? at h1;rw[if_pos (by unfold Addr.add;split<;>exact hb)]at h1;have hl:=mapM_some_length h1;rw[List.length_range]at hl;have hg:=mapM_some_get h1 j j (A9 (by omega));rw[On hj]at hg
      have hsp:a.spot=none:=by
       have hi:i<xs.length:=(Of.1 hx).1;obtain⟨es,q1,q2,_⟩:=hxs 0 _ (On (by omega));have hpos:=t.gf;rw[Ty.cf]at q2;unfold World.cells? at q1;rw[if_pos (by unfold Addr.add;split<;>exact hb)]at q1;have h0:=mapM_some_get q1 0 0 (A9 (by omega));rw[On (by omega)]at h0;have hs:=Lw h0;simpa[Addr.add]using hs
      refine⟨hsp,ds[j],?_,h3 j r _ hr (On hj)⟩
      have:(a.add (i*P.cellsOf e)).add j=⟨a.block,a.off+(i*t.sz+j),none⟩:=by
       obtain⟨b0,o0,s0⟩:=a;simp only at hsp;subst hsp;rw[hsz];simp only[Addr.add];split<;>split<;>simp<;>omega
      rw[this]at hg;exact hg
     rw[<-hxl]
     have hrep:ja w (λ_=>True) (.sl t xs) (.slice (some a) xs.length cap):=by
      refine .sl t xs (some a) cap a.block a.off (λi j=>(w.at? (a.block,a.off+(i*t.sz+j))).getD undef) (by omega) ?_ (λi j r hc=>?_) (λi j r hc=>?_)
      ·cases xs with
       |nil=>exact .inl rfl
       |cons x l=>
        right;obtain⟨r,hr⟩:=dv (t:=t) (xs:=x::l) (i:=0) (j:=0) (by simp) t.gf;have:=(key 0 0 r hr).1;obtain⟨b0,o0,s0⟩:=a;simp only at this;subst this;rfl
      ·obtain⟨_,v,hv,_⟩:=key i j r hc;exact⟨trivial,by rw[hv];rfl⟩
      ·obtain⟨_,v,hv,hr,_⟩:=key i j r hc;rw[hv];exact hr
     exact l8.one hrep (.sl t xs (λi j r hc=>by obtain⟨_,v,_,_,hw⟩:=key i j r hc;exact hw) (by omega))
   ·exact nomatch hf
  ·rename_i fs hu;simp only[An]at hf;obtain⟨us,hus,hf⟩:=hf;cases hc:Nat.beq (P.cellsOf T) us.length<;>simp only[hc,cond_true,cond_false]at hf
   ·exact nomatch hf
   cases hf;have hc:=Rp hc;obtain⟨fuel',xs,hl,hx⟩:=Gu hu h;have:=xT (F:=DataW.trod enc P w base sp held fuel') (λT cs x ts h1 h2 _=>vc n fuel' T cs x ts h1 h2) cs fs.toList 0 _ xs hus hx (by omega);simpa using this
  ·exact nomatch hf
end
end
section
variable [Tok]
open Go.ChangeShapes Go.WideShapes Go.ChangeAt Go.RowKit
def En (P:Program) (tt:TT) (T:TypeId) (a:Arg):Prop:=
 ∃ts,vb P tt 8 T=some ts/\((∃fs,P.underlying T=some (.struct fs))->∃rs:List R,a=.agg rs/\rs.map R.ty=ts/\∀r∈rs,r.Wf)/\
  ((∀fs,P.underlying T≠some (.struct fs))->∃r:R,a=.one r/\[r.ty]=ts/\r.Wf)
def xV (P:Program) (tt:TT):List TypeId->List Arg->Prop
 |[],[]=>True
 |T::Ts,a::as=>En P tt T a/\xV P tt Ts as
 |_,_=>False
section
variable {H:Type} {enc:TypeId× Value->H} {P:Program} {tt:TT} {w:World} {base:Nat} {sp:Nat->Bool} {held:Bool}
theorem Ny {b0:Nat} {T:TypeId} {v:Value} {d:DataW H} {p:List MemPlace} {ts:List Ty} (hd:DataW.Trod enc P w base sp held T v d p) (hv:Value.okWide P w .any b0 T v) (hf:vb P tt 8 T=some ts):
  ∃a,En P tt T a/\sX w (λ_=>True) a v:=by
 obtain⟨fuel,hd⟩:=hd;obtain⟨rs,h1,h2,h3⟩:=vc 8 fuel T _ _ ts hd hf;by_cases hs:∃fs,P.underlying T=some (.struct fs)
 ·obtain⟨fs,hfs⟩:=hs;simp only[Value.okWide,hfs]at hv;obtain⟨cs,rfl,hsz,_⟩:=hv;refine⟨.agg rs,⟨ts,hf,λ_=>⟨rs,rfl,h1,λr hr=>?_⟩,λh=>(h fs hfs).elim⟩,cs,rfl,by simpa[Value.cells]using h2,λj r u hr hu=>?_⟩
  ·obtain⟨j,hj⟩:=Sm hr
   have hlt:j<cs.size:=by
    have:=(Of.1 hj).1;simp[Value.cells]at h2;omega
   exact(h3 j r cs[j] hj (by simp[Value.cells,hlt])).2
  ·exact(h3 j r u hr (by simpa[Value.cells]using hu)).1
 ·have one1:∀{t},rs.map R.ty=[t]->∃r,rs=[r]:=λh=>List.length_eq_one_iff.1 (by simpa using congrArg List.length h)
  have hone:∃r,rs=[r]:=by
   unfold vb at hf;split at hf
   ·cases hf;exact one1 h1
   ·cases hf;exact one1 h1
   ·cases hf;exact one1 h1
   ·simp only[An]at hf;obtain⟨t,_,us,_,hf⟩:=hf;split at hf
    ·cases hf;exact one1 h1
    ·exact nomatch hf
   ·rename_i fs hu;exact(hs ⟨fs,hu⟩).elim
   ·exact nomatch hf
  obtain⟨r,rfl⟩:=hone
  have hcells:v.cells.toList=[v]:=by
   have hnag:∀cs,v≠.agg cs:=λcs e=>by
    subst e;unfold vb at hf;split at hf
    ·rename_i k hu;obtain⟨n,e⟩:=okWide_int hu hv;exact nomatch e
    ·rename_i hu;obtain⟨n,e⟩:=okWide_bool hu hv;exact nomatch e
    ·rename_i hu;obtain⟨n,e⟩:=okWide_string hu hv;exact nomatch e
    ·rename_i e hu;obtain⟨a,l,c,e⟩:=okWide_slice hu hv;exact nomatch e
    ·rename_i fs hu;exact(hs ⟨fs,hu⟩).elim
    ·exact nomatch hf
   cases v<;>first|rfl|exact(hnag _ rfl).elim
  rw[hcells]at h3;have:=h3 0 r v rfl rfl;exact⟨.one r,⟨ts,hf,λh=>(hs h).elim,λ_=>⟨r,rfl,by simpa using h1,this.2⟩⟩,this.1⟩
theorem Eo {b0:Nat}:∀{Ts:List TypeId} {vs:List Value} {ds:List (DataW H)} {ps:List MemPlace},DataW.TrodAll enc P w base sp held Ts vs ds ps->
  (∀(j:Nat) t v,Ts[j]? =some t->vs[j]? =some v->Value.okWide P w .any b0 t v)->(Ts.all λT=>(vb P tt 8 T).isSome)=true->
  ∃as,xV P tt Ts as/\as.length=vs.length/\ds.length=Ts.length/\∀(j:Nat) (x:Arg) (u:Value),as[j]? =some x->vs[j]? =some u->sX w (λ_=>True) x u
 |[],[],[],_,_,_,_=>⟨[],trivial,rfl,rfl,λj x u h=>by simp at h⟩
 |T::Ts,v::vs,d::ds,ps,⟨p,q,h1,h2,_⟩,hv,hf=>by
  simp only[T1,Rq]at hf;obtain⟨ts,hts⟩:=Option.isSome_iff_exists.1 hf.1;obtain⟨a,g1,g2⟩:=Ny h1 (hv 0 T v rfl rfl) hts;obtain⟨as,g3,g4,g5,g6⟩:=Eo h2 (λj t v ht hw=>hv (j+1) t v (by simpa using ht) (by simpa using hw)) hf.2;refine⟨a::as,⟨g1,g3⟩,by simp[g4],by simp[g5],λj x u hx hu=>?_⟩
  cases j with
  |zero=>simp at hx hu;subst hx hu;exact g2
  |succ j=>exact g6 j x u (by simpa using hx) (by simpa using hu)
 |[],_::_,_,_,h,_,_=>nomatch h
 |[],[],_::_,_,h,_,_=>nomatch h
 |_::_,[],_,_,h,_,_=>nomatch h
 |_::_,_::_,[],_,h,_,_=>nomatch h
variable {w':World}
theorem Gv (hg:dJ w w') (hc:∀(p:Cell) x,w.at? p=some x->w'.at? p=some x/\w'.ez p=w.ez p) (may:MemPlace->Prop):w.keptBut w' may:=by
 obtain⟨h1,h2,h3⟩:=hg;refine⟨h1,h2,λi hi=>?_⟩;have:=h3 i hi;split at this
 ·rename_i c t fr c' t' fr' e1 e2;obtain⟨q1,q2,q3⟩:=this;rw[e1,e2];refine⟨q1,?_,q3,λj _=>?_⟩
  ·rcases q2 with q2|q2
   ·exact q2
   ·have h0:w.at? (i,0)=some c[0]:=by simp[World.at?,World.cell?,e1,q2]
    have:=(hc _ _ h0).2;simp only[World.ez,e1,e2,RL]at this;exact Prod.ext this.1 this.2.1
  ·by_cases hj:j<c.size
   ·have:w.at? (i,j)=some c[j]:=by simp[World.at?,World.cell?,e1,hj]
    have:=(hc _ _ this).1;simp only[World.at?,World.cell?,e2,Sw,SR,if_false]at this;rw[this,RB hj]
   ·rw[Tm (by omega),Tm (by omega)]
 ·rename_i x y h4;rw[this];split
  ·rename_i e1 e2;rw[e1]at e2;cases e2;exact⟨rfl,rfl,rfl,λ_ _=>rfl⟩
  ·rename_i e1 e2;rw[e1]at e2;cases e2;exact .inr ⟨rfl,rfl⟩
  ·rfl
theorem Lx {may:MemPlace->Prop} (h:w.keptBut w' may) {a:Addr} (ha:a.block<w.heap.size):w'.frozen? a=w.frozen? a:=by
 have:=h.2.2 a.block ha;unfold World.frozen?;split at this
 ·rename_i e1 e2;obtain⟨_,q2,_⟩:=this;rw[e1,e2,q2]
 ·rename_i e1 e2;rw[e1,e2]
 ·rw[this]
theorem Pf (hg:dJ w w') (hc:∀(p:Cell) x,w.at? p=some x->w'.at? p=some x/\w'.ez p=w.ez p) {p:MemPlace} (hp:p.block<w.heap.size):w.sameAt w' p:=by
 obtain⟨_,_,h3⟩:=Gv hg hc λ_=>False
 cases p with
 |cell b o=>
  have:=h3 b hp;show w'.cell? ⟨b,o,none⟩=w.cell? ⟨b,o,none⟩;split at this
  ·rename_i c t fr c' t' fr' e1 e2;obtain⟨q1,q2,q3,q4⟩:=this;simp only[World.cell?,e1,e2,Sw,SR,if_false];exact q4 o (λh=>h)
  ·rename_i es ck es' ck' e1 e2;simp[World.cell?,e1,e2]
  ·simp only[World.cell?,this]
 |map b=>
  have:=h3 b hp;show w'.heap[b]? =w.heap[b]?;split at this
  ·rename_i c t fr c' t' fr' e1 e2;obtain⟨rfl,rfl,q3,q4⟩:=this;rw[e1,e2];have:c'=c:=Array.ext_getElem? λj=>q4 j (λh=>h);rw[this]
  ·rename_i es ck es' ck' e1 e2
   rcases this with h|⟨rfl,rfl⟩
   ·exact h.elim
   ·rw[e1,e2]
  ·exact this
theorem s9 (hl:laidOutB P=true):∀{Ts:List TypeId} {vs:List Value} {ds:List (DataW H)} {ps:List MemPlace},(∀t∈Ts,P.readableRec t=true/\t<P.types.size)->
    DataW.TrodAll enc P w 0 (λ_=>true) true Ts vs ds ps->(∀p∈ps,w.sameAt w' p)->(∀p∈ps,sp p.block=true)->DataW.TrodAll enc P w' 0 sp true Ts vs ds ps
  |[],[],[],_,_,h,_,_=>h
  | T :: Ts, v :: vs, d :: ds, ps, hT, ⟨p, q, h1, h2, e⟩, hs, hp =>
    ⟨p,q,WideElems.Trod_stays hl (hT T (by simp)).1 (hT T (by simp)).2 h1 (λx hx=>hs x (by rw[e];exact List.mem_append_left _ hx)) (λx hx=>hp x (by rw[e];exact List.mem_append_left _ hx)),
      s9 hl (λt ht=>hT t (by simp[ht])) h2 (λx hx=>hs x (by rw[e];exact List.mem_append_right _ hx)) (λx hx=>hp x (by rw[e];exact List.mem_append_right _ hx)),e⟩
  |[],_::_,_,_,_,h,_,_=>nomatch h
  |[],[],_::_,_,_,h,_,_=>nomatch h
  |_::_,[],_,_,_,h,_,_=>nomatch h
  |_::_,_::_,[],_,_,h,_,_=>nomatch h
end
theorem Ly {H:Type} {enc:TypeId× Value->H} {P:Program} {f:Func} {s:ChangeSpec} {apart fresh handsOn again:Bool} {W W':World} {args:Array Value} {v:Value} {ds gs:List (DataW H)} {before pa pv:List MemPlace}
  (hW:DataW.Whole enc P f.params.toList s.vars apart W args.toList ds gs before)
  (hres:∀(b:Nat) (sp:Nat->Bool) (hd:Bool),DataW.TrodAll enc P W' b sp hd f.resultTypes.toList (v.resultList f.resultTypes.size) (s.fn H (ds++gs)).results [])
  (hargs:∀sp:Nat->Bool,(∀p∈before,sp p.block=true)->DataW.TrodAll enc P W' 0 sp true f.params.toList args.toList (s.fn H (ds++gs)).args pa)
  (hvars:∀sp:Nat->Bool,(∀p∈before,sp p.block=true)->DataW.TrodVars enc P W' sp s.vars (s.fn H (ds++gs)).vars pv)
  (hps:before=pa++pv) (hk:W.keptBut W' (·∈before)) (hfz:∀b off,MemPlace.cell b off∈before->W'.frozen? ⟨b,off,none⟩=W.frozen? ⟨b,off,none⟩)
  (hok:∀(j:Nat) (t:TypeId) (r:Value),f.resultTypes[j]? =some t->(v.resultList f.resultTypes.size)[j]? =some r->Value.okWide P W' .any 0 t r):s.post enc P f apart fresh handsOn again W args v W':=by
 have hin:∀p∈before,(decide (p.block<W.heap.size))=true:=λp hp=>decide_eq_true (hW.lt p hp);subst hps;refine⟨ds,gs,_,[],pa,pv,hW,hres _ _ _,hargs (λb=>decide (b<W.heap.size)) hin,hvars _ hin,World.keptBut_mono (λp hp=>⟨hp,.inr (Sf.1 hp)⟩) hk,λ_=>?_⟩;obtain⟨_,_,_,_,_,hz,hn⟩:=id hW;refine⟨hok,_,_,([]++pa)++pv,⟨[]++pa,pv,trodAll_append (hargs _ λ_ _=>rfl) (hres _ _ _),hvars _ λ_ _=>rfl,rfl,λb off hp=>?_,λha=>?_⟩,λp hp _=>?_⟩
 ·have hp:MemPlace.cell b off∈pa++pv:=by simpa using hp
  rw[hfz b off hp];exact hz b off hp
 ·simpa using hn ha
 ·simpa using hp
theorem Jr {C:Checked} {os:Os} {g:FuncId} {fn:Func} {s:ChangeSpec} {tt:TT} {H:Type} {enc:TypeId× Value->H} {conds:List PathCond} {apart fresh handsOn again:Bool}
    (own:ownKnob C.prog.godebug=none) (started:os.Started) (noInit:C.prog.inits.idxOf? g=none) (hfn:C.prog.funcs[g]? =some fn)
    (witness:∃(w:World) (tape:Tape) (i:Input),w.os=os/\(w.forCall tape i).Shaped C.prog/\i.vars=[]/\Input.okWide C.prog (w.forCall tape i) .any w.heap.size g i/\
      s.pre6 enc C.prog fn conds apart (w.forCall tape i).memory i.args/\Assume.holds {} C.prog (lone (Frame.enter C.prog g i.args .normal) [] (w.forCall tape i)))
    (hlaid:laidOutB C.prog=true) (hread:∀t∈fn.params.toList,C.prog.readableRec t=true/\t<C.prog.types.size) (hflat:(fn.params.toList.all λT=>(vb C.prog tt 8 T).isSome)=true)
    (hvars:s.vars=[]) (hspec:∀ds:List (DataW H),ds.length=fn.params.toList.length->s.fn H (ds++[])={results:=[.lit (.bool true)],args:=ds,vars:=[]})
    {bt:TypeId} (hres:fn.resultTypes=#[bt]) (hbt:C.prog.underlying bt=some .bool)
    (hcon:∀as:List Arg,xV C.prog tt fn.params.toList as->py C.prog g as (.b true,[])):
    ReturnsInHanded {} C os g .any (s.pre6 enc C.prog fn conds apart) (s.post enc C.prog fn apart fresh handsOn again):=by
  refine returnsInHanded_of_change (C:=C) own started noInit hfn witness ?_;intro W base args ds gs before hval hW _ _;have hW':=hW;obtain⟨p,q,hA,hV,rfl,hfz,_⟩:=hW;rw[hvars]at hV;obtain⟨rfl,rfl⟩:=trodVars_none hV;obtain⟨as,g1,g2,g3,g4⟩:=Eo hA (λj t v ht hv=>hval j t v (by simpa using ht) (by simpa using hv)) hflat;obtain⟨_,hc⟩:=hcon as g1;refine(hc W args (λ_=>True) (by simpa using g2) (λj x u hx hu=>g4 j x u hx (by simpa using hu))).mono λe W' ⟨u,pl,he,_,hu,_,hkeep,_,hgr⟩=>?_
  have hu:u=.bool true:=by
    cases hu with
    |r _ _ _ h=>cases h;rfl
  subst hu he;have hc':∀(p:Cell) x,W.at? p=some x->W'.at? p=some x/\W'.ez p=W.ez p:=hkeep;have hlt:∀x∈p,x.block<W.heap.size:=λx hx=>hW'.lt x (by simpa using hx);refine⟨_,rfl,Ly (pa:=p) (pv:=[]) hW' (λ_ _ _=>?_) (λsp hsp=>?_) (λ_ _=>?_) rfl (Gv hgr hc' _) (λb off hp=>Lx (Gv hgr hc' λ_=>False) (hW'.lt _ hp)) (ok_one hres rfl (okWide_bool_mk hbt true))⟩
  · rw[hspec ds g3,hres];exact trodAll_mk1 (shut_bool hbt true)
  · rw[hspec ds g3];exact s9 hlaid hread hA (λx hx=>Pf hgr hc' (hlt x hx)) (λx hx=>hsp x (by simpa using hx))
  · rw[hspec ds g3,hvars];exact rfl
end
section
instance QK:Tok:=⟨λ_=>.slice none 0 0,λ_=>rfl,rfl⟩
def okI (n:Int):Prop:=-9223372036854775808<=n/\n<=9223372036854775807
theorem aG {n:Int} (h1:-9223372036854775808<=n) (h2:n<=9223372036854775807):IntKind.i64.wrap n=n:=Go.IntWalk.i64_in n ⟨h1,h2⟩
theorem Qn {n:Int} (h1:0<=n) (h2:n<=255):IntKind.u8.wrap n=n:=Go.IntWalk.u8_in n ⟨h1,h2⟩
theorem ay {n m:Nat} (h:n<m) (hm:m<=9223372036854775807):IntKind.i64.wrap ((n:Int)+1)=((n+1:Nat):Int):=by
 rw[aG (by omega) (by omega)];omega
@[simp] theorem aC {α:Type} (xs:List α) (i:Nat):idx xs (i:Int)=xs[i]? :=by
 have:(0:Int)<=(i:Int):=by omega
 simp[idx,this]
theorem wG {α:Type} (xs:List α):idx xs 0=xs[0]? :=rfl
theorem sa {α:Type} (xs:List α) {i:Int} (h:0<=i):idx xs i=xs[i.toNat]? :=by simp[idx,h]
section
variable {R V:Type} {g:V->(V->Option R)->Option R}
theorem aF (k:Nat) (v:V):iter g (k+1) v=g v (iter g k):=rfl
theorem ta {st:Nat->V} {n:Nat} {P:Nat->Option R} (h:∀i,i<n->∀next:V->Option R,next (st (i+1))=P (i+1)->g (st i) next=P i)
  (hn:∀next,g (st n) next=P n):∀(k i:Nat),i<=n->n-i<k->iter g k (st i)=P i
 |0,i,hi,hk=>by omega
 |k+1,i,hi,hk=>by
  rw[aF];by_cases c:i<n
  ·exact h i c _ (ta h hn k (i+1) (by omega) (by omega))
  ·have:i=n:=by omega
   subst this;exact hn _
theorem fb {st:Nat->V} {n:Nat} {r:Option R} (h:∀i,i<n->∀next:V->Option R,g (st i) next=next (st (i+1))) (hn:∀next,g (st n) next=r) {k:Nat} (hk:n<k):
  iter g k (st 0)=r:=ta (P:=λ_=>r) (λi hi next e=>(h i hi next).trans e) hn k 0 (R9 _) (by omega)
theorem H7 {Inv:V->Prop} {m:V->Nat} {P:V->Option R} (h:∀v,Inv v->∀next:V->Option R,(∀u,Inv u->m u<m v->next u=P u)->g v next=P v):
  ∀(k:Nat) (v:V),Inv v->m v<k->iter g k v=P v
 |0,_,_,hk=>by omega
 |k+1,v,hv,hk=>by
  rw[aF];exact h v hv _ λu hu hm=>H7 h k u hu (by omega)
end
theorem ab {α:Type} {p:Prop} [Decidable p] (x y:α):cond (decide p) x y=if p then x else y:=by by_cases h:p<;>simp[h]
theorem jv {α:Type} (a b:Int) (x y:α):cond (a !=b) x y=if a=b then y else x:=by
 by_cases h:a=b
 ·simp[h]
 ·have:(a !=b)=true:=by simpa using h
  rw[this,if_neg h];rfl
theorem bH {α:Type} (a b:Int) (x y:α):cond (a==b) x y=if a=b then x else y:=by
 by_cases h:a=b
 ·simp[h]
 ·have:(a==b)=false:=by simpa using h
  rw[this,if_neg h];rfl
theorem cond_not {α:Type} (b:Bool) (x y:α):cond (!b) x y=cond b y x:=by cases b<;>rfl
theorem Pg (a b:Int):(a==b)=decide (a=b):=by
 by_cases h:a=b
 ·simp[h]
 ·rw[decide_eq_false h];simpa using h
theorem Lz (a b:Int):(a !=b)=decide (a≠b):=by
 by_cases h:a=b
 ·simp[h]
 ·rw[decide_eq_true h];simpa using h
theorem ag {α:Type} {xs:List α} {i:Nat} (h:i<xs.length):xs[i]? =some xs[i]:=On h
theorem gx {α:Type} {xs:List α} {i:Nat} (h:i<xs.length):xs.drop i=xs[i]::xs.drop (i+1):=(List.getElem_cons_drop h).symm
theorem dy {α:Type} {xs:List α} {i:Nat} (h:i<xs.length):xs.take (i+1)=xs.take i++[xs[i]]:=(List.take_append_getElem h).symm
theorem Nz {α:Type} (xs:List α) (z:α) {i:Nat} (h:i<xs.length):(xs.take i++List.replicate (xs.length-i) z).set i xs[i]=xs.take (i+1)++List.replicate (xs.length-(i+1)) z:=by
 rw[List.set_append_right _ _ (by simp;omega)]
 have e:i-(xs.take i).length=0:=by simp;omega
 rw[e,show xs.length-i=(xs.length-(i+1))+1 from by omega,List.replicate_succ,List.set_cons_zero,dy h,RM];rfl
theorem xW {α R:Type} (xs:List α) (z:α) {g:Int× List α->(Int× List α->Option R)->Option R} {fin:List α->Option R}
  (h:∀(i:Nat) (ys:List α) (hi:i<xs.length) (next:Int× List α->Option R),ys.length=xs.length->g ((i:Int),ys) next=next (((i+1:Nat):Int),ys.set i xs[i]))
  (hn:∀ys next,g ((xs.length:Int),ys) next=fin ys) {k:Nat} (hk:xs.length<k):iter g k (0,List.replicate xs.length z)=fin xs:=by
 have:=fb (g:=g) (st:=λi=>((i:Int),xs.take i++List.replicate (xs.length-i) z)) (n:=xs.length) (r:=fin xs) (λi hi next=>by
  rw[h i _ hi next (by simp;omega),Nz xs z hi]) (λnext=>by
  simp only[Sr,Nat.sub_self,List.replicate_zero,RV];exact hn _ _) hk
 simpa using this
theorem xX {α R:Type} [DecidableEq α] (xs ys:List α) (hl:xs.length=ys.length) {g:Int->(Int->Option R)->Option R} {yes no:Option R}
  (h:∀(i:Nat) (hi:i<xs.length) (hi':i<ys.length) (next:Int->Option R),g (i:Int) next=if xs[i]=ys[i]then next ((i+1:Nat):Int)else no)
  (hn:∀next,g (xs.length:Int) next=yes) {k:Nat} (hk:xs.length<k):iter g k 0=if xs=ys then yes else no:=by
 have:=ta (g:=g) (st:=λi=>(i:Int)) (n:=xs.length) (P:=λi=>if xs.drop i=ys.drop i then yes else no) (λi hi next e=>by
  have hi':i<ys.length:=by omega
  rw[h i hi hi' next]
  have he:(xs.drop i=ys.drop i)↔(xs[i]=ys[i]/\xs.drop (i+1)=ys.drop (i+1)):=by rw[gx hi,gx hi',Sl]
  by_cases c:xs[i]=ys[i]
  ·rw[if_pos c,e];simp only[he,c,true_and]
  ·rw[if_neg c,if_neg (λq=>c (he.1 q).1)]) (λnext=>by
  rw[Tk,List.drop_of_length_le (by omega)];simp;exact hn next) k 0 (R9 _) (by omega)
 simpa using this
end
section
theorem aa {α β:Type} (a:α) (f:α->Option β):(some a).bind f=f a:=rfl
theorem oh {α R:Type} (xs:List α) (p:α->Bool) {g:Int->(Int->Option R)->Option R} {yes no:Option R}
  (h:∀(i:Nat) (hi:i<xs.length) (next:Int->Option R),g (i:Int) next=cond (p xs[i]) (next ((i+1:Nat):Int)) no)
  (hn:∀next,g (xs.length:Int) next=yes) {k:Nat} (hk:xs.length<k):iter g k 0=cond (xs.all p) yes no:=by
 have:=ta (g:=g) (st:=λi=>(i:Int)) (n:=xs.length) (P:=λi=>cond ((xs.drop i).all p) yes no) (λi hi next e=>by
  rw[h i hi next,gx hi,T1];cases hp:p xs[i]
  ·rfl
  ·simp only[cond_true,Ry];exact e) (λnext=>by rw[Tk];exact hn next) k 0 (R9 _) (by omega)
 simpa using this
theorem eM {α R:Type} (xs:List α) (p:α->Bool) {g:Int->(Int->Option R)->Option R} {yes:Option R} {no:Int->Option R}
  (h:∀(i:Nat) (hi:i<xs.length) (next:Int->Option R),g (i:Int) next=cond (p xs[i]) (no (i:Int)) (next ((i+1:Nat):Int)))
  (hn:∀next,g (xs.length:Int) next=yes) {k:Nat} (hk:xs.length<k):iter g k 0=(xs.findIdx? p).elim yes λi=>no (i:Int):=by
 have:=ta (g:=g) (st:=λi=>(i:Int)) (n:=xs.length) (P:=λi=>((xs.drop i).findIdx? p).elim yes λj=>no ((i+j:Nat):Int)) (λi hi next e=>by
  rw[h i hi next,gx hi,TI];cases hp:p xs[i]
  ·simp only[cond_false,SR,if_false];rw[e]
   cases(xs.drop (i+1)).findIdx? p with
   |none=>rfl
   |some j=>simp only[SL,Ru];congr 2;omega
  ·simp) (λnext=>by rw[Tk];simpa using hn next) k 0 (R9 _) (by omega)
 simpa using this
theorem tb {α β R:Type} (xs:List α) (f:α->β) {g:Int× List β->(Int× List β->Option R)->Option R} {fin:List β->Option R}
  (h:∀(i:Nat) (ys:List β) (hi:i<xs.length) (next:Int× List β->Option R),ys.length=i->g ((i:Int),ys) next=next (((i+1:Nat):Int),ys++[f xs[i]]))
  (hn:∀ys next,g ((xs.length:Int),ys) next=fin ys) {k:Nat} (hk:xs.length<k):iter g k (0,[])=fin (xs.map f):=by
 have:=fb (g:=g) (st:=λi=>((i:Int),(xs.take i).map f)) (n:=xs.length) (r:=fin (xs.map f)) (λi hi next=>by
  rw[h i _ hi next (by simp;omega),dy hi,SB];rfl) (λnext=>by rw[Sr];exact hn _ _) hk
 simpa using this
theorem pL {α S R:Type} (xs:List α) (f:S->α->S) {g:S× Int->(S× Int->Option R)->Option R} {fin:S->Option R} (s0:S)
  (h:∀(i:Nat) (s:S) (hi:i<xs.length) (next:S× Int->Option R),s=(xs.take i).foldl f s0->g (s,(i:Int)) next=next (f s xs[i],((i+1:Nat):Int)))
  (hn:∀next,g (xs.foldl f s0,(xs.length:Int)) next=fin (xs.foldl f s0)) {k:Nat} (hk:xs.length<k):iter g k (s0,0)=fin (xs.foldl f s0):=by
 have:=fb (g:=g) (st:=λi=>((xs.take i).foldl f s0,(i:Int))) (n:=xs.length) (r:=fin (xs.foldl f s0)) (λi hi next=>by
  rw[h i _ hi next rfl,dy hi,So];rfl) (λnext=>by
  simp only[Sr];exact hn next) hk
 simpa using this
theorem pM {a b A B:Int} (h1:0<=a) (h2:a<=A) (h3:0<=b) (h4:b<=B):0<=a*b/\a*b<=A*B:=
 ⟨Tl h1 h3,Int.mul_le_mul h2 h4 h3 (by omega)⟩
end
section
theorem aq:aN=274877906944:=rfl
def Sz (r:Option Int) (n:Int) (t:Nat):Prop:=r=some (if n<(t:Int)then -1 else n-t)
theorem LA {o:Option Int} {t u:Nat} {n:Int} {G:Int->Option Int} (hn:0<=n) (h:Sz o n t) (hG:(t:Int)<=n->Sz (G (n-t)) (n-t) u):
  Sz (o.bind λr=>cond (decide (r<0)) (some (-1)) (G r)) n (t+u):=by
 unfold Sz at*;subst h;rw[aa,ab];by_cases c:n<(t:Int)
 ·rw[if_pos c,if_pos (by omega),if_pos (by omega)]
 ·rw[if_neg c,if_neg (by omega),hG (by omega)]
  congr 1
  split<;>split<;>omega
theorem Oh {n:Int} (hn:0<=n):Sz (some n) n 0:=by unfold Sz;rw[if_neg (by omega)];simp
def dj {α:Type} (t:α->Nat) (xs:List α):Nat:=xs.length+(xs.map t).sum
theorem LB {α:Type} (t:α->Nat):∀{xs:List α} {x:α},x∈xs->t x<=(xs.map t).sum
 |y::xs,x,h=>by
  simp only[R4,SY]
  rcases RN.1 h with rfl|h
  ·omega
  ·have:=LB t h;omega
theorem da {α:Type} (t:α->Nat) {xs:List α} {x:α} (h:x∈xs):t x+1<=dj t xs:=by
 have:=LB t h;have:=List.length_pos_of_mem h;unfold dj;omega
theorem aS {α:Type} (t:α->Nat) (xs:List α):xs.length<=dj t xs:=by unfold dj;omega
theorem Ep {α:Type} (xs:List α):dj (λ_=>0) xs=xs.length:=by
 unfold dj
 induction xs with
 |nil=>rfl
 |cons x xs ih=>simp only[R4,SY,RA]at*;omega
theorem pN {α:Type} (t:α->Nat) (x:α) (xs:List α):dj t (x::xs)=t x+1+dj t xs:=by simp[dj];omega
theorem sb {α:Type} (t:α->Nat) (xs ys:List α):dj t (xs++ys)=dj t xs+dj t ys:=by simp[dj];omega
theorem Ph {α:Type} {t:α->Nat} {f:α->Int->Option Int} {xs:List α} {g:Int× Int->(Int× Int->Option Int)->Option Int} {k:Nat} {n:Int} (hx:xs.length<=9223372036854775807)
    (hs:∀x∈xs,∀n,0<=n->n<=1048576->Sz (f x n) n (t x))
    (h:∀(i:Nat) (left:Int) (hi:i<xs.length) (next:Int× Int->Option Int),g (left,(i:Int)) next=(f xs[i] left).bind λr=>cond (decide (r<0)) (some (-1)) (next (r,IntKind.i64.wrap ((i:Int)+1))))
    (hn:∀left next,g (left,(xs.length:Int)) next=some left) (hk:xs.length<k) (h1:0<=n) (h2:n<=1048576):
    Sz (cond (decide (IntKind.i64.wrap (n-(xs.length:Int))<(0:Int))) (some (-1)) (iter g k (IntKind.i64.wrap (n-(xs.length:Int)),(0:Int)))) n (dj t xs):=by
  unfold Sz dj;rw[aG (by omega) (by omega),ab];by_cases c:n-xs.length<0
  · rw[if_pos c,if_pos (by omega)]
  rw[if_neg c]
  have := H7 (g := g) (Inv := λ v => ∃ i : Nat, v.2 = (i : Int) /\ i <= xs.length /\ 0 <= v.1 /\ v.1 <= 1048576) (m := λ v => xs.length - v.2.toNat)
    (P := λ v => some (if v.1 < (((xs.drop v.2.toNat).map t).sum : Int) then -1 else v.1 - ((xs.drop v.2.toNat).map t).sum)) (λ v hv next hnext => by
      obtain⟨left,j⟩:=v;obtain⟨i,rfl,hi,a1,a2⟩:=hv;simp only at a1 a2⊢;simp only[Rr]at hnext⊢;by_cases c:i<xs.length
      · rw[h i left c next,hs _ (Rx c) left a1 a2,aa,ab,gx c,R4,SY];by_cases c2:left<(t xs[i]:Int)
        · rw[if_pos c2,if_pos (by omega),if_pos (by omega)]
        · rw[if_neg c2,if_neg (by omega),ay c hx,hnext _ ⟨i+1,rfl,by omega,by simp only;omega,by simp only;omega⟩ (by simp only[Rr];omega)];simp only[Rr]
          congr 1
          split<;>split<;>omega
      · have:i=xs.length:=by omega
        subst this;rw[hn];simp only[Tk,S6,List.sum_nil]
        rw[if_neg (by omega)];simp) k (n-xs.length,0) ⟨0,rfl,by omega,by simp only;omega,by simp only;omega⟩ (by simp;omega)
  rw[this];simp only[Int.toNat_zero,TL]
  congr 1
  split<;>split<;>omega
theorem Pj {α:Type} (xs:List α) (z:α) {f:α->Option α} {g:Int× List α->(Int× List α->Option (List α))->Option (List α)} {k:Nat} (hl:xs.length<=aN) (hf:∀x∈xs,f x=some x)
  (h:∀(i:Nat) (ys:List α) (hi:i<xs.length) (next:Int× List α->Option (List α)),g ((i:Int),ys) next=(f xs[i]).bind λr=>cond (decide (0<=(i:Int)/\(i:Int)<(ys.length:Int))) (next (IntKind.i64.wrap ((i:Int)+1),ys.set (i:Int).toNat r)) none)
  (hn:∀ys next,g ((xs.length:Int),ys) next=some ys) (hk:xs.length<k):
  cond (decide (0<=(xs.length:Int)/\(xs.length:Int)<=(xs.length:Int)/\(xs.length:Int)<=(aN:Int))) (iter g k ((0:Int),List.replicate ((xs.length:Int).toNat) z)) none=some xs:=by
 rw[aq]at hl;rw[ab,if_pos (by rw[aq];omega)]
 exact xW xs z (fin:=some) (λi ys hi next hly=>by
  rw[h i ys hi next,hf _ (Rx hi),aa,ab,if_pos (by omega),ay hi (by omega),Rr]) hn hk
theorem Er {a b:Int} {G:Option Bool} {Q:Prop} [Decidable Q] (h:G=some (decide Q)):cond (a !=b) (some false) G=some (decide (a=b/\Q)):=by
 rw[jv,h];by_cases c:a=b<;>simp[c]
theorem Rn {a b:Bool} {G:Option Bool} {Q:Prop} [Decidable Q] (h:G=some (decide Q)):cond (!(a==b)) (some false) G=some (decide (a=b/\Q)):=by
 rw[h];cases a<;>cases b<;>simp
theorem Mx {o:Option Bool} {P:Prop} [Decidable P] {G:Option Bool} {Q:Prop} [Decidable Q] (h1:o=some (decide P)) (h:G=some (decide Q)):(o.bind λr=>cond (!r) (some false) G)=some (decide (P/\Q)):=by
 rw[h1,h,aa];by_cases c:P<;>simp[c]
theorem Ba:(some true)=some (decide True):=rfl
theorem Gw {α:Type} [DecidableEq α] {xs ys:List α} {f:α->α->Option Bool} {g:Int->(Int->Option Bool)->Option Bool} {k:Nat} (hx:xs.length<=9223372036854775807) (hf:∀x∈xs,∀y,f x y=some (decide (x=y)))
  (h:∀(i:Nat) (hi:i<xs.length) (hi':i<ys.length) (next:Int->Option Bool),g (i:Int) next=(f xs[i] ys[i]).bind λr=>cond (!r) (some false) (next (IntKind.i64.wrap ((i:Int)+1))))
  (hn:∀next,g (xs.length:Int) next=some true) (hk:xs.length<k):cond ((xs.length:Int) !=(ys.length:Int)) (some false) (iter g k (0:Int))=some (decide (xs=ys)):=by
 rw[jv];by_cases c:xs.length=ys.length
 ·rw[if_pos (by omega)]
  rw[xX xs ys c (yes:=some true) (no:=some false) (λi hi hi' next=>by
   rw[h i hi hi' next,hf _ (Rx hi),aa,ay hi hx]
   by_cases e:xs[i]=ys[i]<;>simp[e]) hn hk]
  split<;>simp[*]
 ·rw[if_neg (by omega),decide_eq_false (λe=>c (by rw[e]))]
def sE:Int:=4611686018427387904
theorem ni {α R:Type} {t:α->Nat} {g:Int× Int× List α->(Int× Int× List α->Option R)->Option R} {fin:Int× List α->Option R} {hd:List α->Int× Int->(Int× Int->Option Int)->Option Int} {N:Nat}
    (hg:∀(m:Int) (ys:List α) next,ys.length=N->g (m,(ys.length:Int),ys) next=fin (m,ys)) (hh:∀(ys:List α) (m:Int) next,ys.length=N->hd ys (m,(ys.length:Int)) next=some m):
    ∀(rest pre:List α) (m:Int) (k:Nat),pre.length+rest.length=N->rest.length<k->0<=m->m+16*dj t rest<=sE->
    (∀x∈rest,∀m:Int,0<=m->m+16*(t x+1)<=sE->∃r y,m<=r/\r<=m+16*(t x+1)/\
      (∀(i:Nat) (ys:List α) next,ys.length=N->i<N->ys[i]? =some x->g (m,(i:Int),ys) next=next (r,(i:Int)+1,ys.set i y))/\
      (∀(i:Nat) (ys:List α) next,ys.length=N->i<N->ys[i]? =some y->hd ys (m,(i:Int)) next=next (r,(i:Int)+1)))->
    ∃r out,out.length=rest.length/\iter g k (m,(pre.length:Int),pre++rest)=fin (r,pre++out)/\m<=r/\r<=m+16*dj t rest/\∀k',rest.length<k'->iter (hd (pre++out)) k' (m,(pre.length:Int))=some r
  |[],pre,m,0,hN,hk,hm,hB,hs=>by omega
  |_::_,pre,m,0,hN,hk,hm,hB,hs=>by omega
  | [], pre, m, k + 1, hN, hk, hm, hB, hs => by
    refine⟨m,[],rfl,?_,Int.le_refl _,by omega,λk' hk'=>?_⟩
    · rw[aF,RV];exact hg m pre _ (by simpa using hN)
    · cases k' with
      |zero=>simp at hk'
      | succ k' =>
        rw[aF,RV]
        exact hh pre m _ (by simpa using hN)
  | x :: rest, pre, m, k + 1, hN, hk, hm, hB, hs => by
    rw[pN]at hB;simp only[RA]at hN hk;obtain⟨r1,y,a1,a2,a3,a4⟩:=hs x (by simp) m hm (by omega);obtain⟨r,out,b1,b2,b3,b4,b5⟩:=ni hg hh rest (pre++[y]) r1 k (by simp;omega) (by omega) (by omega) (by omega) λz hz=>hs z (by simp[hz])
    have e1:((pre++[y]).length:Int)=(pre.length:Int)+1:=by simp
    have e2:∀l,(pre++[y])++l=pre++y::l:=λl=>by simp
    rw[e1]at b2 b5;rw[e2]at b2;rw[e2]at b5;rw[e2]at b2;refine⟨r,y::out,by simp[b1],?_,by omega,by rw[pN];omega,λk' hk'=>?_⟩
    · rw[aF,a3 pre.length _ _ (by simp;omega) (by omega) (by simp),List.set_append_right _ _ (by omega),Nat.sub_self,List.set_cons_zero];exact b2
    · cases k' with
      |zero=>simp at hk'
      | succ k' =>
        rw[aF,a4 pre.length _ _ (by simp;omega) (by omega) (by simp)];exact b5 k' (by simp at hk';omega)
end
section
variable [Tok]
def ue:Nat:=9223372036854775807
def okS {α:Type} (p:α->Prop) (xs:List α):Prop:=xs.length<=ue/\∀x∈xs,p x
def okB (n:Int):Prop:=0<=n/\n<=255
def Shape.Ok (s:Shape):Prop:=okI s.h/\okI s.w/\okI s.c
def al.Ok (t:al):Prop:=t.sh.Ok/\okS okI t.data
def aj.Ok (l:aj):Prop:=okI l.kind/\okI l.out/\okI l.size/\okI l.step/\okI l.mult/\okI l.shift/\okI l.zero/\okS okI l.weights/\okS okI l.cG
def Model.Ok (m:Model):Prop:=m.inp.Ok/\okS aj.Ok m.ao
def Job.Ok (j:Job):Prop:=j.model.Ok/\okI j.at_/\j.act.Ok/\okI j.iR
def Task.Ok (t:Task):Prop:=okI t.id/\okS okI t.av/\okI t.at_/\okI t.due/\okI t.born
def ak.Ok (s:ak):Prop:=okI s.now/\okI s.ai/\okI s.age/\okS Task.Ok s.tasks/\okI s.run/\okI s.left/\okI s.turns/\okI s.next
def Request.Ok (r:Request):Prop:=okI r.id/\okI r.model/\r.job.Ok/\okI r.due
def Runtime.Ok (r:Runtime):Prop:=r.sched.Ok/\okS Model.Ok r.ar/\okS (λ_=>True) r.ax/\okS Request.Ok r.ae
def Step.Ok (s:Step):Prop:=okI s.kind/\okI s.a/\okI s.b/\okS okB s.data/\s.input.Ok
def Event.Ok (e:Event):Prop:=okI e.kind/\okI e.a/\okI e.b/\e.out.Ok
def Entry.Ok (e:Entry):Prop:=okI e.id/\e.model.Ok/\e.input.Ok/\okI e.at_/\okI e.due/\okI e.end_
def Ot.Ok (w:Ot):Prop:=okI w.id/\okI w.model/\okI w.due
theorem Oi {n:Int} (h:(R.int .i64 n).Wf):okI n:=by
 cases h with
 |int _ _ h=>simp[Lit.wf,IntKind.min,IntKind.max,IntKind.signed,IntKind.bits]at h;exact h
theorem Q6 {n:Int} (h:(R.int .u8 n).Wf):okB n:=by
 cases h with
 |int _ _ h=>simp[Lit.wf,IntKind.min,IntKind.max,IntKind.signed,IntKind.bits]at h;exact h
theorem Pk {t:Ty} {xs:List t.El} {p:t.El->Prop} (h:(R.sl t xs).Wf) (hp:∀x∈xs,(∀r∈t.cells x,r.Wf)->p x):okS p xs:=by
 cases h with
 |sl _ _ h hl=>
  refine⟨by unfold ue;unfold maxLen at hl;omega,λx hx=>hp x hx λr hr=>?_⟩;obtain⟨i,hi⟩:=Sm hx;obtain⟨j,hj⟩:=Sm hr;exact h i j r ⟨x,hi,hj⟩
theorem Pm {xs:List Int} (h:(R.ints xs).Wf):okS okI xs:=Pk h λx _ hx=>Oi (hx _ (by simp[Ty.cells]))
theorem NA {xs:List Int} (h:(R.bytes xs).Wf):okS okB xs:=Pk h λx _ hx=>Q6 (hx _ (by simp[Ty.cells]))
theorem Pn {x:Step} (h:∀r∈MA x,r.Wf):x.Ok:=by
 simp[MA]at h;obtain⟨h1,h2,h3,h4,h5,h6,h7,h8⟩:=h;exact⟨Oi h1,Oi h2,Oi h3,NA h4,⟨Oi h5,Oi h6,Oi h7⟩,Pm h8⟩
theorem NB {xs:List Step} (h:(R.sl (.st .step) xs).Wf):okS Step.Ok xs:=Pk h λx _ hx=>Pn hx
section
variable {P:Program} {tt:TT} {T:TypeId} {a:Arg}
def tc (P:Program) (T:TypeId):Bool:=
 match P.underlying T with
 |some (.struct _)=>true
 |_=>false
theorem Es {t:Ty} (hf:vb P tt 8 T=some [t]) (hs:tc P T=false) (h:En P tt T a):∃r:R,a=.one r/\r.ty=t/\r.Wf:=by
 obtain⟨ts,h1,_,h3⟩:=h;rw[hf]at h1;cases h1;obtain⟨r,rfl,g1,g2⟩:=h3 (λfs e=>by simp[tc,e]at hs);exact⟨r,rfl,by simpa using g1,g2⟩
theorem LC (hf:vb P tt 8 T=some [.int .i64]) (hs:tc P T=false) (h:En P tt T a):∃n:Int,a=.one (.i n)/\okI n:=by
 obtain⟨r,rfl,h1,h2⟩:=Es hf hs h;obtain⟨n,rfl⟩:=ca h1;exact⟨n,rfl,Oi h2⟩
theorem NC {t:Ty} (hf:vb P tt 8 T=some [.sl t]) (hs:tc P T=false) (h:En P tt T a):∃xs:List t.El,a=.one (.sl t xs)/\(R.sl t xs).Wf:=by
 obtain⟨r,rfl,h1,h2⟩:=Es hf hs h;obtain⟨n,rfl⟩:=s8 h1;exact⟨n,rfl,h2⟩
theorem Cu {as:List Arg} {T U V:TypeId} (h:xV P tt [T,U,V] as):∃a b c,as=[a,b,c]/\En P tt T a/\En P tt U b/\En P tt V c:=by
 match as,h with
 |[a,b,c],h=>exact⟨a,b,c,rfl,h.1,h.2.1,h.2.2.1⟩
end
theorem Js {P:Program} {g:FuncId} {G:PG} (h:HP P g G) {as:List Arg} {o:Out} (hG:G Out as some=some o):py P g as o:=by
 obtain⟨o',h1,h2⟩:=h Out as some o hG;cases h1;exact h2
theorem ND {p:TypeId->Bool} {l:List TypeId} (h:l.all p=true):∀t∈l,p t=true:=λt ht=>S3.1 h t ht
end
section
variable [Tok]
section
variable {P:Program} {tt:TT} {T:TypeId} {a:Arg}
end
end
end Go.Proofs.Ev
