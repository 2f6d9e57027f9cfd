/- The evaluator over the model's code, and that it is sound: part 2. -/
import Derived.Test.YtkjdnpefjebmlaaGreatDoorEvK1
import Derived.Laws.StructEq
import Derived.Laws.Concat
import Derived.Laws.BytesArg
import Derived.ChangeFn
import Derived.Laws.IdiomCopy
import Derived.Laws.Rows
import Derived.Laws.AppendOwn
import Derived.Laws.MakeOwn
set_option linter.unusedVariables false
set_option linter.unusedSimpArgs false
set_option linter.unusedSectionVars false
namespace Go.Proofs.Ev
section
variable [Tok]
section
variable {w:World} {H:aM} {pl:Pl} {P:Program}
theorem pR {k:IntKind} {n:Int}:ar w H pl (.r [] (.int k n)) (.int k n):=.r _ _ _ (.int _ _)
theorem nA {b:Bool}:ar w H pl (.b b) (.bool b):=.r _ _ _ (.bool _)
theorem Jl {l:List UInt8} {d:List Nat}:ar w H pl (.r d (.str l)) (.string ⟨l.toArray⟩):=.r _ _ _ (.str _)
theorem jl {d:List Nat} {k:IntKind} {n:Int} {u:Value} (h:ar w H pl (.r d (.int k n)) u):u=.int k n:=by
 cases h with
 |r _ _ _ h=>cases h;rfl
theorem zM {d:List Nat} {b:Bool} {u:Value} (h:ar w H pl (.r d (.bool b)) u):u=.bool b:=by
 cases h with
 |r _ _ _ h=>cases h;rfl
theorem EL {d:List Nat} {l:List UInt8} {u:Value} (h:ar w H pl (.r d (.str l)) u):u=.string ⟨l.toArray⟩:=by
 cases h with
 |r _ _ _ h=>cases h;rfl
theorem Jm {op:BinOp} {T:TypeId} {x y:Operand} {u v:Value} (h1:u≠.nilIface) (h2:∀a,u≠.agg a):
  (eqGuard op T x y u v).run P w=.ok () w:=by
 unfold eqGuard;cases op<;>simp<;>(cases u<;>simp_all)
theorem guarded {op:BinOp} {T:TypeId} {x y:Operand} {u v z:Value} (h1:u≠.nilIface) (h2:∀a,u≠.agg a)
  (h:(binOp op T u v).run P w=.ok z w):(do eqGuard op T x y u v;binOp op T u v:Sem Value).run P w=.ok z w:=by
 rw[Sem.run_bind,Jm h1 h2,Result.andThen_ok];exact h
theorem QR {op:BinOp} {k:IntKind} {a b:Int} {r:R} (T:TypeId) (hs:NZ op=false) (h:Ur op k a b=some r):
  ∃u,(binOp op T (.int k a) (.int k b)).run P w=.ok u w/\RepR w (okd H pl []) r u:=by
 cases op
 case add=>cases h;exact⟨_,by simp[binOp,Op.intArith],.int _ _⟩
 case sub=>cases h;exact⟨_,by simp[binOp,Op.intArith],.int _ _⟩
 case mul=>cases h;exact⟨_,by simp[binOp,Op.intArith],.int _ _⟩
 case quo=>
  unfold Ur at h;by_cases hb:b=0
  ·simp[hb]at h
  ·simp only[hb,decide_false,cond_false,It]at h;subst h;exact⟨_,by simp[binOp,Op.intDiv,hb],.int _ _⟩
 case rem=>
  unfold Ur at h;by_cases hb:b=0
  ·simp[hb]at h
  ·simp only[hb,decide_false,cond_false,It]at h;subst h;exact⟨_,by simp[binOp,Op.intDiv,hb],.int _ _⟩
 case and=>cases h;exact⟨_,by simp[binOp,Op.intBits],.int _ _⟩
 case or=>cases h;exact⟨_,by simp[binOp,Op.intBits],.int _ _⟩
 case xor=>cases h;exact⟨_,by simp[binOp,Op.intBits],.int _ _⟩
 case eql=>cases h;exact⟨_,by simp[binOp,Op.intCmp],.bool _⟩
 case neq=>cases h;exact⟨_,by simp[binOp,Op.intCmp],.bool _⟩
 case lss=>cases h;exact⟨_,by simp[binOp,Op.intCmp],.bool _⟩
 case leq=>cases h;exact⟨_,by simp[binOp,Op.intCmp],.bool _⟩
 case gtr=>cases h;exact⟨_,by simp[binOp,Op.intCmp],.bool _⟩
 case geq=>cases h;exact⟨_,by simp[binOp,Op.intCmp],.bool _⟩
 all_goals (first|(cases h;done)|(cases hs;done))
theorem Mr {op:BinOp} {k l:IntKind} {a b:Int} {r:R} (T:TypeId) (hs:NZ op=true) (h:Gr op k a b=some r):
  ∃u,(binOp op T (.int k a) (.int l b)).run P w=.ok u w/\RepR w (okd H pl []) r u:=by
 unfold Gr at h;by_cases hb:b<0
 ·simp[hb]at h
 ·simp only[hb,decide_false,cond_false]at h;cases op
  case shl=>cases h;exact⟨_,by simp[binOp,Op.shift,hb],.int _ _⟩
  case shr=>cases h;exact⟨_,by simp[binOp,Op.shift,hb],.int _ _⟩
  all_goals (cases hs;done)
theorem QS {op:BinOp} {a b:List UInt8} {r:R} (T:TypeId) (h:UB op a b=some r):
  ∃u,(binOp op T (.string ⟨a.toArray⟩) (.string ⟨b.toArray⟩)).run P w=.ok u w/\RepR w (okd H pl []) r u:=by
 cases op
 case add=>
  unfold UB at h;by_cases hb:a.length+b.length<=aG
  ·simp only[hb,decide_true,cond_true,It]at h;subst h;refine⟨.string ⟨(a++b).toArray⟩,?_,.str _⟩;have h2:(2:Nat)^38=274877906944:=rfl;rw[binOp_string_add,run_string_add_sum _ _ _ (by show a.toArray.size+b.toArray.size<=_;unfold aG at hb;rw[List.size_toArray,List.size_toArray];omega),ByteArray.mk_append_mk]
  ·simp[hb]at h
 case eql=>cases h;exact⟨_,by simp[binOp,Op.stringOp],.bool _⟩
 case neq=>cases h;exact⟨_,by simp[binOp,Op.stringOp],.bool _⟩
 case lss=>cases h;exact⟨_,by simp[binOp,Op.stringOp],.bool _⟩
 case leq=>cases h;exact⟨_,by simp[binOp,Op.stringOp],.bool _⟩
 case gtr=>cases h;exact⟨_,by simp[binOp,Op.stringOp],.bool _⟩
 case geq=>cases h;exact⟨_,by simp[binOp,Op.stringOp],.bool _⟩
 all_goals (cases h;done)
theorem GF {d:Nat} {xs ys:List SV} {us vs:Array Value} (hx:ar w H pl (.agg xs) (.agg us)) (hy:ar w H pl (.agg ys) (.agg vs)):
  ∀(fs:List Field) (t:Bool),QH P xs ys fs=some t->(Op.eqFields (d+1) us vs fs).run P w=.ok t w
 |[],t,h=>by cases h;rfl
 |f::fs,t,h=>by
  simp only[QH]at h;cases hn:decide (f.name= "_")<;>simp only[hn,cond_true,cond_false]at h
  ·have hn:¬f.name= "_":=by simpa using hn
   split at h
   ·rename_i kk _ k a _ l b hu h1 h2;cases hkl:decide (k=l)<;>simp only[hkl,cond_true,cond_false]at h
    ·exact nomatch h
    ·simp only[An,It]at h;obtain⟨t',ht',rfl⟩:=h;have ih:=GF (d:=d) hx hy fs t' ht'
     cases hx with
     |agg _ _ hl h1' hx=>
     cases hy with
     |agg _ _ hl' h1'' hy=>
     have hkl:k=l:=by simpa using hkl
     subst hkl
     have g1:f.offset<us.size:=by have:=(Of.1 h1).1;omega
     have g2:f.offset<vs.size:=by have:=(Of.1 h2).1;omega
     have e1:=jl (hx _ _ _ h1 (XR g1));have e2:=jl (hy _ _ _ h2 (XR g2))
     have p1:∀cs:Array Value,∀g:f.offset<cs.size,(part f.type cs f.offset).run P w=.ok cs[f.offset] w:=λcs g=>by
      simp[part,mo hu,Au,hu,g]
     simp only[Op.eqFields,hn,ne_eq,not_false_eq_true,if_true,Sem.run_bind,p1 us g1,p1 vs g2,Result.andThen_ok,e1,e2,run_equalIn_int w d f.type k kk a b hu];cases hab:a==b
     ·simp
     ·simp[ih]
   ·exact nomatch h
  ·exact nomatch h
theorem S9 {op:BinOp} {T:TypeId} {x y v:SV} {u1 u2:Value} (ox oy:Operand) (h:bin P T op x y=some v) (h1:ar w H pl x u1) (h2:ar w H pl y u2):
  ∃u,(do eqGuard op T ox oy u1 u2;binOp op T u1 u2:Sem Value).run P w=.ok u w/\ar w H pl v u:=by
 unfold bin at h;split at h
 ·have e1:=jl h1;have e2:=jl h2;subst e1 e2;cases hs:NZ op<;>simp only[hs,cond_true,cond_false]at h
  ·rename_i k a _ l b;cases hk:decide (k=l)<;>simp only[hk,cond_true,cond_false]at h
   ·exact nomatch h
   ·have hk:k=l:=by simpa using hk
    subst hk;simp only[An,It]at h;obtain⟨r,hr,rfl⟩:=h;obtain⟨u,hu,hr⟩:=QR (P:=P) (w:=w) (H:=H) (pl:=pl) T hs hr;exact⟨u,guarded (λe=>nomatch e) (λ_ e=>nomatch e) hu,.r _ _ _ hr⟩
  ·simp only[An,It]at h;obtain⟨r,hr,rfl⟩:=h;obtain⟨u,hu,hr⟩:=Mr (P:=P) (w:=w) (H:=H) (pl:=pl) T hs hr;exact⟨u,guarded (λe=>nomatch e) (λ_ e=>nomatch e) hu,.r _ _ _ hr⟩
 ·have e1:=EL h1;have e2:=EL h2;subst e1 e2;simp only[An,It]at h;obtain⟨r,hr,rfl⟩:=h;obtain⟨u,hu,hr⟩:=QS (P:=P) (w:=w) (H:=H) (pl:=pl) T hr;exact⟨u,guarded (λe=>nomatch e) (λ_ e=>nomatch e) hu,.r _ _ _ hr⟩
 ·have e1:=zM h1;have e2:=zM h2;subst e1 e2;rename_i a _ b
  cases hu:P.underlying T with
  |none=>simp[hu]at h
  |some d=>
   cases d with
   |bool=>
    simp only[hu,An,It]at h;obtain⟨e,he,rfl⟩:=h;have hq:(Op.equal T (.bool a) (.bool b)).run P w=.ok (a==b) w:=run_equalIn_bool' w 9999 T a b hu;have e1:binOp .eql T (.bool a) (.bool b)=(do pure (.bool (<-Op.equal T (.bool a) (.bool b)))):=rfl;have e2:binOp .neq T (.bool a) (.bool b)=(do pure (.bool (!(<-Op.equal T (.bool a) (.bool b))))):=rfl;cases op
    case eql=>cases he;exact⟨.bool (a==b),guarded (λe=>nomatch e) (λ_ e=>nomatch e) (by rw[e1,Sem.run_bind,hq];rfl),nA⟩
    case neq=>cases he;exact⟨.bool (!(a==b)),guarded (λe=>nomatch e) (λ_ e=>nomatch e) (by rw[e2,Sem.run_bind,hq];rfl),nA⟩
    all_goals (cases he;done)
   |_=>simp[hu]at h
 ·rename_i a b
  cases h1 with
  |agg _ us hl h11 h1=>
  cases h2 with
  |agg _ vs hl' h22 h2=>
  simp only[An,It]at h;obtain⟨e,he,t,ht,rfl⟩:=h;unfold UC at ht;cases hst:P.stoodInHeld T<;>simp only[hst,cond_true,cond_false]at ht
  ·cases hg:P.eqGuardType P.depth T<;>simp only[hg,cond_true,cond_false]at ht
   ·split at ht
    ·rename_i fs hf
     have hfo:P.fieldsOf T=fs:=by simp[Program.fieldsOf,hf]
     have hag:=GF (P:=P) (d:=9998) (ar.agg _ us hl h11 h1) (ar.agg _ vs hl' h22 h2) fs.toList t ht
     have heq:(Op.equalIn 10000 T (.agg us) (.agg vs)).run P w=.ok t w:=by
      rw[run_equalIn_struct w 9999 T us vs (by rw[hfo];exact hf) hst,hfo];exact hag
     simp only[Sem.run_bind,run_eqGuard_agg w op T ox oy us vs hg,Result.andThen_ok]
     cases op<;>simp only[isEq,It]at he<;>first
      |contradiction
      |(subst he;exact⟨_,by first|rw[run_eql_struct,heq];rfl|rw[run_neq_struct,heq];rfl,nA⟩)
    ·exact nomatch ht
   ·exact nomatch ht
  ·exact nomatch ht
 ·exact nomatch h
end
end
section
variable [Tok]
section
variable {w:World} {H:aM} {pl:Pl} {P:Program}
theorem AG {v:SV} {n:Int} {u:Value} (h:v.asI=some n) (hu:ar w H pl v u):∃k,u=.int k n:=by
 unfold SV.asI at h;split at h
 ·cases h;exact⟨_,jl hu⟩
 ·cases h
theorem Jn {v:SV} {n:Bool} {u:Value} (h:v.asB=some n) (hu:ar w H pl v u):u=.bool n:=by
 unfold SV.asB at h;split at h
 ·cases h;exact zM hu
 ·cases h
theorem UT {op:UnOp} {x v:SV} {u:Value} (h:un op x=some v) (hx:ar w H pl x u):∃z,(Op.unary op u).run P w=.ok z w/\ar w H pl v z:=by
 unfold un at h;split at h
 ·have:=jl hx;subst this;cases h;exact⟨_,by simp[Op.unary,Op.intArith],pR⟩
 ·have:=zM hx;subst this;cases h;exact⟨_,by simp[Op.unary],nA⟩
 ·cases h
theorem QT {src dst:TypeId} {x v:SV} {u:Value} (h:N0 P src dst x=some v) (hx:ar w H pl x u):∃z,(convert src dst u).run P w=.ok z w/\ar w H pl v z:=by
 unfold N0 at h;split at h
 ·rename_i h1 h2;have:=jl hx;subst this;cases h;exact⟨_,by simp[convert,cZ h1,cZ h2,Conv.intToInt],pR⟩
 ·rename_i h1 h2;have:=EL hx;subst this;cases h;exact⟨_,by simp[convert,cZ h1,cZ h2],Jl⟩
 ·cases h
theorem KZ {s:List (Nat× SV)} {a:Act} (hs:gT w H pl s a):∀{l:List Operand} {vs:List SV},tX s l=some vs->
  vs.length=l.length/\∀(j:Nat) (x:SV) (u:Value),vs[j]? =some x->(l.map a.eval)[j]? =some u->ar w H pl x u
 |[],vs,h=>by cases h;exact⟨rfl,λj x u hx _=>by simp at hx⟩
 |o::l,vs,h=>by
  simp only[tX,An,It]at h;obtain⟨v,hv,vs',hvs,rfl⟩:=h;obtain⟨h1,h2⟩:=KZ hs hvs;refine⟨by simp[h1],λj x u hx hu=>?_⟩
  cases j with
  |zero=>simp at hx hu;subst hx hu;exact aW hs hv
  |succ j=>exact h2 j x u (by simpa using hx) (by simpa using hu)
theorem UU {d:List Nat} {t:Ty} {xs:List t.El} {u:Value} (h:ar w H pl (.r d (.sl t xs)) u):
  ∃a cap,u=.slice a xs.length cap/\RepR w (okd H pl d) (.sl t xs) u:=by
 cases h with
 |r _ _ _ h=>cases h with
  |sl _ _ a cap b o vs hcap ha hc hr=>exact⟨a,cap,rfl,.sl t xs a cap b o vs hcap ha hc hr⟩
theorem ri (hr:cY H pl w) {i:Nat} {sh:Option (List Nat)} {t:Ty} {xs:List t.El} (h:look H i=some (.arr sh t xs)):
  ∃a cap b o,pl.hdr i=.slice a xs.length cap/\xs.length<=cap/\(cap=0\/a=some ⟨b,o,none⟩):=by
 have hb:=hr.blk i _ h
 cases sh with
 |none=>obtain⟨R⟩:=hb;exact⟨R.a,R.cap,R.b,R.o,R.Az,R.hcap,R.ha⟩
 |some d=>obtain⟨R⟩:=hb;exact⟨R.a,R.cap,R.b,R.o,R.Az,R.hcap,R.ha⟩
theorem Od (hr:cY H pl w) {v:SV} {n:Nat} {u:Value} (h:lenOf H v=some n) (hu:ar w H pl v u):
  (∃d l,v=.r d (.str l)/\u=.string ⟨List.toArray l⟩/\n=l.length)\/(∀d l,v≠.r d (.str l))/\∃a cap,u=.slice a n cap:=by
 cases hu with
 |r d x _ hx=>
  cases hx with
  |str l=>cases h;exact .inl ⟨d,l,rfl,rfl,rfl⟩
  |sl t xs a cap=>cases h;exact .inr ⟨(λ_ _ e=>nomatch e),_,_,rfl⟩
  |int=>exact nomatch h
  |bool=>exact nomatch h
  |tok=>exact nomatch h
  |nr=>exact nomatch h
 |cF=>cases h;exact .inr ⟨(λ_ _ e=>nomatch e),_,_,rfl⟩
 |own i sh t xs hi=>
  simp only[lenOf,hi,It]at h;subst h;obtain⟨a,cap,b,o,h1,_⟩:=ri hr hi
  exact .inr ⟨(λ_ _ e=>nomatch e),a,cap,h1⟩
 |sub=>cases h;exact .inr ⟨(λ_ _ e=>nomatch e),_,_,rfl⟩
 |bsl=>cases h;exact .inr ⟨(λ_ _ e=>nomatch e),_,_,rfl⟩
 |_=>exact nomatch h
theorem Oe {T:TypeId} {cs:List SV} {us:Array Value} {f:Nat} {fd:Field} {v:SV} (hf:wM P T f=some fd) (h:ji P fd.type (cs.drop fd.offset)=some v)
  (hx:ar w H pl (.agg cs) (.agg us)):∃z,(Instr.field T (.agg us) f).run P w=.ok z w/\ar w H pl v z:=by
 unfold wM at hf;split at hf
 ·rename_i fs hu;simp only[An]at hf;obtain⟨fd',hfd,i,hi,hc⟩:=hf;cases hz:Nat.beq i.size 0<;>simp only[hz,cond_true,cond_false,It]at hc
  ·subst hc;simp only[ji,An]at h;obtain⟨d,hd,i',hi',l,hl,h⟩:=h;rw[hi]at hi';cases hi';obtain⟨h1,h2⟩:=Dt hl
   cases hx with
   |agg _ _ hlen Du hx=>
   have hex:(Instr.field T (.agg us) f).run P w=(part fd'.type us fd'.offset).run P w:=by
    simp[Instr.field,cZ hu,hfd,asAgg]
   rw[hex];cases ha:Au P fd'.type
   ·simp only[ha,cond_false]at h
    match l,h1,h,h2 with
    |[x],h1,h,h2=>
     simp only[It]at h;subst h;have h1:i.size=1:=h1.symm;have h3:=h2 0 (by omega);simp only[XU,Yd,Zs]at h3;have hlt:=(Of.1 h3.symm).1;refine⟨us[fd'.offset]'(by omega),?_,hx _ _ _ h3.symm (XR (by omega))⟩;simp[part,mo hd,ha,XR (show fd'.offset<us.size by omega)]
   ·simp only[ha,cond_true,It]at h;subst h;refine⟨.agg (us.extract fd'.offset (fd'.offset+i.size)),by simp[part,mo hd,ha,ey hi],?_⟩
    have hle:∀j,j<i.size->fd'.offset+j<us.size:=λj hj=>by
     have:=h2 j hj;rw[So (by omega),XU]at this;have:=(Of.1 this.symm).1;omega
    have hsz:(us.extract fd'.offset (fd'.offset+i.size)).size=i.size:=by
     by_cases h0:i.size=0
     ·simp[h0];omega
     ·have:=hle (i.size-1) (by omega);simp;omega
    refine .agg _ _ (by rw[hsz,h1]) (λj v hv=>?_) λj x v hx' hv=>?_
    ·have hj:j<i.size:=by have:=(XW.1 hv).1;rw[hsz]at this;exact this
     rw[Array.getElem?_extract,if_pos (by have:=hle (i.size-1) (by omega);omega)]at hv;exact Du _ _ hv
    ·have hj:j<i.size:=by have:=(XW.1 hv).1;rw[hsz]at this;exact this
     rw[Array.getElem?_extract,if_pos (by have:=hle (i.size-1) (by omega);omega)]at hv;rw[h2 j hj,XU]at hx';exact hx _ _ _ hx' hv
  ·exact nomatch hc
 ·exact nomatch hf
theorem pS {T:TypeId} {b o:Nat} {f:Nat} {fd:Field} (hf:wM P T f=some fd):
  (Instr.fieldAt T (.pointer (some ⟨b,o,none⟩)) f).run P w=.ok (.pointer (some ⟨b,o+fd.offset,none⟩)) w:=by
 unfold wM at hf;split at hf
 ·rename_i fs hu;simp only[An]at hf;obtain⟨fd',hfd,i,hi,hc⟩:=hf;cases hz:Nat.beq i.size 0<;>simp only[hz,cond_true,cond_false,It]at hc
  ·subst hc
   have hz:¬i.size=0:=λe=>by rw[e]at hz;simp at hz
   have W6:Addr.add ⟨b,o,none⟩ fd'.offset=⟨b,o+fd'.offset,none⟩:=by
    unfold Addr.add;split
    ·rename_i h0;rw[h0];rfl
    ·rfl
   simp[Instr.fieldAt,cZ hu,hfd,Instr.sureAddr,fieldPlace,ey hi,hz,W6]
  ·exact nomatch hc
 ·exact nomatch hf
end
end
section
variable [Tok]
section
variable {w:World} {H:aM} {pl:Pl} {P:Program}
def uW (w:World) (H:aM) (pl:Pl):Option SV->Option Value->Prop
 |none,none=>True
 |some v,some u=>ar w H pl v u
 |_,_=>False
theorem dG {k:IntKind} {x:Int} {y:Nat} {c:BoundsCode} (h:0<=x/\x<=(y:Int)):(Instr.sliceBound (.int k x) y c).run P w=.ok x.toNat w:=by
 simp[Instr.sliceBound,asIntOf,h]
theorem mq {n cap:Nat} {lo hi:Option SV} {l h:Nat} {ulo uhi:Option Value} (hb:bounds n lo hi=some (l,h)) (hcap:n<=cap)
  (h1:uW w H pl lo ulo) (h2:uW w H pl hi uhi) (isS:Bool):(Instr.sliceBounds isS n cap ulo uhi none).run P w=.ok (l,h,cap) w/\l<=h/\h<=n:=by
 simp only[bounds,An,It,XO]at hb;obtain⟨h',hh,l',hl,rfl,rfl⟩:=hb
 have key:∀(v:SV) (u:Value) (y m:Nat),ar w H pl v u->(v.asI.bind λx=>cond (decide (0<=x/\x<=(y:Int))) (some x.toNat) none)=some m->
   ∃k x,u=.int k x/\(0<=x/\x<=(y:Int))/\m=x.toNat:=λv u y m hv hh=>by
  simp only[An]at hh;obtain⟨x,hx,hc⟩:=hh;obtain⟨k,rfl⟩:=AG hx hv;by_cases hd:0<=x/\x<=(y:Int)
  ·simp only[hd,and_self,decide_true,cond_true,It]at hc;exact⟨k,x,rfl,hd,hc.symm⟩
  ·simp[hd]at hc
 match hi,uhi,h2,hh with
 |none,none,_,hh=>
  cases hh
  match lo,ulo,h1,hl with
  |none,none,_,hl=>cases hl;exact⟨by simp[Instr.sliceBounds],by omega,by omega⟩
  |some v,some u,h1,hl=>
   obtain⟨k,x,rfl,hx,rfl⟩:=key v u _ _ h1 hl
   exact⟨by simp[Instr.sliceBounds,dG hx],by omega,by omega⟩
 |some v',some u',h2,hh=>
  obtain⟨k',x',rfl,hx',rfl⟩:=key v' u' _ _ h2 hh
  have hx2:0<=x'/\x'<=(cap:Int):=by omega
  match lo,ulo,h1,hl with
  |none,none,_,hl=>cases hl;exact⟨by simp[Instr.sliceBounds,dG hx2],by omega,by omega⟩
  |some v,some u,h1,hl=>
   obtain⟨k,x,rfl,hx,rfl⟩:=key v u _ _ h1 hl;exact⟨by simp[Instr.sliceBounds,dG hx2,dG hx],by omega,by omega⟩
theorem Jo {n m cap:Nat} {lo hi:Option SV} {l h:Nat} {ulo uhi:Option Value} (hb:bounds (V2 n m hi) lo hi=some (l,h)) (hn:n<=cap) (hm:m<=cap)
  (h1:uW w H pl lo ulo) (h2:uW w H pl hi uhi):(Instr.sliceBounds true n cap ulo uhi none).run P w=.ok (l,h,cap) w/\l<=h/\h<=max n m:=by
 cases hi with
 |none=>
  obtain⟨g1,g2,g3⟩:=mq (P:=P) hb hn h1 h2 true
  exact⟨g1,g2,YW g3 (Nat.le_max_left _ _)⟩
 |some v=>
  obtain⟨g1,g2,g3⟩:=mq (P:=P) (n:=m) hb hm h1 h2 true
  cases uhi with
  |none=>exact h2.elim
  |some u=>exact⟨g1,g2,YW g3 (Nat.le_max_right _ _)⟩
theorem rj {T:TypeId} {t:Ty} (h:slT P T t=true):∃e i,P.underlying T=some (.slice e)/\P.info? e=some i/\i.size=t.sz:=by
 unfold slT at h;split at h
 ·rename_i e hu;split at h
  ·rename_i n hn;simp only[jh,An,It]at hn;obtain⟨i,hi,rfl⟩:=hn;exact⟨e,i,hu,hi,On h⟩
  ·exact nomatch h
 ·exact nomatch h
theorem EM {T:TypeId} (h:KO P T=true):∃e i,P.underlying T=some (.slice e)/\P.info? e=some i:=by
 unfold KO at h;split at h
 ·rename_i e hu
  cases hi:P.info? e with
  |none=>simp[jh,hi]at h
  |some i=>exact⟨e,i,hu,hi⟩
 ·exact nomatch h
theorem GG {T:TypeId} (h:isStr P T=true):P.underlying T=some .string:=by
 unfold isStr at h;split at h
 ·assumption
 ·exact nomatch h
theorem uX {T e:TypeId} {i:TypeInfo} {a:Option Addr} {n cap l h:Nat} {ulo uhi:Option Value} (hu:P.underlying T=some (.slice e)) (hi:P.info? e=some i)
  (hb:(Instr.sliceBounds true n cap ulo uhi none).run P w=.ok (l,h,cap) w):
  (Instr.sliceAt T (.slice a n cap) ulo uhi none).run P w=.ok (.slice (if cap=l then a else a.map (·.add (l*i.size))) (h-l) (cap-l)) w:=by
 simp[Instr.sliceAt,cZ hu,Instr.slice,hb,ey hi]
theorem Ms {n cap:Nat} {z:Int} {lo:Option SV} {hi m:SV} {l h:Nat} {ulo:Option Value} {uhi um:Value} (hz:m.asI=some z) (hz1:0<=z/\z<=(cap:Int)) (hb:bounds z.toNat lo (some hi)=some (l,h))
  (h1:uW w H pl lo ulo) (h2:ar w H pl hi uhi) (h3:ar w H pl m um):(Instr.sliceBounds true n cap ulo (some uhi) (some um)).run P w=.ok (l,h,z.toNat) w:=by
 obtain⟨km,rfl⟩:=AG hz h3;simp only[bounds,An,It,XO]at hb;obtain⟨h',hh,l',hl,rfl,rfl⟩:=hb
 have key:∀(v:SV) (u:Value) (y m:Nat),ar w H pl v u->(v.asI.bind λx=>cond (decide (0<=x/\x<=(y:Int))) (some x.toNat) none)=some m->
   ∃k x,u=.int k x/\(0<=x/\x<=(y:Int))/\m=x.toNat:=λv u y m hv hh=>by
  simp only[An]at hh;obtain⟨x,hx,hc⟩:=hh;obtain⟨k,rfl⟩:=AG hx hv;by_cases hd:0<=x/\x<=(y:Int)
  ·simp only[hd,and_self,decide_true,cond_true,It]at hc;exact⟨k,x,rfl,hd,hc.symm⟩
  ·simp[hd]at hc
 obtain⟨k',x',rfl,hx',rfl⟩:=key hi uhi z.toNat h' h2 (An.2 hh)
 match lo,ulo,h1,hl with
 |none,none,_,hl=>cases hl;simp[Instr.sliceBounds,dG hz1,dG hx']
 |some v,some u,h1,hl=>
  obtain⟨k,x,rfl,hx,rfl⟩:=key v u _ _ h1 hl;simp[Instr.sliceBounds,dG hz1,dG hx',dG hx]
theorem Mt {T e:TypeId} {i:TypeInfo} {a:Option Addr} {n cap l h m:Nat} {ulo uhi um:Option Value} (hu:P.underlying T=some (.slice e)) (hi:P.info? e=some i)
  (hb:(Instr.sliceBounds true n cap ulo uhi um).run P w=.ok (l,h,m) w):
  (Instr.sliceAt T (.slice a n cap) ulo uhi um).run P w=.ok (.slice (if m=l then a else a.map (·.add (l*i.size))) (h-l) (m-l)) w:=by
 simp[Instr.sliceAt,cZ hu,Instr.slice,hb,ey hi]
theorem uY (b o n:Nat):Addr.add ⟨b,o,none⟩ n=⟨b,o+n,none⟩:=by
 unfold Addr.add;split
 ·rename_i h0;rw[h0];rfl
 ·rfl
theorem AH {t:Ty} {xs:List t.El} {l h i j:Nat} {r:R} (hh:aB t ((xs.take h).drop l) i j r):aB t xs (l+i) j r:=by
 obtain⟨x,hx,hr⟩:=hh;refine⟨x,?_,hr⟩;rw[XU,Yh]at hx;split at hx
 ·exact hx
 ·exact nomatch hx
theorem RepR.part {ok:Cell->Prop} {t:Ty} {xs:List t.El} {a:Option Addr} {cap l h s:Nat} (hx:RepR w ok (.sl t xs) (.slice a xs.length cap)) (hs:s=t.sz) (h1:l<=h) (h2:h<=xs.length):
  RepR w ok (.sl t ((xs.take h).drop l)) (.slice (if cap=l then a else a.map (·.add (l*s))) (h-l) (cap-l)):=by
 subst hs
 have hn:((xs.take h).drop l).length=h-l:=by simp;omega
 rw[<-hn]
 cases hx with
 |sl _ _ _ _ b o vs hcap ha hc hr=>
  refine .sl t _ _ _ b (o+l*t.sz) (λi j=>vs (l+i) j) (by omega) ?_ (λi j r hcell=>?_) λi j r hcell=>hr _ _ _ (AH hcell)
  ·by_cases hl:l=h
   ·exact .inl (Yo.1 (by omega))
   ·rcases ha with rfl|rfl
    ·simp at h2;omega
    ·refine .inr ?_;rw[if_neg (by omega)];simp[uY]
  ·have:=hc _ _ _ (AH hcell)
   have e:o+l*t.sz+(i*t.sz+j)=o+((l+i)*t.sz+j):=by rw[X7];omega
   rw[e];exact this
theorem Jp (hr:cY H pl w) {T:TypeId} {x v:SV} {lo hi:Option SV} {u:Value} {ulo uhi:Option Value} (h:jU P T H x lo hi=some v)
  (hx:ar w H pl x u) (h1:uW w H pl lo ulo) (h2:uW w H pl hi uhi):
  ∃z,(Instr.sliceAt T u ulo uhi none).run P w=.ok z w/\ar w H pl v z:=by
 cases hx with
 |r d x _ hx=>
  cases x with
  |str l=>
   cases hx;simp only[jU]at h;cases hT:isStr P T<;>simp only[hT,cond_true,cond_false,An,It]at h
   ·exact nomatch h
   ·obtain⟨⟨lo',hi'⟩,hb,rfl⟩:=h;obtain⟨hb,hle,hle2⟩:=mq (P:=P) hb (X1 _) h1 h2 false;refine⟨_,?_,Jl⟩
    have hsz:(⟨l.toArray⟩:ByteArray).size=l.length:=by show l.toArray.size=_;simp
    have hex:(⟨l.toArray⟩:ByteArray).extract lo' hi'=⟨((l.take hi').drop lo').toArray⟩:=by
     apply ByteArray.ext;rw[ByteArray.data_extract];simp[List.drop_take]
    simp[Instr.sliceAt,cZ (GG hT),Instr.slice,hsz,hb,hex]
  |sl t xs=>
   simp only[jU]at h;cases hT:slT P T t<;>simp only[hT,cond_true,cond_false,An,It]at h
   ·exact nomatch h
   ·obtain⟨⟨lo',hi'⟩,hb,rfl⟩:=h;obtain⟨e,i,hu,hi,hsz⟩:=rj hT;have hx0:=hx
    cases hx with
    |sl _ _ a cap b o vs hcap ha hc hr'=>
    obtain⟨hb,hle,hle2⟩:=mq (P:=P) hb hcap h1 h2 true
    exact⟨_,uX hu hi hb,.r _ _ _ (hx0.part hsz hle hle2)⟩
  |_=>exact nomatch h
 |cF=>
  simp only[jU]at h;cases hT:KO P T<;>simp only[hT,cond_true,cond_false,An,It]at h
  ·exact nomatch h
  ·obtain⟨⟨lo',hi'⟩,hb,rfl⟩:=h;obtain⟨e,i,hu,hi⟩:=EM hT;obtain⟨hb,hle,hle2⟩:=mq (P:=P) hb (X1 _) h1 h2 true;refine⟨_,uX hu hi hb,?_⟩
   have:lo'=0:=by omega
   subst this
   have:hi'=0:=by omega
   subst this
   exact .cF
 |own i sh t xs hl=>
  simp only[jU,hl]at h;cases hT:slT P T t<;>simp only[hT,cond_true,cond_false,An,It]at h
  ·exact nomatch h
  ·obtain⟨⟨lo',hi'⟩,hb,rfl⟩:=h;obtain⟨e,ti,hu,hi,hsz⟩:=rj hT;obtain⟨a,cap,b,o,hh,hcap,ha⟩:=ri hr hl;obtain⟨hb,hle,hle2⟩:=mq (P:=P) hb hcap h1 h2 true;rw[hh];refine⟨_,uX hu hi hb,?_⟩;refine .sub i lo' (hi'-lo') sh t xs a _ cap (cap-lo') hl hh (by omega) (by omega) (by omega) ?_;rw[hsz];by_cases hc:cap=lo'
   ·exact .inl (by omega)
   ·rw[if_neg hc];exact .inr rfl
 |sub i o' n sh t xs a a' cap jk hl hh hn hc hc' ha=>
  simp only[jU,hl]at h;cases hT:slT P T t<;>simp only[hT,cond_true,cond_false,An,It]at h
  ·exact nomatch h
  ·obtain⟨⟨lo',hi'⟩,hb,rfl⟩:=h;obtain⟨e,ti,hu,hi,hsz⟩:=rj hT
   have hcap0:xs.length<=cap:=by obtain⟨a0,cap0,b0,o0,hh0,hcap0,_⟩:=ri hr hl;rw[hh]at hh0;cases hh0;exact hcap0
   obtain⟨hb,hle,hle2⟩:=Jo (P:=P) hb hc (by omega) h1 h2;have hle2:hi'<=xs.length-o':=YW hle2 (Nat.max_le.2 ⟨by omega,X1 _⟩);refine⟨_,uX hu hi hb,?_⟩;refine .sub i (o'+lo') (hi'-lo') sh t xs a _ cap (jk-lo') hl hh (by omega) (by omega) (by omega) ?_;rw[hsz];by_cases hc2:jk=lo'
   ·exact .inl (by omega)
   ·rw[if_neg hc2];refine .inr ?_;have ha:=ha.resolve_left (by omega);subst ha
    cases a with
    |none=>rfl
    |some ad=>
     simp only[Zf,It];unfold Addr.add;by_cases z1:o'*t.sz=0<;>by_cases z2:lo'*t.sz=0
     ·simp[z1,z2,X7]
     ·simp[z1,z2,X7]
     ·simp[z1,z2,X7]
     ·simp[z1,z2,X7];omega
 |_=>exact nomatch h
theorem K0 {α:Type} {xs:List α} {k:Int} {e:α} (h:idx xs k=some e):0<=k/\k.toNat<xs.length/\xs[k.toNat]? =some e:=by
 unfold idx at h;by_cases h0:0<=k
 ·simp only[h0,decide_true,cond_true]at h;exact⟨h0,(Of.1 h).1,h⟩
 ·simp[h0]at h
theorem pT {T e:TypeId} {i:TypeInfo} {b o n cap:Nat} {k:Int} {kk:IntKind} (hu:P.underlying T=some (.slice e)) (hi:P.info? e=some i) (hk:0<=k/\k<(n:Int)):
  (Instr.indexAt T (.slice (some ⟨b,o,none⟩) n cap) (.int kk k)).run P w=.ok (.pointer (some ⟨b,o+k.toNat*i.size,none⟩)) w:=by
 simp[Instr.indexAt,asIntOf,cZ hu,hk,ey hi,uY]
theorem EN (hr:cY H pl w) {T:TypeId} {x v:SV} {k:Int} {kk:IntKind} {u:Value} (h:bZ P T H x k=some v) (hx:ar w H pl x u):
  ∃z,(Instr.indexAt T u (.int kk k)).run P w=.ok z w/\ar w H pl v z:=by
 cases hx with
 |r d x _ hx=>
  cases x with
  |sl t xs=>
   simp only[bZ]at h;cases hT:slT P T t<;>simp only[hT,cond_true,cond_false,An,It]at h
   ·exact nomatch h
   ·obtain⟨el,hel,rfl⟩:=h;obtain⟨e,i,hu,hi,hsz⟩:=rj hT;obtain⟨h0,hlt,AJ⟩:=K0 hel
    cases hx with
    |sl _ _ a cap b o vs hcap ha hc hr'=>
    have ha:=ha.resolve_left (λe=>by subst e;simp at hlt);subst ha;refine⟨_,pT hu hi (by omega),?_⟩;rw[hsz];refine .lB d _ b _ (λj=>vs k.toNat j) (λj r hj=>?_) λj r hj=>hr' _ _ _ ⟨el,AJ,hj⟩;have:=hc k.toNat j r ⟨el,AJ,hj⟩
    rw[Yz];exact this
  |_=>exact nomatch h
 |own i sh t xs hl=>
  simp only[bZ,hl]at h;cases hT:slT P T t<;>simp only[hT,cond_true,cond_false]at h
  ·exact nomatch h
  ·by_cases hk:0<=k/\k<(xs.length:Int)
   ·simp only[hk,and_self,decide_true,cond_true,It]at h;subst h;obtain⟨e,ti,hu,hi,hsz⟩:=rj hT;obtain⟨a,cap,b,o,hh,hcap,ha⟩:=ri hr hl;have ha:=ha.resolve_left (by omega);subst ha;rw[hh];refine⟨_,pT hu hi hk,?_⟩;rw[hsz];exact .uQ i k.toNat 0 sh t xs b o _ cap hl (by omega) hh
   ·simp[hk]at h
 |sub i o' n sh t xs a a' cap jk hl hh hn hc hc' ha=>
  simp only[bZ,hl]at h;cases hT:slT P T t<;>simp only[hT,cond_true,cond_false]at h
  ·exact nomatch h
  ·by_cases hk:0<=k/\k<(n:Int)
   ·simp only[hk,and_self,decide_true,cond_true,It]at h;subst h;obtain⟨e,ti,hu,hi,hsz⟩:=rj hT;obtain⟨a2,cap2,b,o,hh2,hcap,ha2⟩:=ri hr hl;rw[hh]at hh2;cases hh2;have ha:=ha.resolve_left (by omega);have ha2:=ha2.resolve_left (by omega);subst ha2;simp only[Zf,uY]at ha;subst ha;refine⟨_,pT hu hi hk,?_⟩;rw[hsz];have:=ar.uQ (w:=w) (pl:=pl) i (o'+k.toNat) 0 sh t xs b o _ cap hl (by omega) hh;rw[show o+o'*t.sz+k.toNat*t.sz=o+((o'+k.toNat)*t.sz+0)from by rw[X7];omega];exact this
   ·simp[hk]at h
 |bsl i n cs a hl hh=>
  simp only[bZ]at h
  cases he:mF P T with
  |none=>simp[he]at h
  |some e=>
   simp only[he,XC]at h
   cases hs:jh P e with
   |none=>simp[hs]at h
   |some sz=>
    simp only[hs,XC]at h;by_cases hk:0<=k/\k<(n:Int)
    ·simp only[hk,and_self,decide_true,cond_true,It]at h;subst h;obtain⟨b,o,hb,_⟩:=hr.blk i _ hl;rw[hh]at hb;cases hb
     have hu:P.underlying T=some (.slice e):=by
      unfold mF at he;split at he
      ·rename_i e' hu;cases he;exact hu
      ·exact nomatch he
     simp only[jh,An,It]at hs;obtain⟨ti,hi,hsz⟩:=hs;refine⟨_,pT hu hi hk,?_⟩;rw[hsz];exact .wQ i (k.toNat*sz) cs b o hl hh
    ·simp[hk]at h
 |_=>exact nomatch h
theorem Og {T:TypeId} {l:List UInt8} {k:Int} {kk:IntKind} {c:UInt8} (hT:isStr P T=true) (h:idx l k=some c):
  (Instr.index T (.string ⟨l.toArray⟩) (.int kk k)).run P w=.ok (.int .u8 c.toNat) w:=by
 obtain⟨h0,hlt,AJ⟩:=K0 h
 have hsz:(⟨l.toArray⟩:ByteArray).size=l.length:=by show l.toArray.size=_;simp
 rw[run_index_string _ _ _ _ _ (GG hT),dif_pos ⟨h0,by rw[hsz];omega⟩]
 have:(⟨l.toArray⟩:ByteArray)[k.toNat]'(by rw[hsz];exact hlt)=c:=by
  show l.toArray[k.toNat]'_=c;rw[List.getElem_toArray];have:=So hlt;rw[AJ]at this;exact(YA this).symm
 rw[this]
theorem GH (hr:cY H pl w) {T:TypeId} {x v hi m:SV} {lo:Option SV} {u uhi um:Value} {ulo:Option Value} (h:zK P T H x lo hi m=some v)
  (hx:ar w H pl x u) (h1:uW w H pl lo ulo) (h2:ar w H pl hi uhi) (h3:ar w H pl m um):
  ∃z,(Instr.sliceAt T u ulo (some uhi) (some um)).run P w=.ok z w/\ar w H pl v z:=by
 simp only[zK,An]at h;obtain⟨n,hn,z,hz,h⟩:=h;cases hd:decide (0<=z/\z<=(n:Int))<;>simp only[hd,cond_true,cond_false,An,It]at h
 ·exact nomatch h
 obtain⟨⟨l,hh⟩,hb,rfl⟩:=h;have hd:=of_decide_eq_true hd
 have key:∃a cap e i,u=.slice a n cap/\n<=cap/\P.underlying T=some (.slice e)/\P.info? e=some i:=by
  unfold slN at hn;split at hn
  ·rename_i d t xs;cases hT:slT P T t<;>simp only[hT,cond_true,cond_false,It]at hn
   ·exact nomatch hn
   subst hn;obtain⟨e,i,g1,g2,_⟩:=rj hT
   cases hx with
   |r _ _ _ hx=>cases hx with|sl _ _ a cap b o vs hcap=>exact⟨a,cap,e,i,rfl,hcap,g1,g2⟩
  ·rename_i i0;split at hn
   ·rename_i sh t xs hl;cases hT:slT P T t<;>simp only[hT,cond_true,cond_false,It]at hn
    ·exact nomatch hn
    subst hn;obtain⟨e,i,g1,g2,_⟩:=rj hT;obtain⟨a,cap,b,o,q1,q2,_⟩:=ri hr hl;cases hx;exact⟨a,cap,e,i,q1,q2,g1,g2⟩
   ·exact nomatch hn
  ·exact nomatch hn
 obtain⟨a,cap,e,i,rfl,hcap,g1,g2⟩:=key;exact⟨_,Mt g1 g2 (Ms hz (by omega) hb h1 h2 h3),.undef _⟩
end
end
section
variable [Tok]
section
variable {w:World} {H:aM} {pl:Pl} {P:Program}
theorem jm {d d':List Nat} (hd:∀i,mem i d=true->mem i d'=true) {p:Cell} (h:okd H pl d p):okd H pl d' p:=
 ⟨h.1,λi B hB hm hf=>h.2 i B hB (λh'=>hm (hd i h')) hf⟩
theorem Oh (hr:cY H pl w) {i:Nat} {sh:Option (List Nat)} {t:Ty} {xs:List t.El} (hl:look H i=some (.arr sh t xs)) {d:List Nat} (hd:mem i d=true) {p:Cell} (h:pl.fp i p):okd H pl d p:=by
 refine⟨hr.ob i _ p hl h,λj B hB hm hf=>?_⟩;have:=hr.dis j i B _ p hB hl hf h;subst this;rw[hl]at hB;cases hB;exact nomatch hm hd
theorem mem_append (i:Nat) (l l':List Nat):mem i (l++l')=(mem i l||mem i l'):=by
 rw[ZH];simp[mem_iff]
theorem K2 (hr:cY H pl w) {i:Nat} {sh:Option (List Nat)} {t:Ty} {xs:List t.El} (hl:look H i=some (.arr sh t xs)) {a a':Option Addr} {cap jk l n:Nat}
  (hh:pl.hdr i=.slice a xs.length cap) (hn:l+n<=xs.length) (hc:n<=jk) (hc':l+jk<=cap) (ha:jk=0\/a'=a.map (·.add (l*t.sz))):
  RepR w (okd H pl (i::sh.getD [])) (.sl t ((xs.drop l).take n)) (.slice a' n jk):=by
 have hmi:mem i (i::sh.getD [])=true:=by simp[mem]
 have hlen:((xs.drop l).take n).length=n:=by simp;omega
 have hcell:∀x j r,aB t ((xs.drop l).take n) x j r->aB t xs (l+x) j r/\x<n:=λx j r ⟨e,h1,h2⟩=>by
  rw[Yh]at h1;split at h1
  ·rw[XU]at h1;exact⟨⟨e,h1,h2⟩,by assumption⟩
  ·exact nomatch h1
 have main:∀(R:∃inner:R->Value->(Cell->Prop)->Prop,(∀r v f,inner r v f->(∀p,f p->pl.fp i p)->RepR w (okd H pl (i::sh.getD [])) r v)/\Nonempty (Row w inner t xs (pl.hdr i) (pl.fp i))),
   RepR w (okd H pl (i::sh.getD [])) (.sl t ((xs.drop l).take n)) (.slice a' n jk):=λ⟨inner,hin,⟨R⟩⟩=>by
  obtain⟨a2,cap2,b,o,vs,fs,q1,q2,q3,q4,q5,q6,q7,q8,q9⟩:=R;rw[hh]at q1;cases q1
  conv=>rhs;rw[<-hlen]
  refine .sl t _ a' jk b (o+l*t.sz) (λx j=>vs (l+x) j) (by omega) ?_ (λx j r h=>?_) λx j r h=>?_
  ·by_cases h0:n=0
   ·exact .inl (Yo.1 (by omega))
   ·have ha:=ha.resolve_left (by omega);have q3:=q3.resolve_left (by omega);subst q3;rw[ha,Zf,uY];exact .inr rfl
  ·obtain⟨h1,h2⟩:=hcell x j r h;have hlt:=rh (aO h1).1 (aO h1).2 q2
   have e:o+l*t.sz+(x*t.sz+j)=o+((l+x)*t.sz+j):=by rw[X7];omega
   rw[e];exact⟨Oh hr hl hmi ((q9 _).2 (.inl ⟨rfl,by simp,by simp;omega⟩)),q5 _ _ _ h1⟩
  ·obtain⟨h1,h2⟩:=hcell x j r h;exact hin _ _ _ (q6 _ _ _ h1) λp hp=>(q9 p).2 (.inr ⟨_,_,_,h1,hp⟩)
 have hb:=hr.blk i _ hl
 cases sh with
 |none=>exact main ⟨fV w,λr v f h hf=>h.Oc λp hp=>Oh hr hl hmi (hf p hp),hb⟩
 |some d=>exact main ⟨_,λr v f h _=>h.1.frame λp u hp hu=>⟨jm (λj hj=>by simp only[YP,mem];cases Nat.beq i j<;>simp[hj]) hp,hu⟩,hb⟩
theorem zN (hr:cY H pl w) {t:Ty} {v:SV} {u:Value} {d:List Nat} {xs:List t.El} (h:v.list H t=some (d,xs)) (hv:ar w H pl v u):
  RepR w (okd H pl d) (.sl t xs) u/\∃a cap,u=.slice a xs.length cap:=by
 cases hv with
 |r d' x _ hx=>
  simp only[SV.list,An,It,XO]at h;obtain⟨ys,hy,rfl,rfl⟩:=h;have:=R.gp hy;subst this;obtain⟨a,cap,rfl,_⟩:=UU (ar.r d' _ u hx)
  exact⟨hx,a,cap,rfl⟩
 |cF=>
  simp only[SV.list,It,XO]at h;obtain⟨rfl,rfl⟩:=h
  exact⟨.sl t [] none 0 0 0 (λ_ _=>undef) (X1 _) (.inl rfl) (λi j r hc=>by have:=(aO hc).1;simp at this) (λi j r hc=>by have:=(aO hc).1;simp at this),none,0,rfl⟩
 |own i sh t' ys hl=>
  simp only[SV.list,hl]at h;split at h
  ·rename_i e;subst e;simp only[It,XO]at h;obtain⟨rfl,rfl⟩:=h;obtain⟨a,cap,b,o,hh,hcap,ha⟩:=ri hr hl;have:=K2 hr hl (a':=a) (jk:=cap) (l:=0) (n:=ys.length) hh (by omega) hcap (by omega) (.inr (by cases a<;>simp[Addr.add]));simp only[Zt,Yj]at this;rw[hh];exact⟨this,a,cap,rfl⟩
  ·exact nomatch h
 |sub i o n sh t' ys a a' cap jk hl hh hn hc hc' ha=>
  simp only[SV.list,hl]at h;split at h
  ·rename_i e;subst e;simp only[It,XO]at h;obtain⟨rfl,rfl⟩:=h
   have hlen:((ys.drop o).take n).length=n:=by simp;omega
   exact⟨K2 hr hl hh hn hc (Nat.le_of_eq hc') ha,a',jk,by rw[hlen]⟩
  ·exact nomatch h
 |_=>exact nomatch h
theorem rk (hr:cY H pl w) {t:Ty} {v:SV} {u:Value} {d:List Nat} {xs:List t.El} (h:v.list H t=some (d,xs)) (hv:ar w H pl v u):
  RepR w (okd H pl d) (.sl t xs) u:=(zN hr h hv).1
theorem wS (hr:cY H pl w) {t:Ty} {v:SV} {u:Value} {d:List Nat} {r:R} (h:v.asR H t=some (d,r)) (hv:ar w H pl v u):RepR w (okd H pl d) r u:=by
 have plain:∀{v:SV},ar w H pl v u->(match v with|.r d x=>some (d,x)|_=>none:Option (List Nat× R))=some (d,r)->RepR w (okd H pl d) r u:=λ{v} hv h=>by
  split at h
  ·simp only[It,XO]at h;obtain⟨rfl,rfl⟩:=h
   cases hv with
   |r _ _ _ hx=>exact hx
  ·exact nomatch h
 cases t with
 |sl t'=>
  simp only[SV.asR,An,It,XO]at h;obtain⟨⟨d',xs⟩,h1,rfl,rfl⟩:=h
  exact(zN hr h1 hv).1
 |st s=>exact nomatch h
 |int k=>exact plain hv h
 |bool=>exact plain hv h
 |str=>exact plain hv h
 |ho s=>exact plain hv h
 |hl t=>exact plain hv h
 |tok=>
  simp only[SV.asR]at h;split at h
  ·simp only[It,XO]at h;obtain⟨rfl,rfl⟩:=h
   cases hv with
   |r _ _ _ hx=>exact hx
  ·simp only[It,XO]at h;obtain⟨rfl,rfl⟩:=h
   cases hv with
   |cF=>rw[<-Tok.Ob];exact .tok 0
  ·exact nomatch h
theorem K3 (hr:cY H pl w):∀{ts:List Ty} {vs:List SV} {us:List Value} {d:List Nat} {rs:List R},NK H ts vs=some (d,rs)->vs.length=us.length->
  (∀(j:Nat) (x:SV) (u:Value),vs[j]? =some x->us[j]? =some u->ar w H pl x u)->
  rs.length=us.length/\∀(j:Nat) (r:R) (u:Value),rs[j]? =some r->us[j]? =some u->RepR w (okd H pl d) r u
 |[],[],us,d,rs,h,hl,_=>by cases h;exact⟨hl,λj r u hr _=>by simp at hr⟩
 |t::ts,v::vs,u::us,d,rs,h,hl,hp=>by
  simp only[NK,An,It,XO]at h;obtain⟨⟨d1,r1⟩,h1,⟨d2,rs2⟩,h2,rfl,rfl⟩:=h;obtain⟨g1,g2⟩:=K3 hr h2 (by simpa using hl) λj x u hx hu=>hp (j+1) x u (by simpa using hx) (by simpa using hu);refine⟨by simp[g1],λj r u' hj hu=>?_⟩
  cases j with
  |zero=>
   simp at hj hu;subst hj hu
   exact(wS hr h1 (hp 0 v u rfl rfl)).frame λp u hp hu=>⟨jm (λi hi=>by rw[mem_append,hi];rfl) hp,hu⟩
  |succ j=>exact(g2 j r u' (by simpa using hj) (by simpa using hu)).frame λp u hp hu=>⟨jm (λi hi=>by rw[mem_append,hi,Y7]) hp,hu⟩
 |[],_::_,_,_,_,h,_,_=>nomatch h
 |_::_,[],_,_,_,h,_,_=>nomatch h
end
end
section
variable [Tok]
section
variable {w:World} {H:aM} {pl:Pl} {P:Program}
structure Mu (w:World) (H:aM) (pl:Pl) (cs:List SV) (us:Array Value):Prop where
 hl:cs.length=us.size
 h1:∀(j:Nat) (v:Value),us[j]? =some v->one v=true
 h:∀(j:Nat) (x:SV) (v:Value),cs[j]? =some x->us[j]? =some v->ar w H pl x v
theorem Mu.agg {cs:List SV} {us:Array Value} (h:Mu w H pl cs us):ar w H pl (.agg cs) (.agg us):=.agg _ _ h.hl h.h1 h.h
theorem ar.cells {v:SV} {u:Value} {cs:List SV} (h:ar w H pl v u) (hc:v.cells=some cs) (hr:cY H pl w):Mu w H pl cs u.cells:=by
  have single:∀{v:SV} {u:Value},ar w H pl v u->one u=true->Mu w H pl [v] #[u]:=λ{v u} h h1=>
    ⟨rfl,λj x hx=>by cases j with
      |zero=>simp at hx;subst hx;exact h1
      |succ j=>simp at hx,λj x y hx hy=>by cases j with
      |zero=>simp at hx hy;subst hx hy;exact h
      |succ j=>simp at hx⟩
  cases h with
  |agg cs' vs hl h1 h=>cases hc;exact⟨hl,h1,h⟩
  |tup=>exact nomatch hc
  |undef=>exact nomatch hc
  | r d x v hx =>
    cases hc;have h1:=hx.tD
    have e:u.cells=#[u]:=by clear hx;cases u<;>first|rfl|exact nomatch h1
    rw[e]
    exact single (.r _ _ _ hx) h1
  |cF=>cases hc;exact single .cF rfl
  |qZ=>cases hc;exact single .qZ rfl
  | own i sh t xs hl =>
    cases hc;obtain⟨a,cap,b,o,hh,_⟩:=ri hr hl;have:=ar.own (w:=w) (pl:=pl) i sh t xs hl;rw[hh]at this⊢
    exact single this rfl
  |sub i o n sh t xs a a' cap jk hl hh hn hc' hcc ha=>cases hc;exact single (.sub i o n sh t xs a a' cap jk hl hh hn hc' hcc ha) rfl
  |bsl i n cs a hl hh=>cases hc;exact single (.bsl i n cs a hl hh) rfl
  |wQ i o cs b k hl hh=>cases hc;exact single (.wQ i o cs b k hl hh) rfl
  |uQ i x o sh t xs b k n cap hl hx hh=>cases hc;exact single (.uQ i x o sh t xs b k n cap hl hx hh) rfl
  | inn i x c sh t xs b k n cap v hl hx hc' hh hok hv h1 =>
    cases hc
    rw[show u.cells=#[u]from by cases u<;>first|rfl|exact nomatch h1]
    exact single (.inn i x c sh t xs b k n cap _ hl hx hc' hh hok hv h1) h1
  |lB d cs b o vs h1 h2=>cases hc;exact single (.lB d cs b o vs h1 h2) rfl
  |fn f as bs us vs hl h hl' h'=>cases hc;exact single (.fn f as bs us vs hl h hl' h') rfl
theorem K4 (off:Nat):∀(l:List Value) (k:Nat) (cells:Array Value),
  ((l.zipIdx k).foldl (λ(cs:Array Value) (p:Value× Nat)=>cs.setIfInBounds (off+p.2) p.1) cells).size=cells.size/\
  ∀m,m<cells.size->((l.zipIdx k).foldl (λ(cs:Array Value) (p:Value× Nat)=>cs.setIfInBounds (off+p.2) p.1) cells)[m]? =
   if off+k<=m/\m<off+k+l.length then l[m-(off+k)]? else cells[m]?
 |[],k,cells=>⟨rfl,λm _=>by simp only[List.zipIdx_nil,List.foldl_nil,X2];rw[if_neg (by omega)]⟩
 |v::l,k,cells=>by
  rw[List.zipIdx_cons,Zp];obtain⟨h1,h2⟩:=K4 off l (k+1) (cells.setIfInBounds (off+k) v);refine⟨by rw[h1];simp,λm hm=>?_⟩;rw[h2 m (by simpa using hm)];simp only[XI];by_cases hk:m=off+k
  ·subst hk;rw[if_neg (by omega),if_pos (by omega),Array.getElem?_setIfInBounds_self_of_lt hm];simp
  ·rw[Array.getElem?_setIfInBounds_ne (by omega)];by_cases hk2:off+(k+1)<=m/\m<off+(k+1)+l.length
   ·rw[if_pos hk2,if_pos (by omega),show m-(off+k)=(m-(off+(k+1)))+1 from by omega];rfl
   ·rw[if_neg hk2,if_neg (by omega)]
theorem EO (hr:cY H pl w) {places:Nat->Option (Nat× Nat)}:∀(parts:List (Nat× SV)) (vparts:List (Nat× Value)) (cs cs':List SV) (us:Array Value),
    Mu w H pl cs us->parts.length=vparts.length->
    (∀(j k:Nat) (x:SV) (k':Nat) (u:Value),parts[j]? =some (k,x)->vparts[j]? =some (k',u)->k=k'/\ar w H pl x u)->
    qP places cs parts=some cs'->∃us',Instr.fill places us vparts=some us'/\Mu w H pl cs' us'
  |[],[],cs,cs',us,hc,_,_,h=>by cases h;exact⟨us,rfl,hc⟩
  | (k, x) :: parts, (k', u) :: vparts, cs, cs', us, hc, hl, hp, h => by
    obtain⟨rfl,hxu⟩:=hp 0 k x k' u rfl rfl;simp only[qP,An]at h;obtain⟨⟨off,size⟩,hpl,vs,hvs,h⟩:=h;simp only at h;cases h1:Nat.beq vs.length size<;>simp only[h1,cond_true,cond_false]at h
    · exact nomatch h
    · cases h2:Nat.ble (off+vs.length) cs.length<;>simp only[h2,cond_true,cond_false]at h
      · exact nomatch h
      · have h1:=On h1;have h2:=XT h2;have hcell:=hxu.cells hvs hr;obtain⟨g1,g2⟩:=K4 off u.cells.toList 0 us
        have hus:u.cells.zipIdx.foldl (λ(cs:Array Value) (p:Value× Nat)=>cs.setIfInBounds (off+p.2) p.1) us=
            (u.cells.toList.zipIdx 0).foldl (λ(cs:Array Value) (p:Value× Nat)=>cs.setIfInBounds (off+p.2) p.1) us:=by
          rw[<-Array.foldl_toList];simp
        have hlen:u.cells.toList.length=vs.length:=by simp[hcell.hl]
        have hcl:=hc.hl
        have AJ:∀m,(cs.take off++vs++cs.drop (off+vs.length))[m]? =if off<=m/\m<off+vs.length then vs[m-off]? else cs[m]? :=λm=>by
          have hto:(cs.take off).length=off:=by simp;omega
          by_cases c1:m<off
          · rw[XP,XQ (by omega),Yh,if_pos c1,if_neg (by omega)]
          · by_cases c2:m<off+vs.length
            · rw[XP,XL (by omega),XQ (by omega),if_pos (by omega),hto]
            · rw[XP,XL (by omega),XL (by omega),XU,if_neg (by omega),hto,
                show off+vs.length+(m-off-vs.length)=m from by omega]
        have hc':Mu w H pl (cs.take off++vs++cs.drop (off+vs.length)) (u.cells.zipIdx.foldl (λ(cs:Array Value) (p:Value× Nat)=>cs.setIfInBounds (off+p.2) p.1) us):=by
          rw[hus];refine⟨by rw[g1];simp;omega,λm v hv=>?_,λm x v hx hv=>?_⟩
          · have hm:m<us.size:=by have:=(XW.1 hv).1;omega
            rw[g2 m hm]at hv;split at hv
            · exact hcell.h1 _ _ (by simpa using hv)
            · exact hc.h1 _ _ hv
          · have hm:m<us.size:=by have:=(XW.1 hv).1;omega
            rw[g2 m hm]at hv;rw[AJ m]at hx;simp only[hlen,Yd]at hv;split at hv
            · rename_i hif;rw[if_pos hif]at hx;exact hcell.h _ _ _ hx (by simpa using hv)
            · rename_i hif;rw[if_neg hif]at hx;exact hc.h _ _ _ hx hv
        obtain⟨us',e1,e2⟩:=EO hr parts vparts _ cs' _ hc' (by simpa using hl) (λj k x k' u hx hu=>hp (j+1) k x k' u (by simpa using hx) (by simpa using hu)) h;refine⟨us',?_,e2⟩;rw[Instr.fill];simp only[hpl]
        have hz:u.cells.size=size:=by rw[<-hcell.hl];exact h1
        rw[if_neg (by simp[hz];omega)];exact e1
theorem wT (hr:cY H pl w) {T:TypeId} {z:List SV} (h:gv P T=some z):∃u,(zeroValue T).run P w=.ok u w/\Mu w H pl z u.cells:=by
 simp only[gv,An]at h;obtain⟨i,hi,v,hv,x,hx,hc⟩:=h;exact⟨v,by simp[zeroValue,typeInfo,hi,hv],(wR hx).cells hc hr⟩
theorem Dv {w:World}:∀{fs:List Field} {l:List (Nat× Nat)},uU P fs=some l->
  (fs.mapM λf=>Prod.mk f.offset<$> sizeOf f.type:Sem (List (Nat× Nat))).run P w=.ok l w
 |[],l,h=>by cases h;rfl
 |f::fs,l,h=>by
  simp only[uU,jh,An,It]at h;obtain⟨s,⟨i,hi,rfl⟩,l',hl',rfl⟩:=h;rw[List.mapM_cons];simp[ey hi,Dv hl']
theorem wU {s:List (Nat× SV)} {a:Act} (hs:gT w H pl s a):∀{l:List (Nat× Operand)} {ps:List (Nat× SV)},ra s l=some ps->
  ps.length=l.length/\∀(j k:Nat) (x:SV) (k':Nat) (u:Value),ps[j]? =some (k,x)->(l.map λp=>(p.1,a.eval p.2))[j]? =some (k',u)->k=k'/\ar w H pl x u
 |[],ps,h=>by cases h;exact⟨rfl,λj k x k' u hx _=>by simp at hx⟩
 |(k0,o)::l,ps,h=>by
  simp only[ra,An,It]at h;obtain⟨v,hv,ps',hps,rfl⟩:=h;obtain⟨h1,h2⟩:=wU hs hps;refine⟨by simp[h1],λj k x k' u hx hu=>?_⟩
  cases j with
  |zero=>simp at hx hu;obtain⟨rfl,rfl⟩:=hx;obtain⟨rfl,rfl⟩:=hu;exact⟨rfl,aW hs hv⟩
  |succ j=>exact h2 j k x k' u (by simpa using hx) (by simpa using hu)
theorem EP {s:List (Nat× SV)} {a:Act} (hs:gT w H pl s a) {o:Option Operand} {v:Option SV} (h:Qx s o=some v):uW w H pl v (o.map a.eval):=by
 cases o with
 |none=>cases h;trivial
 |some o=>
  simp only[Qx,An,It]at h;obtain⟨x,hx,rfl⟩:=h;exact aW hs hx
theorem Oi (hr:cY H pl w) {T:TypeId} {fs:Array Field} {l:List (Nat× Nat)} {z cs:List SV} {ps:List (Nat× SV)} {vps:Array (Nat× Value)}
  (hu:P.underlying T=some (.struct fs)) (hl:uU P fs.toList=some l) (hz:gv P T=some z) (hc:qP (λk=>l[k]?) z ps=some cs) (hlen:ps.length=vps.toList.length)
  (hp:∀(j k:Nat) (x:SV) (k':Nat) (u:Value),ps[j]? =some (k,x)->vps.toList[j]? =some (k',u)->k=k'/\ar w H pl x u):
  ∃u,(Instr.build T vps).run P w=.ok u w/\ar w H pl (.agg cs) u:=by
 obtain⟨zu,hzu,hzr⟩:=wT hr hz;obtain⟨us,h1,h2⟩:=EO hr ps vps.toList z cs zu.cells hzr hlen hp hc;refine⟨.agg us,?_,h2.agg⟩;simp[Instr.build,hzu,cZ hu,Array.mapM_eq_mapM_toList,Dv hl,h1]
theorem Mv (hr:cY H pl w) {src dst:TypeId} {x:SV} {u:Value} {d:List Nat} {xs:List Int} (hb:yH P src=true) (hd:isStr P dst=true) (hl:x.list H (.int .u8)=some (d,xs)) (hx:ar w H pl x u):
  ∃z,(convert src dst u).run P w=.ok z w/\ar w H pl (.r [] (.str (bytesOf xs))) z:=by
 obtain⟨e,hs,he⟩:∃e,P.underlying src=some (.slice e)/\P.underlying e=some (.int .u8):=by
  unfold yH at hb;split at hb
  ·rename_i e he;split at hb
   ·rename_i hu;refine⟨e,?_,hu⟩;unfold mF at he;split at he
    ·rename_i e' hu';cases he;exact hu'
    ·exact nomatch he
   ·exact nomatch hb
  ·exact nomatch hb
 have hd':P.underlying dst=some .string:=by
  unfold isStr at hd;split at hd
  ·assumption
  ·exact nomatch hd
 have V9:=(zN hr hl hx).1;refine⟨.string (strOfNums xs),?_,.r _ _ _ (.str _)⟩
 cases V9 with
 |sl _ _ a cap b o vs hcap ha hc hrr=>
  rcases ha with rfl|rfl
  ·cases a with
   |none=>rw[run_convert_bytes_nil w src e hs he _ _ dst hd'];rfl
   |some A=>
    rw[run_convert_bytes_string w src dst e _ _ _ hs he hd'];show(Conv.bytesToString (.slice (some A) 0 cap)).run P w=_;rw[run_bytesToString w A 0 cap [] (by simpa using run_loadCells_list (P:=P) w A [] (λj v hj=>by simp at hj))];rfl
  ·refine run_convert_bytes_arg w src e hs he b o _ cap xs rfl (λi hi=>?_) dst hd';have hcell:aB (.int .u8) xs i 0 (.int .u8 xs[i]):=⟨xs[i],So hi,rfl⟩;have h1:=(hc i 0 _ hcell).2;have h2:=hrr i 0 _ hcell;generalize vs i 0=vv at h1 h2;cases h2;have:w.cell? ⟨b,o+(i*1+0),none⟩=some (.int .u8 xs[i]):=h1;simpa[List.getD,So hi]using this
theorem ER {s:List (Nat× SV)} {a:Act} (hs:gT w H pl s a) {l:Array Operand} {vs:List SV} (h:tX s l.toList=some vs):
  vs.length=(l.map a.eval).size/\∀(j:Nat) (x:SV) (u:Value),vs[j]? =some x->(l.map a.eval)[j]? =some u->ar w H pl x u:=by
 obtain⟨h1,h2⟩:=KZ hs h;refine⟨by simp[h1],λj x u hx hu=>h2 j x u hx ?_⟩;rw[Array.getElem?_map]at hu;simpa using hu
theorem ES {s:List (Nat× SV)} {l:List Operand} {v:SV} (h:tX s l=some [v]):∃x,l=[x]/\opd s x=some v:=by
 match l,h with
 |[x],h=>
  simp only[tX,An,It]at h;obtain⟨v',hv,_,rfl,h⟩:=h
  cases h;exact⟨x,rfl,hv⟩
 |x::y::l,h=>
  simp only[tX,An,It]at h;obtain⟨v',hv,_,⟨_,_,_,_,rfl⟩,h⟩:=h;cases h
theorem sx {s:List (Nat× SV)} {l:List Operand} {u v:SV} (h:tX s l=some [u,v]):∃x y,l=[x,y]/\opd s x=some u/\opd s y=some v:=by
 match l,h with
 |x::l,h=>
  simp only[tX,An,It]at h;obtain⟨v',hv,vs,hvs,h⟩:=h;cases h;obtain⟨y,rfl,hy⟩:=ES hvs;exact⟨x,y,rfl,hv,hy⟩
theorem Mw {s:List (Nat× SV)} {l:List Operand} {u v z:SV} (h:tX s l=some [u,v,z]):∃x y q,l=[x,y,q]/\opd s x=some u/\opd s y=some v/\opd s q=some z:=by
 match l,h with
 |x::l,h=>
  simp only[tX,An,It]at h;obtain⟨v',hv,vs,hvs,h⟩:=h;cases h;obtain⟨y,q,rfl,hy,hq⟩:=sx hvs;exact⟨x,y,q,rfl,hv,hy,hq⟩
theorem eS {s:Sem Value} {u:Value} (h:s.run P w=.ok u w):(do pure (Next.value (<-s)):Sem Next).run P w=.ok (.value u) w:=by simp[h]
theorem lN {s:List (Nat× SV)} {op:Op} {v:SV} {a:Act} (hr:cY H pl w) (hs:gT w H pl s a) (h:ik P s H op=some v) (o:Oper) (ho:o.op=op):
    ∃u,(execOp a.eval o).run P w=.ok (.value u) w/\ar w H pl v u:=by
  subst ho;unfold ik at h;split at h
  · rename_i x ho;exact⟨_,by rw[execOp,ho];rfl,aW hs h⟩
  · rename_i x ho;exact⟨_,by rw[execOp,ho];rfl,aW hs h⟩
  · rename_i c x y ho;simp only[An]at h;obtain⟨cv,hc,b,hb,h⟩:=h;have hcv:=Jn hb (aW hs hc);cases b
    · exact⟨_,by rw[execOp,ho];simp[asBool,hcv],aW hs h⟩
    · exact⟨_,by rw[execOp,ho];simp[asBool,hcv],aW hs h⟩
  · rename_i T parts ho;split at h
    · rename_i fs hu;simp only[An,It]at h;obtain⟨l,hl,z,hz,ps,hps,cs,hcs,rfl⟩:=h;obtain⟨g1,g2⟩:=wU hs hps;obtain⟨u,h1,h2⟩:=Oi (P:=P) (vps:=parts.map λp=>(p.1,a.eval p.2)) hr hu hl hz hcs (by simp[g1]) (λj k x k' u hx hu=>g2 j k x k' u hx (by simpa using hu));exact⟨u,by rw[execOp,ho];exact eS h1,h2⟩
    · exact nomatch h
  · rename_i T x ho;simp only[An]at h;obtain⟨p,hp,cs,hcs,hv⟩:=h;obtain⟨b,o',hpu,hc⟩:=AF hr (aW hs hp) hcs;obtain⟨u,h1,h2⟩:=EK hv b o' hc;exact⟨u,by rw[execOp,ho];refine eS ?_;rw[Instr.loadAt,hpu];exact h1,h2⟩
  · rename_i x ho;simp only[An]at h;obtain⟨p,hp,h⟩:=h;have hpr:=aW hs hp;split at h
    · cases h;refine⟨a.eval x,?_,hpr⟩;rw[execOp,ho];generalize hux:a.eval x=ux at*
      cases hpr with
      |wQ=>simp only[hux];rfl
      |uQ=>simp only[hux];rfl
    · cases h;refine⟨a.eval x,?_,hpr⟩;rw[execOp,ho];generalize hux:a.eval x=ux at*
      cases hpr with
      |lB=>simp only[hux];rfl
    · exact nomatch h
  · rename_i op T x y yT ho;simp only[An]at h;obtain⟨x',hx,y',hy,h⟩:=h;obtain⟨u,h1,h2⟩:=S9 (P:=P) x y h (aW hs hx) (aW hs hy);exact⟨u,by rw[execOp,ho];exact eS h1,h2⟩
  · rename_i op T x ho;simp only[An]at h;obtain⟨x',hx,h⟩:=h;obtain⟨u,h1,h2⟩:=UT (P:=P) h (aW hs hx);exact⟨u,by rw[execOp,ho];exact eS h1,h2⟩
  · rename_i src dst x ho;simp only[An]at h;obtain⟨x',hx,h⟩:=h;cases hb:(yH P src&&isStr P dst)<;>simp only[hb,cond_true,cond_false]at h
    rotate_left
    · simp only[XB]at hb;rw[An]at h;obtain⟨⟨d,xs⟩,hl,h⟩:=h;cases h;obtain⟨u,h1,h2⟩:=Mv hr hb.1 hb.2 hl (aW hs hx);exact⟨u,by rw[execOp,ho];exact eS h1,h2⟩
    obtain⟨u,h1,h2⟩:=QT h (aW hs hx);exact⟨u,by rw[execOp,ho];exact eS h1,h2⟩
  · rename_i fn first cap ho
    simp only[An,It]at h;obtain⟨as,has,bs,hbs,rfl⟩:=h;obtain⟨g1,g2⟩:=ER hs has;obtain⟨g3,g4⟩:=ER hs hbs;exact⟨_,by rw[execOp,ho];rfl,.fn _ _ _ _ _ g1 g2 g3 g4⟩
  · rename_i T x lo hi ho;simp only[An]at h;obtain⟨x',hx,lo',hlo,hi',hhi,h⟩:=h;obtain⟨u,h1,h2⟩:=Jp hr h (aW hs hx) (EP hs hlo) (EP hs hhi);exact⟨u,by rw[execOp,ho];exact eS h1,h2⟩
  · rename_i T x lo hi m ho;simp only[An]at h;obtain⟨x',hx,lo',hlo,hi',hhi,m',hm,h⟩:=h;obtain⟨u,h1,h2⟩:=GH hr h (aW hs hx) (EP hs hlo) (aW hs hhi) (aW hs hm);exact⟨u,by rw[execOp,ho];exact eS h1,h2⟩
  · rename_i T x f ho;simp only[An]at h;obtain⟨x',hx,fd,hfd,h⟩:=h;have hxr:=aW hs hx;split at h
    · rename_i d0 cs0;cases h;generalize hux:a.eval x=ux at*
      cases hxr with
      | lB _ _ b o vs h1 h2 =>
        refine⟨.pointer (some ⟨b,o+fd.offset,none⟩),by rw[execOp,ho];refine eS ?_;rw[hux];exact pS hfd,?_⟩;refine .lB d0 _ b _ (λj=>vs (fd.offset+j)) (λj r hj=>?_) λj r hj=>?_
        · rw[XU]at hj;rw[Yz];exact h1 _ _ hj
        · rw[XU]at hj;exact h2 _ _ hj
    · rename_i i0 k0 o0;cases h;generalize hux:a.eval x=ux at*
      cases hxr with
      | wQ _ _ cs b k hl hh =>
        refine⟨.pointer (some ⟨b,k+o0+fd.offset,none⟩),by rw[execOp,ho];refine eS ?_;rw[hux];exact pS hfd,?_⟩;rw[Yz]
        exact .wQ i0 (o0+fd.offset) cs b k hl hh
      | uQ _ _ _ sh t xs b k n cap hl hlt hh =>
        refine⟨.pointer (some ⟨b,k+(k0*t.sz+o0)+fd.offset,none⟩),by rw[execOp,ho];refine eS ?_;rw[hux];exact pS hfd,?_⟩;rw[show k+(k0*t.sz+o0)+fd.offset=k+(k0*t.sz+(o0+fd.offset))from by omega];exact .uQ i0 k0 (o0+fd.offset) sh t xs b k n cap hl hlt hh
    · exact nomatch h
  · rename_i T x f ho;simp only[An]at h;obtain⟨x',hx,fd,hfd,h⟩:=h;have hxr:=aW hs hx;split at h
    · rename_i cs0;generalize hux:a.eval x=ux at*
      cases hxr with
      | agg _ vs hl h1 h2 =>
        obtain⟨z,e1,e2⟩:=Oe hfd h (.agg cs0 vs hl h1 h2);exact⟨z,by rw[execOp,ho];refine eS ?_;rw[hux];exact e1,e2⟩
    · exact nomatch h
  · rename_i T x k ho;simp only[An]at h;obtain⟨x',hx,k',hk,n,hn,h⟩:=h;obtain⟨kk,hkk⟩:=AG hn (aW hs hk);obtain⟨u,h1,h2⟩:=EN (kk:=kk) hr h (aW hs hx);exact⟨u,by rw[execOp,ho];refine eS ?_;rw[hkk];exact h1,h2⟩
  · rename_i T x k ho;simp only[An]at h;obtain⟨x',hx,k',hk,n,hn,h⟩:=h;obtain⟨kk,hkk⟩:=AG hn (aW hs hk);split at h
    · rename_i d l;cases hT:isStr P T<;>simp only[hT,cond_true,cond_false,An,It]at h
      · exact nomatch h
      · obtain⟨c,hc,rfl⟩:=h;exact⟨.int .u8 c.toNat,by rw[execOp,ho];refine eS ?_;rw[hkk,EL (aW hs hx)];exact Og hT hc,pR⟩
    · exact nomatch h
  · rename_i x k ho;simp only[An]at h;obtain⟨x',hx,h⟩:=h;have hxr:=aW hs hx;split at h
    · generalize hux:a.eval x=ux at*
      cases hxr with
      | tup cs vs hl h2 =>
        have hlt:k<vs.size:=by have:=(Of.1 h).1;omega
        exact⟨vs[k],by rw[execOp,ho];refine eS ?_;rw[hux];simp[Instr.extract,XR hlt],h2 _ _ _ h (XR hlt)⟩
    · exact nomatch h
  · rename_i args argTypes ho;simp only[An]at h;obtain⟨vs,hvs,h⟩:=h;split at h
    · rename_i v' T rest hT;obtain⟨x,hx,hv⟩:=ES hvs;cases hlt:VJ P T v'<;>simp only[hlt,cond_true,cond_false,An,It]at h
      · exact nomatch h
      · obtain ⟨n, hn, rfl⟩ := h;have hvr:=aW hs hv
        have ha:args.map a.eval=#[a.eval x]:=by rw[show args=#[x]from Zg hx];simp
        have hT0:argTypes[0]? =some T:=by rw[<-YM,hT];rfl
        refine⟨.int .i64 n,?_,pR⟩
        have lG:(Builtin.len_ argTypes o.type #[a.eval x]).run P w=.ok (goInt n) w:=by
          rcases Od hr hn hvr with⟨d,l,rfl,hl,rfl⟩|⟨hns,ad,cap,hl⟩
          · have W7:P.underlying T=some .string:=by
              unfold VJ at hlt;simp only at hlt;split at hlt
              · assumption
              · exact nomatch hlt
            have hsz:(⟨l.toArray⟩:ByteArray).size=l.length:=by show l.toArray.size=_;simp
            simp[Builtin.len_,hT0,cZ W7,hl,hsz]
          · have hsl:∃e,P.underlying T=some (.slice e):=by
              unfold VJ at hlt;split at hlt
              · exact(hns _ _ rfl).elim
              · split at hlt
                · rename_i e he;exact⟨e,he⟩
                · exact nomatch hlt
            obtain⟨e,he⟩:=hsl;simp[Builtin.len_,hT0,cZ he,hl]
        rw[execOp,ho];simp only[resolve,ha,invoke,builtin,Sem.run_bind,Sem.run_pure,Result.andThen_ok,lG];rfl
    · exact nomatch h
  · rename_i args argTypes ho;simp only[An]at h;obtain⟨vs,hvs,h⟩:=h;split at h
    · rename_i T ts hT;cases hsl:KO P T<;>simp only[hsl,cond_true,cond_false,It]at h
      · exact nomatch h
      · subst h;obtain⟨x,hx,hv⟩:=ES hvs;have hvr:=aW hs hv
        have hxe:a.eval x=.slice none 0 0:=by generalize a.eval x=u at hvr;cases hvr;rfl
        have ha:args.map a.eval=#[.slice none 0 0]:=by rw[show args=#[x]from Zg hx];simp[hxe]
        have hT0:argTypes[0]? =some T:=by rw[<-YM,hT];rfl
        obtain⟨e,he⟩:∃e,P.underlying T=some (.slice e):=by
          unfold KO at hsl;split at hsl
          · rename_i e he;exact⟨e,he⟩
          · exact nomatch hsl
        refine⟨.int .i64 0,?_,pR⟩
        have lG:(Builtin.cap_ argTypes o.type #[.slice none 0 0]).run P w=.ok (goInt 0) w:=by
          simp[Builtin.cap_,hT0,cZ he]
        rw[execOp,ho];simp only[resolve,ha,invoke,builtin,Sem.run_bind,Sem.run_pure,Result.andThen_ok,lG];rfl
    · exact nomatch h
  · rename_i args argTypes ho;simp only[An]at h;obtain⟨vs,hvs,h⟩:=h;split at h
    · rename_i d1 k x d2 l y;cases h;obtain⟨p,q,hpq,hp,hq⟩:=sx hvs
      have ha:args.map a.eval=#[.int k x,.int l y]:=by rw[show args=#[p,q]from Zg hpq];simp[jl (aW hs hp),jl (aW hs hq)]
      refine⟨_,?_,pR⟩;rw[execOp,ho];simp only[resolve,ha,invoke,builtin,Sem.run_bind,Sem.run_pure,Result.andThen_ok,Builtin.min_,List.foldlM_cons,List.foldlM_nil,Builtin.min2]
    · rename_i d1 k x d2 l y d3 m z;cases h;obtain⟨p,q,r,hpq,hp,hq,hr'⟩:=Mw hvs
      have ha:args.map a.eval=#[.int k x,.int l y,.int m z]:=by
        rw[show args=#[p,q,r]from Zg hpq];simp[jl (aW hs hp),jl (aW hs hq),jl (aW hs hr')]
      refine⟨_,?_,pR⟩;rw[execOp,ho];simp only[resolve,ha,invoke,builtin,Sem.run_bind,Sem.run_pure,Result.andThen_ok,Builtin.min_,List.foldlM_cons,List.foldlM_nil,Builtin.min2]
    · exact nomatch h
  · rename_i args argTypes ho;simp only[An]at h;obtain⟨vs,hvs,h⟩:=h;split at h
    · rename_i d1 k x d2 l y;cases h;obtain⟨p,q,hpq,hp,hq⟩:=sx hvs
      have ha:args.map a.eval=#[.int k x,.int l y]:=by rw[show args=#[p,q]from Zg hpq];simp[jl (aW hs hp),jl (aW hs hq)]
      refine⟨_,?_,pR⟩;rw[execOp,ho];simp only[resolve,ha,invoke,builtin,Sem.run_bind,Sem.run_pure,Result.andThen_ok,Builtin.max_,List.foldlM_cons,List.foldlM_nil,Builtin.max2]
    · exact nomatch h
  · exact nomatch h
end
end
section
variable [Tok]
def W8:MemPlace->Prop
 |.cell _ _=>True
 |.map _=>False
def dF (w w':World):Prop:=w'.os=w.os/\w'.output=w.output/\∀i:Nat,i<w.heap.size->
 match w.heap[i]?,w'.heap[i]? with
 |some (.cells c t fr),some (.cells c' t' fr')=>t'=t/\(fr'=fr\/0<c.size)/\c'.size=c.size
 |o,o'=>o'=o
theorem dF.ET {w w':World} (h:w.keptBut w' W8):dF w w':=by
 obtain⟨h1,h2,h3⟩:=h;refine⟨h1,h2,λi hi=>?_⟩;have:=h3 i hi;split at this
 ·rename_i e1 e2;obtain⟨q1,q2,q3,_⟩:=this;rw[e1,e2];exact⟨q1,.inl q2,q3⟩
 ·rename_i e1 e2;rw[e1,e2]
  rcases this with h|⟨rfl,rfl⟩
  ·exact h.elim
  ·rfl
 ·rename_i x y h4 h5;rw[this];split
  ·rename_i e1 e2;rw[e1]at e2;cases e2;exact⟨rfl,.inl rfl,rfl⟩
  ·rfl
theorem dF.refl (w:World):dF w w:=.ET (World.keptBut_refl _ _)
theorem dF.trans {a b c:World} (h:dF a b) (g:dF b c):dF a c:=by
 obtain⟨h1,h2,h3⟩:=h;obtain⟨g1,g2,g3⟩:=g;refine⟨g1.trans h1,g2.trans h2,λi hi=>?_⟩;have p:=h3 i hi
 have hib:i<b.heap.size:=by
  cases ha:a.heap[i]? with
  |none=>rw[XR hi]at ha;exact nomatch ha
  |some x=>
   cases hb:b.heap[i]? with
   |none=>rw[ha,hb]at p;cases x<;>exact nomatch p
   |some y=>exact(XW.1 hb).1
 have q:=g3 i hib;split at p
 ·rename_i c1 t1 f1 c2 t2 f2 e1 e2;rw[e2]at q;rw[e1];split at q
  ·rename_i c3 t3 f3 c4 t4 f4 e3 e4;cases e3;rw[e4];obtain⟨rfl,p2,p3⟩:=p;obtain⟨rfl,q2,q3⟩:=q;refine⟨rfl,?_,q3.trans p3⟩
   rcases p2 with rfl|p2
   ·rcases q2 with rfl|q2
    ·exact .inl rfl
    ·exact .inr (by omega)
   ·exact .inr p2
  ·rename_i x y h4 h5;rw[q];exact p
 ·rename_i x y h4;rw[p]at q;exact q
theorem dF.alloc (w:World) (cs:Array Value) (e:TypeId):dF w (w.alloc (.cells cs e)):=.ET (World.keptBut_alloc _ _ _)
theorem dF.setCells (w:World) (b o:Nat) (l:List Value):dF w (w.setCells b o l):=.ET (World.keptBut_setCells b l o w λ_ _=>trivial)
theorem dF.drew (w:World):dF w w.drew:=.ET (World.keptBut_refl w _)
structure c7 (H H':aM) (T:Kil) (pl pl':Pl) (w w':World):Prop where
 hr:cY H' pl' w'
 kp:lM T w H pl w' H' pl'
 bs:pl'.base=pl.base
 gr:dF w w'
 fr:∀p u,w.at? p=some u->(∀i B,look H i=some B->¬pl.fp i p)->(∀i B,look H' i=some B->¬pl'.fp i p)/\w'.at? p=some u/\w'.eK p=w.eK p
class Glo where
 gc:Nat->Option (Array Value)
def GlobW [Glo] (w:World) (fp:Cell->Prop):Prop:=∀g cs,Glo.gc g=some cs->(∃t fr,w.heap[g]? =some (.cells cs t fr))/\∀j,j<cs.size->¬fp (g,j)
def Sr [Glo] (w:World) (H:aM) (pl:Pl):Prop:=GlobW w λp=>∃i B,look H i=some B/\pl.fp i p
theorem GlobW.at_ [Glo] {w:World} {fp:Cell->Prop} (h:GlobW w fp) {g:Nat} {cs:Array Value} (hg:Glo.gc g=some cs) {j:Nat} (hj:j<cs.size):w.at? (g,j)=some cs[j]:=by
 obtain⟨⟨t,fr,ht⟩,_⟩:=h g cs hg;unfold World.at? World.cell?;simp[ht,hj]
theorem GlobW.bJ [Glo] {w w':World} {fp fp':Cell->Prop} (h:GlobW w fp) (hg:dF w w') (hf:∀p u,w.at? p=some u->¬fp p->¬fp' p/\w'.at? p=some u):GlobW w' fp':=by
 intro g cs hgc;have hat:=λj (hj:j<cs.size)=>h.at_ hgc hj;obtain⟨⟨t,fr,ht⟩,hno⟩:=h g cs hgc;refine⟨?_,λj hj=>(hf _ _ (hat j hj) (hno j hj)).1⟩;have hq:=hg.2.2 g (XW.1 ht).1;rw[ht]at hq
 cases hw:w'.heap[g]? with
 |none=>rw[hw]at hq;exact nomatch hq
 |some o=>
  rw[hw]at hq
  cases o with
  |cells c' t' fr'=>
   obtain⟨_,_,hs⟩:=hq;refine⟨t',fr',?_⟩
   have:c'=cs:=by
    refine Array.ext hs λj h1 h2=>?_;have:=(hf _ _ (hat j h2) (hno j h2)).2;unfold World.at? World.cell? at this;simp[hw,h1]at this;exact this
   rw[this]
  |_=>exact nomatch hq
structure G0 where
 fp:Cell->Prop
 h:Nat->Value
 b:Nat->Blk
 d:List Deferred
theorem Blk.fo {a b c:Blk} (h:a.nt b) (g:b.nt c):a.nt c:=by
 cases a<;>cases b<;>cases c<;>simp_all [Blk.nt]
def Told (g:G0) (gh:List (Option Nat)) (nid:Nat) (H:aM) (pl:Pl):Prop:=
 ∀(k i:Nat),gh[k]? =some (some i)->i<nid/\∀B,look H i=some B->pl.hdr i=g.h k/\(g.b k).nt B
structure Rel [Glo] (w0:World) (fp0:G0) (st:St) (pl:Pl) (a:Act) (w:World):Prop where
 hr:cY st.heap pl w
 sl:gT w st.heap pl st.cJ a
 sz:a.tmps.size=st.n
 df:a.defers=fp0.d/\GlobW w0 fp0.fp
 fresh:∀i,st.nid<=i->look st.heap i=none
 gr:dF w0 w
 fr:∀p u,w0.at? p=some u->¬fp0.fp p->(∀i B,look st.heap i=some B->¬pl.fp i p)/\w.at? p=some u/\w.eK p=w0.eK p
 gk:Told fp0 st.gh st.nid st.heap pl
theorem gT.put {w:World} {H:aM} {pl:Pl} {s s':List (Nat× SV)} {a:Act} {n:Nat} {dst:Option Tmp} {v:SV} {u:Value}
  (hs:gT w H pl s a) (hn:a.tmps.size=n) (hp:UF s n dst v=some s') (hv:ar w H pl v u):gT w H pl s' (a.put dst u):=by
 cases dst with
 |none=>cases hp;exact hs
 |some d=>
  simp only[UF]at hp;cases hd:Nat.ble (d+1) n<;>simp only[hd,cond_true,cond_false,It]at hp
  ·exact nomatch hp
  ·subst hp;have hd:d+1<=n:=XT hd;intro t x hx;rw[fj]at hx;by_cases e:d=t
   ·subst e;simp only[if_true,It]at hx;subst hx;simp only[Act.put,X4,Array.getElem?_setIfInBounds_self_of_lt (show d<a.tmps.size by rw[hn];exact hd),YP];exact hv
   ·rw[if_neg e]at hx;simp only[Act.put,X4,Array.getElem?_setIfInBounds_ne e];have:=hs t x hx;simpa only[X4]using this
theorem Act.EU (a:Act) (dst:Option Tmp) (v:Value):(a.put dst v).tmps.size=a.tmps.size:=by
 cases dst<;>simp[Act.put]
theorem Act.Oj (a:Act) (dst:Option Tmp) (v:Value):(a.put dst v).defers=a.defers:=by
 cases dst<;>rfl
theorem c9 {T:Kil} (hT:∀i,mem i T.1=true->mem i T.2=true) {h h':aM} (e:jg T h=some h') (i:Nat):
  look h' i=cond (mem i T.1) none ((look h i).bind (Blk.aP T)):=by
 unfold jg at e;split at e
 ·rename_i hn;cases e;have:=Jj hn hT;subst this;simp only[mem,cond_false]
  cases look h i with
  |none=>rfl
  |some B=>cases B with
   |box cs=>simp[Blk.aP,jX]
   |arr sh t xs=>cases sh<;>simp[Blk.aP,EJ]
 ·exact(AA _ _ _ e i).1
theorem dy {T:Kil} (hT:∀i,mem i T.1=true->mem i T.2=true) (s:List (Nat× SV)) (t:Nat):look (pO T s) t=(look s t).map (SV.aP T):=by
 unfold pO;split
 ·rename_i hn;have:=Jj hn hT;subst this
  cases look s t with
  |none=>rfl
  |some v=>simp[dC]
 ·exact Ji _ _ _
theorem gT.bJ {T:Kil} (hT:∀i,mem i T.1=true->mem i T.2=true) {w w':World} {H H':aM} {pl pl':Pl} {s:List (Nat× SV)} {a:Act} (hs:gT w H pl s a) (hk:lM T w H pl w' H' pl'):
  gT w' H' pl' (pO T s) a:=by
 intro t v hv;rw[dy hT]at hv;obtain⟨x,hx,rfl⟩:=XK.1 hv;exact(hs t x hx).bJ hk
theorem Told.step {g:G0} {gh:List (Option Nat)} {nid CY:Nat} {H H':aM} {T:Kil} {pl pl':Pl} {w w':World} (h:Told g gh nid H pl) (hk:lM T w H pl w' H' pl') (hn:nid<=CY)
  (hb:∀(k i:Nat) (B:Blk),gh[k]? =some (some i)->look H' i=some B->mem i T.1=false/\∃B',look H i=some B'):Told g gh CY H' pl':=λk i hi=>by
 obtain⟨h1,h2⟩:=h k i hi;refine⟨by omega,λB hB=>?_⟩;obtain⟨q1,B0,q2⟩:=hb k i B hi hB;obtain⟨B',q3,q4,q5⟩:=hk.k1 i B0 q2 q1;rw[hB]at q3;cases q3;obtain⟨q6,q7⟩:=h2 B0 q2;exact⟨q5.trans q6,Blk.fo q7 q4⟩
theorem Rel.WO [Glo] {w0:World} {fp0:G0} {st:St} {pl:Pl} {a:Act} {w:World} (h:Rel w0 fp0 st pl a w):Sr w st.heap pl:=
 h.df.2.bJ h.gr λp u hp hno=>⟨λ⟨i,B,hB,hf⟩=>(h.fr p u hp hno).1 i B hB hf,(h.fr p u hp hno).2.1⟩
theorem Rel.take [Glo] {w0:World} {fp0:G0} {st st':St} {pl pl':Pl} {a:Act} {w w':World} {c:CR} {dst:Option Tmp} {u:Value}
  (h:Rel w0 fp0 st pl a w) (ht:st.take dst c=some st') (hup:∀i B,look c.upd i=some B->∃B',look st.heap i=some B')
  (hs:c7 st.heap st'.heap c.kil pl pl' w w') (hv:ar w' st'.heap pl' c.v u):Rel w0 fp0 st' pl' (a.put dst u) w':=by
 simp only[St.take,An,It]at ht;obtain⟨h1,e1,s,h2,rfl⟩:=ht
 have hin:∀i B,look c.upd.reverse i=some B->∃B',look st.heap i=some B':=λi B hq=>by
  have:∃B,look c.upd i=some B:=by
   clear hs hv h2 e1 hup;generalize c.upd=l at hq
   induction l with
   |nil=>simp[look]at hq
   |cons x l ih=>
    obtain⟨k,b⟩:=x;rw[aC];by_cases e:k=i
    ·exact⟨b,by simp[e]⟩
    ·rw[if_neg e];rw[List.reverse_cons,aJ,aC,if_neg e]at hq;simp only[look,YG]at hq;exact ih hq
  obtain⟨B,hB⟩:=this;exact hup i B hB
 have W9:∀i,st.nid<=i->look (tI c.upd st.heap) i=none:=λi hi=>by
  rw[GD];have h0:=h.fresh i hi
  cases hq:look c.upd.reverse i with
  |none=>exact h0
  |some B=>
   obtain⟨B',hB'⟩:=hin i B hq;rw[h0]at hB';exact nomatch hB'
 refine⟨hs.hr,?_,by rw[Act.EU];exact h.sz,⟨by rw[Act.Oj,h.df.1],h.df.2⟩,λi hi=>?_,h.gr.trans hs.gr,λp u hp hn=>?_,h.gk.step hs.kp (by simp) λk i B hki hB=>?_⟩
 ·exact gT.put (n:=st.n) (h.sl.bJ c.gx hs.kp) h.sz h2 hv
 ·have hi:st.nid+c.news.length<=i:=hi;show look (h1++aN st.nid c.news) i=none;rw[aJ,c9 c.gx e1 i,W9 i (by omega),bG,if_pos (by omega),Yb (by omega)];cases mem i c.kil.1<;>rfl
 ·obtain⟨g1,g2,g3⟩:=h.fr p u hp hn;obtain⟨f1,f2,f3⟩:=hs.fr p u g2 g1;exact⟨f1,f2,f3.trans g3⟩
 ·have hi:i<st.nid:=(h.gk k i hki).1;have hB:look (h1++aN st.nid c.news) i=some B:=hB;rw[aJ,bG,if_neg (by omega),YG,c9 c.gx e1 i]at hB;cases hm:mem i c.kil.1<;>simp only[hm,cond_true,cond_false]at hB
  ·refine⟨rfl,?_⟩;obtain⟨B1,hB1,_⟩:=An.1 hB;rw[GD]at hB1
   cases hq:look c.upd.reverse i with
   |none=>rw[hq]at hB1;exact⟨B1,by simpa using hB1⟩
   |some B2=>exact(hin i B2 hq).imp λB' h=>h
  ·exact nomatch hB
theorem c7.refl {H:aM} {pl:Pl} {w:World} (h:cY H pl w):c7 H H ([],[]) pl pl w w:=
 ⟨h,⟨λi B hB _=>⟨B,hB,B.dB,rfl⟩,λd p u _ h hp=>⟨h,hp⟩⟩,rfl,dF.refl w,λp u hp h=>⟨h,hp,rfl⟩⟩
theorem eL.bJ {T:Kil} {w w':World} {H H':aM} {pl pl':Pl} {i:Nat} {B B':Blk} (hk:lM T w H pl w' H' pl')
  (hh:pl'.hdr i=pl.hdr i) (hf:∀p,pl'.fp i p↔pl.fp i p) (hc:∀p u,pl.fp i p->w.at? p=some u->w'.at? p=some u/\w'.eK p=w.eK p)
  (h:eL w H pl i B) (hs:B.aP T=some B'):eL w' H' pl' i B':=by
 cases B with
 |box cs=>
  cases hs;obtain⟨b,o,h1,h2,h3⟩:=h;refine⟨b,o,hh.trans h1,λp=>by rw[hf,h2,gS],λj v hv=>?_⟩;rw[oZ]at hv;obtain⟨x,hx,rfl⟩:=XK.1 hv;obtain⟨u,g1,g2,g3,g4⟩:=h3 j x hx;have hp:pl.fp i (b,o+j):=(h2 _).2 ⟨rfl,by simp,by have:=(Of.1 hx).1;simp;omega⟩;obtain⟨e1,e2⟩:=hc _ _ hp g1
  exact⟨u,e1,by rw[e2];exact g2,g3,g4.bJ hk⟩
 |arr sh t xs=>
  cases sh with
  |none=>
   cases hs;obtain⟨R⟩:=h;have:=R.VM.frame hc;obtain⟨R'⟩:=this.row;rw[<-hh]at R';obtain⟨a,cap,b,o,vs,fs,q1,q2,q3,q4,q5,q6,q7,q8,q9⟩:=R'
   exact⟨⟨a,cap,b,o,vs,fs,q1,q2,q3,q4,q5,q6,q7,q8,λp=>(hf p).trans (q9 p)⟩⟩
  |some d=>
   simp only[Blk.aP]at hs;cases hd:hit T.2 d<;>simp only[hd,cond_true,cond_false,It]at hs
   ·subst hs;obtain⟨⟨a,cap,b,o,vs,fs,q1,q2,q3,q4,q5,q6,q7,q8,q9⟩⟩:=h;have hin:∀p,reg b o (cap*t.sz) p->pl.fp i p:=λp hp=>(q9 p).2 (.inl hp);refine⟨⟨a,cap,b,o,vs,fs,hh.trans q1,q2,q3,λj hj=>?_,λx j r hr=>?_,λx j r hr=>⟨?_,(q6 x j r hr).2⟩,q7,q8,λp=>(hf p).trans (q9 p)⟩⟩
    ·obtain⟨⟨v,hv⟩,hi⟩:=q4 j hj;obtain⟨e1,e2⟩:=hc _ _ (hin _ ⟨rfl,by simp,by simp;omega⟩) hv;exact⟨⟨v,e1⟩,by rw[e2];exact hi⟩
    ·have:=rh (aO hr).1 (aO hr).2 q2;exact(hc _ _ (hin _ ⟨rfl,by simp,by simp;omega⟩) (q5 x j r hr)).1
    ·exact(q6 x j r hr).1.frame λp u hp hu=>hk.k2 d p u (fX T.2 d hd) hp hu
   ·exact nomatch hs
def Pl.set (pl:Pl) (i:Nat) (hdr:Value) (fp:Cell->Prop):Pl:=⟨λj=>if j=i then hdr else pl.hdr j,λj=>if j=i then fp else pl.fp j,pl.base⟩
theorem Blk.dC (B:Blk):B.aP ([],[])=some B:=by
 cases B with
 |box cs=>simp[Blk.aP,jX]
 |arr sh t xs=>cases sh<;>simp[Blk.aP,EJ]
theorem cY.gy {H:aM} {pl:Pl} {w:World} (hr:cY H pl w):∀i B' p,look H i=some B'->pl.fp i p->∃u,w.at? p=some u:=λi B' p h hp=>by
 have:=hr.blk i B' h
 cases B' with
 |box cs=>
  obtain⟨b,o,_,h2,h3⟩:=this;obtain⟨q1,q2,q3⟩:=(h2 p).1 hp
  have hlt:p.2-o<cs.length:=by omega
  obtain⟨u,hu,_⟩:=h3 (p.2-o) _ (So hlt)
  exact⟨u,by rw[<-hu];congr 1;ext<;>simp<;>omega⟩
 |arr sh t xs=>
  cases sh with
  |none=>obtain⟨R⟩:=this;exact R.VM.there p hp
  |some d=>
   obtain⟨R⟩:=this
   rcases(R.hfp p).1 hp with⟨q1,q2,q3⟩|⟨x,j,r,hx,hf⟩
   ·obtain⟨⟨u,hu⟩,_⟩:=R.lC (p.2-R.o) (by omega);exact⟨u,by rw[<-hu];congr 1;ext<;>simp<;>omega⟩
   ·exact((R.hr x j r hx).2 p hf).elim
theorem K5 {H:aM} {pl:Pl} {w w':World} {n:Nat} {B:Blk} {hdr:Value} {fp:Cell->Prop} (hr:cY H pl w) (hn:look H n=none)
  (hg:dF w w') (hold:∀p u,w.at? p=some u->w'.at? p=some u/\w'.eK p=w.eK p) (hfp:∀p,fp p->w.at? p=none)
  (hB:lM ([],[]) w H pl w' (H++[(n,B)]) (pl.set n hdr fp)->eL w' (H++[(n,B)]) (pl.set n hdr fp) n B):
  c7 H (H++[(n,B)]) ([],[]) pl (pl.set n hdr fp) w w':=by
 have hne:∀i B',look H i=some B'->i≠n:=λi B' h e=>by subst e;rw[hn]at h;exact nomatch h
 have Mx:∀i B',look (H++[(n,B)]) i=some B'->(i=n/\B'=B)\/(i≠n/\look H i=some B'):=λi B' h=>by
  rw[aJ,aC]at h;by_cases e:n=i
  ·subst e;rw[hn]at h;simp at h;exact .inl ⟨rfl,h.symm⟩
  ·rw[if_neg e]at h;simp[look]at h;exact .inr ⟨λh=>e h.symm,h⟩
 have hown:=hr.gy
 have tE:lM ([],[]) w H pl w' (H++[(n,B)]) (pl.set n hdr fp):=by
  refine⟨λi B' hB' _=>⟨B',?_,B'.dB,if_neg (hne i B' hB')⟩,λd p u _ h hp=>⟨⟨h.1,λi B' hB' hm hf=>?_⟩,(hold p u hp).1⟩⟩
  ·rw[aJ,hB'];rfl
  ·rcases Mx i B' hB' with⟨rfl,rfl⟩|⟨hi,hB''⟩
   ·simp only[Pl.set,if_true]at hf;rw[hfp p hf]at hp;exact nomatch hp
   ·simp only[Pl.set,if_neg hi]at hf;exact h.2 i B' hB'' hm hf
 refine⟨⟨λi B' hB'=>?_,λi j B1 B2 p h1 h2 f1 f2=>?_,λi B' p hB' hf=>?_,λp hp=>?_⟩,tE,rfl,hg,λp u hp h=>⟨λi B' hB' hf=>?_,hold p u hp⟩⟩
 ·rcases Mx i B' hB' with⟨rfl,rfl⟩|⟨hi,hB''⟩
  ·exact hB tE
  ·exact(hr.blk i B' hB'').bJ tE (if_neg hi) (λp=>by simp[Pl.set,hi]) (λp u _ hu=>hold p u hu) B'.dC
 ·rcases Mx i B1 h1 with⟨rfl,rfl⟩|⟨hi,q1⟩<;>rcases Mx j B2 h2 with⟨rfl,rfl⟩|⟨hj,q2⟩
  ·rfl
  ·simp only[Pl.set,if_true,if_neg hj]at f1 f2;obtain⟨u,hu⟩:=hown _ _ _ q2 f2;rw[hfp p f1]at hu;exact nomatch hu
  ·simp only[Pl.set,if_true,if_neg hi]at f1 f2;obtain⟨u,hu⟩:=hown _ _ _ q1 f1;rw[hfp p f2]at hu;exact nomatch hu
  ·simp only[Pl.set,if_neg hi,if_neg hj]at f1 f2;exact hr.dis i j B1 B2 p q1 q2 f1 f2
 ·rcases Mx i B' hB' with⟨rfl,rfl⟩|⟨hi,hB''⟩
  ·simp only[Pl.set,if_true]at hf;exact hr.nb p (hfp p hf)
  ·simp only[Pl.set,if_neg hi]at hf;exact hr.ob i B' p hB'' hf
 ·refine hr.nb p ?_
  cases hq:w.at? p with
  |none=>rfl
  |some u=>rw[(hold p u hq).1]at hp;exact nomatch hp
 ·rcases Mx i B' hB' with⟨rfl,rfl⟩|⟨hi,hB''⟩
  ·simp only[Pl.set,if_true]at hf;rw[hfp p hf]at hp;exact nomatch hp
  ·simp only[Pl.set,if_neg hi]at hf;exact h i B' hB'' hf
end
section
variable [Tok]
theorem Ol {st st':St} {dst:Option Tmp} {c:CR} (h:st.take dst c=some st'):after st.heap st.nid c=some st'.heap:=by
 simp only[St.take,An,It]at h;obtain⟨h1,e1,s,h2,rfl⟩:=h;simp only[after,e1,XC]
def kK (P:Program) (o:Oper) (a:Act) (w:World) (H:aM) (pl:Pl) (nid:Nat) (c:CR):Prop:=
 (∀i B,look c.upd i=some B->∃B',look H i=some B')/\
 ∀(H':aM) (next:Act->World->Prop) (Q:Exit->Act->World->Prop),after H nid c=some H'->
  (∀u pl' w',c7 H H' c.kil pl pl' w w'->ar w' H' pl' c.v u->next (a.put o.dst u) w')->o.wp P a w next Q
section
variable {w:World} {H:aM} {pl:Pl} {P:Program}
def push (w:World) (cs:Array Value) (T:TypeId):World:={w with heap:=w.heap.push (.cells cs T (0,0))}
theorem QU (cs:Array Value) (T:TypeId) (p:Cell) (u:Value) (h:w.at? p=some u):(push w cs T).at? p=some u/\(push w cs T).eK p=w.eK p:=by
 obtain⟨b,o⟩:=p
 have hb:b<w.heap.size:=by
  unfold World.at? World.cell? at h
  cases hh:w.heap[b]? with
  |none=>simp[hh]at h
  |some x=>exact(XW.1 hh).1
 have he:(push w cs T).heap[b]? =w.heap[b]? :=by
  show(w.heap.push _)[b]? =_;rw[Array.getElem?_push,if_neg (Nat.ne_of_lt hb)]
 unfold World.at? World.eK World.cell? at*;simp only[he,and_true];exact h
theorem K6 (cs:Array Value) (T:TypeId) (j:Nat):(push w cs T).at? (w.heap.size,j)=cs[j]? /\(push w cs T).eK (w.heap.size,j)=(0,0,cs.size)/\w.at? (w.heap.size,j)=none:=by
 unfold World.at? World.eK World.cell? push;refine⟨by simp,by simp,by simp⟩
theorem Dw (T:TypeId) (cs:Array Value):(newRow T cs).run P w=.ok ⟨w.heap.size,0,none⟩ (push w cs T):=by
 simp[newRow,push]
theorem EV (hr:cY H pl w) {n:Nat} (hn:look H n=none) {cs:List SV} {us:Array Value} (hc:Mu w H pl cs us) (T:TypeId):
  ∃pl',c7 H (H++[(n,.box cs)]) ([],[]) pl pl' w (push w us T)/\pl'.hdr n=.pointer (some ⟨w.heap.size,0,none⟩):=by
 refine⟨_,K5 (hdr:=.pointer (some ⟨w.heap.size,0,none⟩)) (fp:=reg w.heap.size 0 cs.length) hr hn (dF.alloc w us T) (QU us T) (λp hp=>?_) (λhk=>?_),by simp[Pl.set]⟩
 ·obtain⟨p1,p2⟩:=p;obtain⟨h1,_,_⟩:=hp;have h1:p1=w.heap.size:=h1;subst h1;exact(K6 us T p2).2.2
 ·refine⟨w.heap.size,0,by simp[Pl.set],λp=>by simp[Pl.set],λj v hv=>?_⟩
  have hj:j<us.size:=by have:=(Of.1 hv).1;rw[hc.hl]at this;exact this
  have hg:us[j]? =some us[j]:=XR hj;obtain⟨q1,q2,_⟩:=K6 (w:=w) us T j;refine⟨us[j],by rw[XN,q1,hg],by rw[XN,q2];rfl,hc.h1 _ _ hg,(hc.h _ _ _ hv hg).zt hk⟩
theorem mK {o:Oper} {a:Act} {next:Act->World->Prop} {Q:Exit->Act->World->Prop} {u:Value} {w':World}
  (h:(execOp a.eval o).run P w=.ok (.value u) w') (hn:next (a.put o.dst u) w'):o.wp P a w next Q:=by
 unfold Oper.wp;rw[h];exact hn
theorem Om {o:Oper} {a:Act} {T:TypeId} {n:Nat} {z:List SV} (hr:cY H pl w) (hn:look H n=none) (ho:o.op=.alloc T) (hz:gv P T=some z):
  kK P o a w H pl n {v:=.ptr n 0 0,news:=[.box z]}:=by
 refine⟨λi B h=>by simp[look]at h,λH' next Q ha hN=>?_⟩;cases ha;obtain⟨u,hu,hc⟩:=wT (P:=P) hr hz;obtain⟨pl',hs,hh⟩:=EV hr hn hc T;refine mK (u:=.pointer (some ⟨w.heap.size,0,none⟩)) (w':=push w u.cells T) ?_ (hN _ pl' _ hs ?_)
 ·rw[execOp,ho];simp[Instr.alloc,hu,newVar,Dw]
 ·have:=ar.wQ (w:=push w u.cells T) (H:=H++[(n,.box z)]) (pl:=pl') n 0 z w.heap.size 0 (by rw[aJ,hn,aC];simp) hh;exact this
theorem Ta {o:Oper} {a:Act} {T:TypeId} {x:Operand} {n:Nat} {v:SV} {cs:List SV} (hr:cY H pl w) (hn:look H n=none) (ho:o.op=.box T x) (hv:ar w H pl v (a.eval x)) (hz:v.cells=some cs):
  kK P o a w H pl n {v:=.ptr n 0 0,news:=[.box cs]}:=by
 refine⟨λi B h=>by simp[look]at h,λH' next Q ha hN=>?_⟩;cases ha;have hc:=hv.cells hz hr;obtain⟨pl',hs,hh⟩:=EV hr hn hc T;refine mK (u:=.pointer (some ⟨w.heap.size,0,none⟩)) (w':=push w (a.eval x).cells T) ?_ (hN _ pl' _ hs ?_)
 ·rw[execOp,ho];simp[Instr.box,newVar,Dw]
 ·have:=ar.wQ (w:=push w (a.eval x).cells T) (H:=H++[(n,.box cs)]) (pl:=pl') n 0 cs w.heap.size 0 (by rw[aJ,hn,aC];simp) hh;exact this
theorem o4 {o:Oper} {a:Act} {n:Nat} {v:SV} {u:Value} (hr:cY H pl w) (h:(execOp a.eval o).run P w=.ok (.value u) w) (hv:ar w H pl v u):kK P o a w H pl n {v:=v}:=by
 refine⟨λi B h=>by simp[look]at h,λH' next Q ha hN=>?_⟩;cases ha
 have hH:tI [] H++aN n []=H:=by simp[tI,aN]
 simp only[hH]at hN;exact mK h (hN u pl w (c7.refl hr) hv)
theorem Oo {o:Oper} {a:Act} {T:TypeId} {p x:Operand} {n i k sz:Nat} {v:SV} {cs cs' xs:List SV} (hr:cY H pl w) (ho:o.op=.store T p x) (hl:look H i=some (.box cs))
    (hp:ar w H pl (.ptr i 0 k) (a.eval p)) (hv:ar w H pl v (a.eval x)) (hz:v.cells=some xs) (hT:jh P T=some sz) (hsz:sz=xs.length) (hs:setCells cs k xs=some cs'):
    kK P o a w H pl n {v:=.undef,upd:=[(i,.box cs')]}:=by
  refine⟨λj B h=>?_,λH' next Q ha hN=>?_⟩
  · rw[aC]at h;by_cases e:i=j
    · subst e;exact⟨_,hl⟩
    · rw[if_neg e]at h;simp[look]at h
  have hc:=hv.cells hz hr;simp only[jh,An,It]at hT;obtain⟨ti,hti,rfl⟩:=hT;unfold setCells at hs;cases hb:Nat.ble (k+xs.length) cs.length<;>simp only[hb,cond_true,cond_false,It]at hs
  · exact nomatch hs
  have hb:=XT hb;subst hs;obtain⟨b,o',h1,h2,h3⟩:=hr.blk i _ hl
  have hpe:a.eval p=.pointer (some ⟨b,o'+k,none⟩):=by
    generalize a.eval p=up at hp
    cases hp with
    |wQ _ _ cs'' b2 k2 hl2 hh2=>rw[h1]at hh2;cases hh2;rfl
    |uQ _ _ _ sh t ys b2 k2 m cap hl2 hx hh2=>rw[h1]at hh2;exact nomatch hh2
  have hlen:(a.eval x).cells.toList.length=xs.length:=by simp[hc.hl]
  have hcell:∀j,j<xs.length->∃u,w.at? (b,o'+k+j)=some u/\calm (w.eK (b,o'+k+j))=true:=λj hj=>by
    obtain⟨u,q1,q2,_⟩:=h3 (k+j) _ (So (show k+j<cs.length by omega));rw[Yz];exact⟨u,q1,q2⟩
  have lG:(execOp a.eval o).run P w=.ok .skip (w.setCells b (o'+k) (a.eval x).cells.toList):=by
    have hst:=run_storeCells_cells (P:=P) b (o'+k) (a.eval x).cells.toList 0 w (λj hj=>by
        obtain⟨u,q1,_⟩:=hcell j (by omega);simp only[Yd];have q1:w.cell? ⟨b,o'+k+j,none⟩=some u:=q1
        rw[q1];rfl) (λj hj=>by
        obtain⟨u,q1,q2⟩:=hcell j (by omega)
        simp only[Yd];exact mJ q1 q2) (λu hu=>by
        obtain⟨j,hj⟩:=Yw hu;have:=hc.h1 j u (by simpa using hj)
        cases u<;>simp_all [one,Value.oneCell'])
    have hsz2:(a.eval x).cells.size=ti.size:=by rw[<-hc.hl];exact hsz.symm
    rw[execOp,ho];simp only[Instr.storeAt,hpe,Instr.sureAddr,storeVar,Sem.run_bind,Sem.run_pure,Result.andThen_ok,ey hti,hsz2,ne_eq,not_true,if_false,Sem.run_ite];simp only[Yd]at hst;simp[hst]
  have lC:∀q,pl.fp i q↔reg b o' cs.length q:=h2
  have hlk:∀j B,look H' j=some B->(j=i/\B=.box (cs.take k++xs++cs.drop (k+xs.length)))\/(j≠i/\look H j=some B):=λj B hB=>by
    cases ha;simp only[tI,aN,XY,fj]at hB;by_cases e:i=j
    · subst e;simp only[if_true,It]at hB;exact .inl ⟨rfl,hB.symm⟩
    · rw[if_neg e]at hB;exact .inr ⟨λh=>e h.symm,hB⟩
  have hlk2:∀j B,look H j=some B->∃B',look H' j=some B'/\B.nt B'/\(j≠i->B'=B):=λj B hB=>by
    cases ha;simp only[tI,aN,XY,fj];by_cases e:i=j
    · subst e;rw[hl]at hB;cases hB;exact⟨_,by simp;rfl,by simp[Blk.nt];omega,λh=>(h rfl).elim⟩
    · rw[if_neg e];exact⟨B,hB,B.dB,λ_=>rfl⟩
  have zv:∀q u,w.at? q=some u->¬(q.1=b/\o'+k<=q.2/\q.2<o'+k+xs.length)->(w.setCells b (o'+k) (a.eval x).cells.toList).at? q=some u:=λq u hq hn'=>by
    unfold World.at? at*;rw[World.cell?_setCells_out b _ _ w _ (λe1 _=>by simp at e1;rw[hlen];simp;omega)];exact hq
  have EW:∀q,(w.setCells b (o'+k) (a.eval x).cells.toList).eK q=w.eK q:=λq=>gR _ _ _ _ _
  have tE:lM ([],[]) w H pl (w.setCells b (o'+k) (a.eval x).cells.toList) H' pl:=by
    refine⟨λj B hB _=>?_,λd q u _ hok hq=>⟨⟨hok.1,λj B hB hm hf=>?_⟩,zv q u hq λhin=>?_⟩⟩
    · obtain⟨B',e1,e2,_⟩:=hlk2 j B hB;exact⟨B',e1,e2,rfl⟩
    · rcases hlk j B hB with⟨rfl,rfl⟩|⟨_,hB'⟩
      · exact hok.2 j _ hl (λ_=>rfl) hf
      · exact hok.2 j B hB' hm hf
    · exact hok.2 i _ hl (λ_=>rfl) ((lC q).2 ⟨hin.1,by omega,by omega⟩)
  have uZ:c7 H H' ([],[]) pl pl w (w.setCells b (o'+k) (a.eval x).cells.toList):=by
    refine⟨⟨λj B hB=>?_,λj j' B B' q e1 e2 f1 f2=>?_,λj B q hB hf=>?_,λq hq=>hr.nb q ?_⟩,tE,rfl,dF.setCells _ _ _ _,λq u hq hno=>⟨λj B hB hf=>?_,zv q u hq λhin=>?_,EW q⟩⟩
    · rcases hlk j B hB with⟨rfl,rfl⟩|⟨hj,hB'⟩
      · refine ⟨b, o', h1, λ q => by rw [lC]; simp [reg]; omega, λ m v' hv' => ?_⟩
        have hto:(cs.take k).length=k:=by simp;omega
        by_cases c1:m<k\/k+xs.length<=m
        · have hv'':cs[m]? =some v':=by
            rcases c1 with c1|c1
            · rwa [XP,XQ (by omega),Yh,if_pos c1]at hv'
            · rwa [XP,XL (by omega),XL (by omega),XU,hto,
                show k+xs.length+(m-k-xs.length)=m from by omega]at hv'
          obtain⟨u,q1,q2,q3,q4⟩:=h3 m v' hv'';exact⟨u,zv _ _ q1 (by simp;omega),by rw[EW];exact q2,q3,q4.zt tE⟩
        · have hm:k<=m/\m<k+xs.length:=by omega
          rw[XP,XL (by omega),XQ (by omega),hto]at hv'
          have hlt:m-k<(a.eval x).cells.size:=by rw[<-hc.hl];omega
          have hg:(a.eval x).cells[m-k]? =some (a.eval x).cells[m-k]:=XR hlt;obtain⟨u0,_,q2,_⟩:=h3 m _ (So (show m<cs.length by omega));refine⟨(a.eval x).cells[m-k],?_,by rw[EW];exact q2,hc.h1 _ _ hg,(hc.h _ _ _ hv' hg).zt tE⟩
          have:=World.cell?_setCells_in b (a.eval x).cells.toList (o'+k) w (λj hj=>by
            obtain⟨u,q1,_⟩:=hcell j (by omega);have q1:w.cell? ⟨b,o'+k+j,none⟩=some u:=q1
            rw[q1];rfl) (m-k) (by simpa using hlt)
          rw[show o'+m=o'+k+(m-k)from by omega];simpa[World.at?]using this
      · refine(hr.blk j B hB').bJ tE rfl (λ_=>Z8) (λq u hf hq=>⟨zv q u hq λhin=>?_,EW q⟩) B.dC;exact hj (hr.dis j i _ _ q hB' hl hf ((lC q).2 ⟨hin.1,by omega,by omega⟩))
    · have g:∀m D,look H' m=some D->∃D',look H m=some D':=λm D hD=>by
        rcases hlk m D hD with⟨rfl,_⟩|⟨_,h⟩
        · exact⟨_,hl⟩
        · exact⟨_,h⟩
      obtain⟨D,hD⟩:=g j B e1;obtain⟨D',hD'⟩:=g j' B' e2;exact hr.dis j j' D D' q hD hD' f1 f2
    · rcases hlk j B hB with⟨rfl,_⟩|⟨_,hB'⟩
      · exact hr.ob j _ q hl hf
      · exact hr.ob j B q hB' hf
    · unfold World.at? at*;by_cases hin:q.1=b/\o'+k<=q.2/\q.2<o'+k+xs.length
      · have:=World.cell?_setCells_in b (a.eval x).cells.toList (o'+k) w (λj hj=>by
          obtain⟨u,q1,_⟩:=hcell j (by omega);have q1:w.cell? ⟨b,o'+k+j,none⟩=some u:=q1
          rw[q1];rfl) (q.2-(o'+k)) (by omega)
        obtain⟨q1,q2⟩:=q;obtain⟨e1,e2,e3⟩:=hin;simp only at e1 e2 e3 hq this;subst e1
        have e4:o'+k+(q2-(o'+k))=q2:=by omega
        simp only[e4,hq]at this;exact nomatch this
      · rwa [World.cell?_setCells_out b _ _ w _ (λe1 _=>by simp at e1;rw[hlen];simp;omega)]at hq
    · rcases hlk j B hB with⟨rfl,_⟩|⟨_,hB'⟩
      · exact hno j _ hl hf
      · exact hno j B hB' hf
    · exact hno i _ hl ((lC q).2 ⟨hin.1,by omega,by omega⟩)
  unfold Oper.wp;rw[lG];exact hN undef pl _ uZ (.undef _)
end
end
section
variable [Tok]
structure o5 (H H':aM) (T:Kil) (n:Nat) (B:Blk):Prop where
 UW:look H' n=some B
 fwd:∀k B0,look H k=some B0->mem k T.1=false->k≠n->∃B',B0.aP T=some B'/\look H' k=some B'
 bwd:∀k B',look H' k=some B'->k≠n->mem k T.1=false/\∃B0,look H k=some B0/\B0.aP T=some B'
section
variable {H H':aM} {T:Kil} {n:Nat} {B:Blk} {pl:Pl} {w w':World} {hdr:Value} {fp:Cell->Prop}
theorem Blk.gU {B B':Blk} {T:Kil} (h:B.aP T=some B'):B.nt B':=by
 cases B with
 |box cs=>cases h;simp[Blk.nt,gS]
 |arr sh t xs=>
  cases sh with
  |none=>cases h;simp[Blk.nt]
  |some d=>
   simp only[Blk.aP]at h;cases hd:hit T.2 d<;>simp only[hd,cond_true,cond_false,It]at h
   ·subst h;simp[Blk.nt]
   ·exact nomatch h
theorem Blk.kq {B B':Blk} (h:B.nt B'):B.lF=B'.lF:=by
 cases B<;>cases B'<;>first|rfl|exact h.elim
theorem My (hr:cY H pl w) (ht:o5 H H' T n B) (h1:∀i,mem i T.1=true->mem i T.2=true)
  (hn:look H n=none\/∃B0,look H n=some B0/\mem n T.2=true/\B0.nt B/\hdr=pl.hdr n)
  (hold:∀p u,w.at? p=some u->(∀i B,mem i T.2=true->look H i=some B->¬pl.fp i p)->w'.at? p=some u/\w'.eK p=w.eK p)
  (hfp:∀p,fp p->w.at? p=none\/∃i B,mem i T.2=true/\look H i=some B/\pl.fp i p):lM T w H pl w' H' (pl.set n hdr fp):=by
 refine⟨λi B0 hB hm=>?_,λd p u hd hok hu=>?_⟩
 ·by_cases e:i=n
  ·subst e
   rcases hn with hn|⟨B1,g1,g2,g3,g4⟩
   ·rw[hn]at hB;exact nomatch hB
   ·rw[g1]at hB;cases hB;exact⟨B,ht.UW,g3,by simp[Pl.set,g4]⟩
  ·obtain⟨B',g1,g2⟩:=ht.fwd i B0 hB hm e;exact⟨B',g2,Blk.gU g1,by simp[Pl.set,e]⟩
 ·have zv:∀i B,mem i T.2=true->look H i=some B->¬pl.fp i p:=λi B1 hi hB=>hok.2 i B1 hB λhm=>by rw[hd i hm]at hi;exact nomatch hi
  refine⟨⟨hok.1,λi B1 hB hm hf=>?_⟩,(hold p u hu zv).1⟩;by_cases e:i=n
  ·subst e;simp only[Pl.set,if_true]at hf
   rcases hfp p hf with h|⟨j,B2,g1,g2,g3⟩
   ·rw[h]at hu;exact nomatch hu
   ·exact zv j B2 g1 g2 g3
  ·simp only[Pl.set,if_neg e]at hf;obtain⟨_,B0,g1,g2⟩:=ht.bwd i B1 hB e;exact hok.2 i B0 g1 (λh=>(Blk.kq (Blk.gU g2)).trans (hm h)) hf
theorem kL (hg:dF w w') (hr:cY H pl w) (ht:o5 H H' T n B) (h1:∀i,mem i T.1=true->mem i T.2=true) (h2:∀i,mem i T.2=true->mem i T.1=true\/i=n)
  (hn:look H n=none\/∃B0,look H n=some B0/\mem n T.2=true/\B0.nt B/\hdr=pl.hdr n)
  (hold:∀p u,w.at? p=some u->(∀i B,mem i T.2=true->look H i=some B->¬pl.fp i p)->w'.at? p=some u/\w'.eK p=w.eK p)
  (Wa:∀p,w'.at? p=none->pl.base p)
  (hfp:∀p,fp p->w.at? p=none\/∃i B,mem i T.2=true/\look H i=some B/\pl.fp i p)
  (hB:lM T w H pl w' H' (pl.set n hdr fp)->eL w' H' (pl.set n hdr fp) n B):c7 H H' T pl (pl.set n hdr fp) w w':=by
 have hk:=My hr ht h1 hn hold hfp;have hown:=hr.gy
 have Ss:∀k B',look H' k=some B'->k≠n->∃B0,look H k=some B0/\B0.aP T=some B'/\∀i B,mem i T.2=true->look H i=some B->∀p,pl.fp k p->¬pl.fp i p:=λk B' hk' hne=>by
  obtain⟨g1,B0,g2,g3⟩:=ht.bwd k B' hk' hne;refine⟨B0,g2,g3,λi B1 hi hB1 p hp hf=>?_⟩;have:=hr.dis k i B0 B1 p g2 hB1 hp hf;subst this
  rcases h2 k hi with h|h
  ·rw[g1]at h;exact nomatch h
  ·exact hne h
 refine⟨⟨λk B' hB'=>?_,λi j B1 B2 p e1 e2 f1 f2=>?_,λi B1 p hB1 hf=>?_,Wa⟩,hk,rfl,hg,λp u hp hno=>⟨λi B1 hB1 hf=>?_,hold p u hp λi B _ hB=>hno i B hB⟩⟩
 ·by_cases e:k=n
  ·subst e;rw[ht.UW]at hB';cases hB';exact hB hk
  ·obtain⟨B0,g1,g2,g3⟩:=Ss k B' hB' e;exact(hr.blk k B0 g1).bJ hk (by simp[Pl.set,e]) (λp=>by simp[Pl.set,e]) (λp u hf hu=>hold p u hu λi B hi hB=>g3 i B hi hB p hf) g2
 ·have key:∀k B',look H' k=some B'->k≠n->(pl.set n hdr fp).fp k p->fp p->False:=λk B' hk' hne hf hfn=>by
   simp only[Pl.set,if_neg hne]at hf;obtain⟨B0,g1,g2,g3⟩:=Ss k B' hk' hne
   rcases hfp p hfn with h|⟨i,B3,q1,q2,q3⟩
   ·obtain⟨u,hu⟩:=hown k B0 p g1 hf;rw[h]at hu;exact nomatch hu
   ·exact g3 i B3 q1 q2 p hf q3
  by_cases ei:i=n<;>by_cases ej:j=n
  ·rw[ei,ej]
  ·subst ei;simp only[Pl.set,if_true]at f1;exact(key j B2 e2 ej f2 f1).elim
  ·subst ej;simp only[Pl.set,if_true]at f2;exact(key i B1 e1 ei f1 f2).elim
  ·simp only[Pl.set,if_neg ei]at f1;simp only[Pl.set,if_neg ej]at f2;obtain⟨_,C1,g1,_⟩:=ht.bwd i B1 e1 ei;obtain⟨_,C2,g2,_⟩:=ht.bwd j B2 e2 ej;exact hr.dis i j C1 C2 p g1 g2 f1 f2
 ·by_cases e:i=n
  ·subst e;simp only[Pl.set,if_true]at hf
   rcases hfp p hf with h|⟨j,B2,q1,q2,q3⟩
   ·exact hr.nb p h
   ·exact hr.ob j B2 p q2 q3
  ·simp only[Pl.set,if_neg e]at hf;obtain⟨_,C1,g1,_⟩:=ht.bwd i B1 hB1 e;exact hr.ob i C1 p g1 hf
 ·by_cases e:i=n
  ·subst e;simp only[Pl.set,if_true]at hf
   rcases hfp p hf with h|⟨j,B2,q1,q2,q3⟩
   ·rw[h]at hp;exact nomatch hp
   ·exact hno j B2 q2 q3
  ·simp only[Pl.set,if_neg e]at hf;obtain⟨_,C1,g1,_⟩:=ht.bwd i B1 hB1 e;exact hno i C1 g1 hf
theorem Dx {H1:aM} (hT:∀i,mem i T.1=true->mem i T.2=true) (hs:jg T H=some H1) (hn:look H n=none) (hh:∀k B0,look H k=some B0->mem k T.1=false->∃B',B0.aP T=some B'):
  o5 H (H1++aN n [B]) T n B:=by
 have hl:∀k,look (H1++aN n [B]) k=(cond (mem k T.1) none ((look H k).bind (Blk.aP T))).or (if n=k then some B else none):=λk=>by
  rw[aJ,c9 hT hs k];simp only[aN,aC,look]
 refine⟨by rw[hl,hn];cases mem n T.1<;>simp,λk B0 hB hm hne=>?_,λk B' hB hne=>?_⟩
 ·obtain⟨B',hB'⟩:=hh k B0 hB hm;exact⟨B',hB',by rw[hl,hm,hB];simp[hB']⟩
 ·rw[hl,if_neg (λe=>hne e.symm)]at hB;cases hm:mem k T.1<;>simp only[hm,cond_true,cond_false,YG]at hB
  ·obtain⟨B0,g1,g2⟩:=An.1 hB;exact⟨rfl,B0,g1,g2⟩
  ·exact nomatch hB
theorem jY (hT:∀i,mem i T.1=true->mem i T.2=true) {H1:aM} (hs:jg T H=some H1):∀k B0,look H k=some B0->mem k T.1=false->∃B',B0.aP T=some B':=λk B0 hB hm=>by
 unfold jg at hs;split at hs
 ·rename_i h0;have:=Jj h0 hT;subst this;exact⟨B0,B0.dC⟩
 ·exact(AA _ _ _ hs k).2 B0 hB hm
end
end
section
variable [Tok]
def SV.Tb:SV->List Nat
 |.own i=>[i]
 |_=>[]
def tZ:List SV->List Nat
 |[]=>[]
 |v::l=>v.Tb++tZ l
theorem GI (a b:List SV):tZ (a++b)=tZ a++tZ b:=by
 induction a with
 |nil=>rfl
 |cons v l ih=>simp[tZ,ih]
theorem o6 {i:Nat}:∀{l:List SV} {k:Nat},l[k]? =some (.own i)->i∈tZ l
 |[],k,h=>by simp at h
 |v::l,0,h=>by simp at h;subst h;simp[tZ,SV.Tb]
 |v::l,k+1,h=>by simp only[tZ,Yr];exact .inr (o6 (by simpa using h))
theorem AK {i:Nat}:∀{l:List SV} {k k':Nat},(tZ l).Nodup->l[k]? =some (.own i)->l[k']? =some (.own i)->k=k'
 |[],k,k',_,h,_=>by simp at h
 |v::l,k,k',hn,h,h'=>by
  simp only[tZ,List.nodup_append]at hn
  cases k with
  |zero=>
   cases k' with
   |zero=>rfl
   |succ k'=>
    simp at h;subst h
    exact(hn.2.2 i (by simp[SV.Tb]) i (o6 (by simpa using h')) rfl).elim
  |succ k=>
   cases k' with
   |zero=>
    simp at h';subst h'
    exact(hn.2.2 i (by simp[SV.Tb]) i (o6 (by simpa using h)) rfl).elim
   |succ k'=>rw[AK hn.2.1 (k:=k) (k':=k') (by simpa using h) (by simpa using h')]
theorem Oq {h:aM} {t:Ty} {v:SV} {ids:List Nat} {r:R} (e:v.NL h t=some (ids,r)):ids=v.Tb:=by
 cases t with
 |st s=>exact nomatch e
 |sl t'=>
  cases v with
  |cF=>cases e;rfl
  |own i=>
   simp only[SV.NL]at e;split at e
   ·split at e
    ·cases e;rfl
    ·exact nomatch e
   ·exact nomatch e
  |_=>exact nomatch e
 |int k=>
  cases v with
  |r d x=>cases x with
   |sl=>exact nomatch e
   |tok=>exact nomatch e
   |nr=>exact nomatch e
   |_=>cases e;rfl
  |_=>exact nomatch e
 |ho k=>
  cases v with
  |r d x=>cases x with
   |sl=>exact nomatch e
   |tok=>exact nomatch e
   |nr=>exact nomatch e
   |_=>cases e;rfl
  |_=>exact nomatch e
 |hl k=>
  cases v with
  |r d x=>cases x with
   |sl=>exact nomatch e
   |tok=>exact nomatch e
   |nr=>exact nomatch e
   |_=>cases e;rfl
  |_=>exact nomatch e
 |bool=>
  cases v with
  |r d x=>cases x with
   |sl=>exact nomatch e
   |tok=>exact nomatch e
   |nr=>exact nomatch e
   |_=>cases e;rfl
  |_=>exact nomatch e
 |str=>
  cases v with
  |r d x=>cases x with
   |sl=>exact nomatch e
   |tok=>exact nomatch e
   |nr=>exact nomatch e
   |_=>cases e;rfl
  |_=>exact nomatch e
 |tok=>
  cases v with
  |r d x=>cases x with
   |tok n=>cases e;rfl
   |_=>exact nomatch e
  |cF=>cases e;rfl
  |_=>exact nomatch e
theorem wV {h:aM}:∀{ts:List Ty} {vs:List SV} {ids:List Nat} {rs:List R},I9 h ts vs=some (ids,rs)->
  vs.length=ts.length/\rs.length=ts.length/\ids=tZ vs/\∀(j:Nat) (r:R),rs[j]? =some r->∃v ty,vs[j]? =some v/\v.NL h ty=some (v.Tb,r)
 |[],[],ids,rs,e=>by cases e;exact⟨rfl,rfl,rfl,λj r hr=>by simp at hr⟩
 |t::ts,v::vs,ids,rs,e=>by
  simp only[I9,An,It,XO]at e;obtain⟨⟨d,r0⟩,h1,⟨d',rs'⟩,h2,rfl,rfl⟩:=e;obtain⟨g1,g2,g3,g4⟩:=wV h2;have ht:=Oq h1;refine⟨by simp[g1],by simp[g2],by simp[tZ,ht,g3],λj r hr=>?_⟩
  cases j with
  |zero=>simp at hr;subst hr;exact⟨v,t,rfl,by rw[h1,ht]⟩
  |succ j=>simpa using g4 j r (by simpa using hr)
 |[],_::_,_,_,e=>nomatch e
 |_::_,[],_,_,e=>nomatch e
theorem Ty.wW (t:Ty):t.tys.length=t.sz:=by
 cases t with
 |st s=>cases s<;>rfl
 |ho s=>cases s<;>rfl
 |_=>rfl
theorem ez {t:Ty} {x:t.El} {xs:List t.El} {i j:Nat} {r:R}:aB t (x::xs) i j r↔(i=0/\(t.cells x)[j]? =some r)\/∃i',i=i'+1/\aB t xs i' j r:=by
 cases i with
 |zero=>simp[aB]
 |succ i=>simp[aB]
theorem jZ {h:aM} {t:Ty}:∀{n:Nat} {cs:List SV} {ids:List Nat} {xs:List t.El},jj h t n cs=some (ids,xs)->
  xs.length=n/\n*t.sz<=cs.length/\ids=tZ (cs.take (n*t.sz))/\∀i j r,aB t xs i j r->∃v ty,cs[i*t.sz+j]? =some v/\v.NL h ty=some (v.Tb,r)
 |0,cs,ids,xs,e=>by cases e;exact⟨rfl,by simp,by simp[tZ],λi j r h=>by obtain⟨x,hx,_⟩:=h;simp at hx⟩
 |n+1,cs,ids,xs,e=>by
  simp only[jj,An,It,XO]at e;obtain⟨⟨d,rs⟩,h1,x,hx,⟨d',ys⟩,h2,rfl,rfl⟩:=e;obtain⟨g1,g2,g3,g4⟩:=wV h1;obtain⟨k1,k2,k3,k4⟩:=jZ h2;have hc:=Ty.cM t rs x hx;rw[Ty.wW]at g1 g2;rw[X9]at g1;rw[YE]at k2;refine⟨by simp[k1],by rw[Y0];omega,?_,λi j r hc'=>?_⟩
  ·rw[g3,k3,<-GI,Y0,Nat.add_comm (n*t.sz),List.take_add]
  ·rcases ez.1 hc' with⟨rfl,hr⟩|⟨i',rfl,hr⟩
   ·rw[hc]at hr;obtain⟨v,ty,q1,q2⟩:=g4 j r hr;rw[Yh]at q1;split at q1
    ·exact⟨v,ty,by rw[ZQ,XN];exact q1,q2⟩
    ·exact nomatch q1
   ·obtain⟨v,ty,q1,q2⟩:=k4 i' j r hr;rw[XU]at q1;exact⟨v,ty,by rw[Y0,show i'*t.sz+t.sz+j=t.sz+(i'*t.sz+j)from by omega];exact q1,q2⟩
theorem fV.congr {w:World} {r:R} {u:Value} {f f':Cell->Prop} (h:fV w r u f) (e:∀p,f p↔f' p):fV w r u f':=by
 have:f=f':=funext λp=>propext (e p);exact this▸h
def Jq (pl:Pl) (v:SV) (p:Cell):Prop:=∃i,v=.own i/\pl.fp i p
theorem EX {w:World} {H:aM} {pl:Pl} (hr:cY H pl w) {t:Ty} {v:SV} {u:Value} {r:R} {ids:List Nat} (e:v.NL H t=some (ids,r)) (hv:ar w H pl v u):fV w r u (Jq pl v):=by
 have plain:∀(x:R) d,v=.r d x->(∀i,v≠.own i):=λx d h i h'=>by rw[h]at h';exact nomatch h'
 have none':∀{f:Cell->Prop},(∀p,¬f p)->(∀i,v≠.own i)->∀p,f p↔Jq pl v p:=λhf hn p=>⟨λh=>(hf p h).elim,λ⟨i,h,_⟩=>(hn i h).elim⟩
 cases t with
 |st s=>exact nomatch e
 |sl t'=>
  cases v with
  |cF=>
   cases e;cases hv
   exact .sl t' [] none 0 0 0 (λ_ _=>.bool true) (λ_ _ _=>False) _ (X1 _) (.inl rfl) (λj hj=>by simp at hj) (λi j r ⟨x,hx,_⟩=>by simp at hx)
    (λi j r ⟨x,hx,_⟩=>by simp at hx) (λi j r p ⟨x,hx,_⟩=>by simp at hx) (λi j r _ _ _ p ⟨x,hx,_⟩=>by simp at hx)
    (λp=>⟨λ⟨i,h,_⟩=>(nomatch h),λh=>h.elim (λh=>by have:=h.2;simp at this) λ⟨i,j,r,⟨x,hx,_⟩,_⟩=>by simp at hx⟩)
  |own i=>
   simp only[SV.NL]at e;split at e
   ·rename_i t1 xs hl;split at e
    ·rename_i ht;subst ht;cases e
     cases hv with
     |own _ sh t2 ys hl2=>
      obtain⟨R⟩:=hr.blk i _ hl;exact R.VM.congr λp=>⟨λh=>⟨i,rfl,h⟩,λ⟨j,hj,h⟩=>by cases hj;exact h⟩
    ·exact nomatch e
   ·exact nomatch e
  |_=>exact nomatch e
 |int k=>
  cases v with
  |r d x=>
   cases hv with
   |r _ _ _ hx=>
    cases x with
    |int k n=>cases e;cases hx;exact(fV.int _ _).congr (none' (λ_ h=>h) λi h=>nomatch h)
    |bool b=>cases e;cases hx;exact(fV.bool _).congr (none' (λ_ h=>h) λi h=>nomatch h)
    |str l=>cases e;cases hx;exact(fV.str _).congr (none' (λ_ h=>h) λi h=>nomatch h)
    |sl=>exact nomatch e
    |tok=>exact nomatch e
    |nr=>exact nomatch e
  |_=>exact nomatch e
 |ho k=>
  cases v with
  |r d x=>
   cases hv with
   |r _ _ _ hx=>
    cases x with
    |int k n=>cases e;cases hx;exact(fV.int _ _).congr (none' (λ_ h=>h) λi h=>nomatch h)
    |bool b=>cases e;cases hx;exact(fV.bool _).congr (none' (λ_ h=>h) λi h=>nomatch h)
    |str l=>cases e;cases hx;exact(fV.str _).congr (none' (λ_ h=>h) λi h=>nomatch h)
    |sl=>exact nomatch e
    |tok=>exact nomatch e
    |nr=>exact nomatch e
  |_=>exact nomatch e
 |hl k=>
  cases v with
  |r d x=>
   cases hv with
   |r _ _ _ hx=>
    cases x with
    |int k n=>cases e;cases hx;exact(fV.int _ _).congr (none' (λ_ h=>h) λi h=>nomatch h)
    |bool b=>cases e;cases hx;exact(fV.bool _).congr (none' (λ_ h=>h) λi h=>nomatch h)
    |str l=>cases e;cases hx;exact(fV.str _).congr (none' (λ_ h=>h) λi h=>nomatch h)
    |sl=>exact nomatch e
    |tok=>exact nomatch e
    |nr=>exact nomatch e
  |_=>exact nomatch e
 |bool=>
  cases v with
  |r d x=>
   cases hv with
   |r _ _ _ hx=>
    cases x with
    |int k n=>cases e;cases hx;exact(fV.int _ _).congr (none' (λ_ h=>h) λi h=>nomatch h)
    |bool b=>cases e;cases hx;exact(fV.bool _).congr (none' (λ_ h=>h) λi h=>nomatch h)
    |str l=>cases e;cases hx;exact(fV.str _).congr (none' (λ_ h=>h) λi h=>nomatch h)
    |sl=>exact nomatch e
    |tok=>exact nomatch e
    |nr=>exact nomatch e
  |_=>exact nomatch e
 |str=>
  cases v with
  |r d x=>
   cases hv with
   |r _ _ _ hx=>
    cases x with
    |int k n=>cases e;cases hx;exact(fV.int _ _).congr (none' (λ_ h=>h) λi h=>nomatch h)
    |bool b=>cases e;cases hx;exact(fV.bool _).congr (none' (λ_ h=>h) λi h=>nomatch h)
    |str l=>cases e;cases hx;exact(fV.str _).congr (none' (λ_ h=>h) λi h=>nomatch h)
    |sl=>exact nomatch e
    |tok=>exact nomatch e
    |nr=>exact nomatch e
  |_=>exact nomatch e
 |tok=>
  cases v with
  |r d x=>
   cases hv with
   |r _ _ _ hx=>
    cases x with
    |tok n=>cases e;cases hx;exact(fV.tok _).congr (none' (λ_ h=>h) λi h=>nomatch h)
    |_=>exact nomatch e
  |cF=>
   cases e;cases hv;rw[<-Tok.Ob]
   exact(fV.tok _).congr (none' (λ_ h=>h) λi h=>nomatch h)
  |_=>exact nomatch e
theorem wX {H:aM} {t:Ty} {v:SV} {r:R} {ids:List Nat} (e:v.NL H t=some (ids,r)) {i:Nat} (hv:v=.own i):∃t1 xs,look H i=some (.arr none t1 xs):=by
 subst hv
 cases t with
 |sl t'=>
  simp only[SV.NL]at e;split at e
  ·rename_i t1 xs hl;exact⟨t1,xs,hl⟩
  ·exact nomatch e
 |_=>exact nomatch e
end
section
variable [Tok]
section
variable {P:Program} {w:World}
theorem Wb {w:World} {b o:Nat} {u:Value} (h:w.at? (b,o)=some u):b<w.heap.size:=by
 unfold World.at? World.cell? at h
 cases hh:w.heap[b]? with
 |none=>simp[hh]at h
 |some x=>exact(XW.1 hh).1
theorem rl {w:World} {ob:Obj} {p:Cell} {u:Value} (h:w.at? p=some u):(w.alloc ob).at? p=some u/\(w.alloc ob).eK p=w.eK p:=by
 obtain⟨b,o⟩:=p;have hb:=Wb h;have he:(w.alloc ob).heap[b]? =w.heap[b]? :=heap_alloc_old w ob b hb;unfold World.at? World.eK World.cell? at*;simp only[he,and_true];exact h
theorem Dy {w:World} {ob:Obj} {p:Cell} (h:(w.alloc ob).at? p=none):w.at? p=none:=by
 cases hq:w.at? p with
 |none=>rfl
 |some u=>rw[(rl hq).1]at h;exact nomatch h
theorem o7 {w:World} {cs:Array Value} {e:TypeId} (j:Nat):(w.alloc (.cells cs e)).at? (w.heap.size,j)=cs[j]? /\(w.alloc (.cells cs e)).eK (w.heap.size,j)=(0,0,cs.size)/\w.at? (w.heap.size,j)=none:=by
 have he:=heap_alloc_new w (.cells cs e);refine⟨?_,?_,?_⟩
 ·unfold World.at? World.cell?;simp only[he];simp
 ·unfold World.eK;simp only[he]
 ·unfold World.at? World.cell?;simp
structure QV (P:Program) (w w':World) (sz m n cap:Nat) (b o:Nat) (olds news:List Value) (a':Option Addr) (jk b' o':Nat):Prop where
 le:m+n<=jk
 ha:jk=0\/a'=some ⟨b',o',none⟩
 lC:∀j,j<jk*sz->(∃v,w'.at? (b',o'+j)=some v)/\whole (w'.eK (b',o'+j)) o' (jk*sz)=true
 hold:∀j u,olds[j]? =some u->w'.at? (b',o'+j)=some u
 IV:∀j u,news[j]? =some u->w'.at? (b',o'+(m*sz+j))=some u
 zv:∀p u,w.at? p=some u->¬reg b o (cap*sz) p->w'.at? p=some u/\w'.eK p=w.eK p
 Wa:∀p,w'.at? p=none->w.at? p=none
 hfp:∀p,reg b' o' (jk*sz) p->w.at? p=none\/reg b o (cap*sz) p
 stay:∀p u,w.at? p=some u->w'.eK p=w.eK p
 gr:dF w w'
theorem Mz {T ty e:TypeId} {i:TypeInfo} {z:Value} (ht:P.underlying T=some (.slice e)) (hi:P.info? e=some i) (hz:i.zero=some z) (hzs:z.cells.size=i.size)
  {a:Option Addr} {m cap b o:Nat} (hcap:m<=cap) (ha:cap=0\/a=some ⟨b,o,none⟩) (lC:∀j,j<cap*i.size->(∃v,w.at? (b,o+j)=some v)/\whole (w.eK (b,o+j)) o (cap*i.size)=true)
  {olds:List Value} (hol:olds.length=m*i.size) (holds:∀j u,olds[j]? =some u->w.at? (b,o+j)=some u)
  {x:Option Addr} {n c:Nat} {news:List Value} (hnl:news.length=n*i.size) (Ot:n=0\/∃A,x=some A/\∀j u,news[j]? =some u->w.cell? (A.add j)=some u) (h1:∀u∈news,u.oneCell'=true)
  (hb:i.bytes<=512) (hmn:m+n<=aG):
  ∃a' jk b' o' w',(Builtin.append_ #[T,T] ty #[.slice a m cap,.slice x n c]).run P w=.ok (.slice a' (m+n) jk) w'/\QV P w w' i.size m n cap b o olds news a' jk b' o':=by
 have Xa:m+n<=274877906944:=hmn
 have hf:∀w1:World,(∀A,w1.cell? A=w.cell? A)->(Builtin.firstCells i.size n (.slice x n c)).run P w1=.ok news.toArray w1:=λw1 hw1=>by
  rcases Ot with rfl|⟨A,rfl,h⟩
  ·have:news=[]:=Yo.1 (by simpa using hnl);subst this
   cases x with
   |none=>exact run_firstCells_none w1 _ _ _ _
   |some A=>exact run_firstCells_some w1 i.size 0 A 0 c [] (by simp) (λj v hv=>by simp at hv)
  ·exact run_firstCells_some w1 i.size n A n c news hnl λj v hv=>(hw1 _).trans (h j v hv)
 by_cases Ou:m+n<=cap
 ·by_cases hc0:cap=0
  ·subst hc0
   have hm0:m=0:=by omega
   have hn0:n=0:=by omega
   subst hm0 hn0;have hn':news=[]:=Yo.1 (by simpa using hnl);have ho':olds=[]:=Yo.1 (by simpa using hol);subst hn' ho';refine⟨a,0,b,o,w,?_,⟨X1 _,.inl rfl,λj hj=>by simp at hj,λj u h=>by simp at h,λj u h=>by simp at h,λp u hp _=>⟨hp,rfl⟩,λp h=>h,λp hp=>by have:=hp.2;simp at this;omega,λp u _=>rfl,dF.refl w⟩⟩;have hf0:=hf w λ_=>rfl
   cases a with
   |none=>simp[Builtin.append_,run_underlying ht,sizeOf,typeInfo,hi,Builtin.lenOf,hf0]
   |some A=>
    have hs:(storeCells (A.add (0*i.size)) []).run P w=.ok () w:=by simp[storeCells]
    simp[Builtin.append_,run_underlying ht,sizeOf,typeInfo,hi,Builtin.lenOf,hf0]
    first|done|(simp[storeCells])
  ·have ha':=ha.resolve_left hc0;subst ha'
   have hle:m*i.size+n*i.size<=cap*i.size:=by rw[<-X7];exact XZ _ Ou
   have hst:=run_storeCells_cells (P:=P) b (o+m*i.size) news 0 w (λj hj=>by
     obtain⟨⟨u,q1⟩,_⟩:=lC (m*i.size+j) (by omega);simp only[Yd];have q1:w.cell? ⟨b,o+(m*i.size+j),none⟩=some u:=q1
     rw[show o+m*i.size+j=o+(m*i.size+j)from by omega,q1];rfl) (λj hj=>by
     obtain⟨⟨u,q1⟩,q2⟩:=lC (m*i.size+j) (by omega);simp only[Yd]
     rw[show o+m*i.size+j=o+(m*i.size+j)from by omega];exact mJ q1 (sw q2)) h1
   simp only[Yd]at hst;have hf0:=hf w λ_=>rfl
   have iH:∀j,j<news.length->(w.setCells b (o+m*i.size) news).at? (b,o+(m*i.size+j))=news[j]? :=λj hj=>by
    have:=World.cell?_setCells_in b news (o+m*i.size) w (λj hj=>by
     obtain⟨⟨u,q1⟩,_⟩:=lC (m*i.size+j) (by omega);have q1:w.cell? ⟨b,o+(m*i.size+j),none⟩=some u:=q1
     rw[show o+m*i.size+j=o+(m*i.size+j)from by omega,q1];rfl) j hj
    rw[show o+(m*i.size+j)=o+m*i.size+j from by omega];rw[So hj];simpa[World.at?]using this
   have dH:∀p u,w.at? p=some u->¬(p.1=b/\o+m*i.size<=p.2/\p.2<o+m*i.size+news.length)->(w.setCells b (o+m*i.size) news).at? p=some u:=λp u hp hno=>by
    unfold World.at? at*;rw[World.cell?_setCells_out b _ _ w _ (λe1 _=>by simp at e1;simp;omega)];exact hp
   have EW:∀p,(w.setCells b (o+m*i.size) news).eK p=w.eK p:=λp=>gR _ _ _ _ _;refine⟨some ⟨b,o,none⟩,cap,b,o,w.setCells b (o+m*i.size) news,?_,⟨Ou,.inr rfl,λj hj=>⟨?_,by rw[EW];exact(lC j hj).2⟩,λj u hu=>?_,λj u hu=>?_,λp u hp hno=>⟨dH p u hp λhin=>hno ⟨hin.1,by omega,by omega⟩,EW p⟩,λp hp=>?_,λp hp=>.inr hp,λp u _=>EW p,dF.setCells _ _ _ _⟩⟩
   ·simp[Builtin.append_,run_underlying ht,sizeOf,typeInfo,hi,Builtin.lenOf,Ou,hf0,Addr.add_lit,hst]
   ·by_cases hin:m*i.size<=j/\j<m*i.size+news.length
    ·have hj':=iH (j-m*i.size) (by omega);rw[show m*i.size+(j-m*i.size)=j from by omega]at hj';exact⟨_,hj'.trans (So (by omega))⟩
    ·obtain⟨u,hu⟩:=(lC j hj).1;exact⟨u,dH _ u hu λh=>hin ⟨by have:=h.2.1;simp at this;omega,by have:=h.2.2;simp at this;omega⟩⟩
   ·have hj:j<m*i.size:=by rw[<-hol];exact(Of.1 hu).1
    exact dH _ u (holds j u hu) λh=>by have:=h.2.1;simp at this;omega
   ·rw[iH j (Of.1 hu).1];exact hu
   ·cases hq:w.at? p with
    |none=>rfl
    |some u=>
     by_cases hin:p.1=b/\o+m*i.size<=p.2/\p.2<o+m*i.size+news.length
     ·obtain⟨p1,p2⟩:=p;obtain⟨e1,e2,e3⟩:=hin;simp only at e1 e2 e3;subst e1;have:=iH (p2-(o+m*i.size)) (by omega);rw[show o+(m*i.size+(p2-(o+m*i.size)))=p2 from by omega,hp,So (by omega)]at this;exact nomatch this
     ·rw[dH p u hq hin]at hp;exact nomatch hp
 ·have hlt:cap<m+n:=by omega
  have h63:((m+n:Nat):Int)<=9223372036854775807:=by omega
  have Xb:Builtin.nextslicecap (m+n) cap*i.bytes<=281474976710656:=growslice_fits hlt (by
   have:(m+n)*i.bytes<=274877906944*512:=Yu Xa hb
   omega)
  have hge:=grownCap_ge w (m+n) cap e
  have hfo:∀w1:World,(∀A,w1.cell? A=w.cell? A)->(Builtin.firstCells i.size m (.slice a m cap)).run P w1=.ok olds.toArray w1:=λw1 hw1=>by
   rcases ha with rfl|rfl
   ·have hm0:m=0:=by omega
    subst hm0;have ho':olds=[]:=Yo.1 (by simpa using hol);subst ho'
    cases a with
    |none=>exact run_firstCells_none w1 _ _ _ _
    |some A=>exact run_firstCells_some w1 i.size 0 A 0 0 [] (by simp) (λj v hv=>by simp at hv)
   ·exact run_firstCells_some w1 i.size m _ m cap olds hol λj v hv=>(hw1 _).trans (by
     have:=holds j v hv
     rw[Addr.add_lit];exact this)
  have lG:(Builtin.append_ #[T,T] ty #[.slice a m cap,.slice x n c]).run P w=
    .ok (.slice (some ⟨w.heap.size,0,none⟩) (m+n) (grownCap w (m+n) cap e))
     (w.drew.alloc (.cells (olds.toArray++news.toArray++Builtin.zeroCells z.cells (grownCap w (m+n) cap e-(m+n))) e)):=by
   have hn:¬(m+n<=cap):=by omega
   have h63':¬(9223372036854775807<((m:Int)+(n:Int))):=by omega
   have h48':¬(281474976710656<Builtin.nextslicecap (m+n) cap*i.bytes):=by omega
   have hf0:=hf w.drew λ_=>rfl;have hfo0:=hfo w.drew λ_=>rfl;simp[Builtin.append_,run_underlying ht,sizeOf,typeInfo,zeroValue,hi,hz,Builtin.lenOf,hn,h63',h48',Question.forced,hf0,hfo0,newRow,grownCap];simp only[<-Array.append_assoc,List.append_toArray]
  generalize hcs:olds.toArray++news.toArray++Builtin.zeroCells z.cells (grownCap w (m+n) cap e-(m+n))=cs at lG
  have UX:cs.size=grownCap w (m+n) cap e*i.size:=by
   rw[<-hcs];simp only[Array.size_append,List.size_toArray,size_zeroCells,hzs,hol,hnl,<-X7]
   congr 1;omega
  have IV:=λj=>o7 (w:=w.drew) (cs:=cs) (e:=e) j;have hsz:w.drew.heap.size=w.heap.size:=rfl;refine⟨_,_,w.heap.size,0,_,lG,⟨hge,.inr rfl,λj hj=>⟨⟨cs[j]'(by rw[UX];exact hj),?_⟩,?_⟩,λj u hu=>?_,λj u hu=>?_,λp u hp _=>?_,λp hp=>?_,λp hp=>.inl ?_,λp u hp=>?_,(dF.drew w).trans (dF.alloc w.drew cs e)⟩⟩
  ·have:=(IV j).1;rw[hsz]at this;rw[XN,this];simp
  ·have:=(IV j).2.1;rw[hsz]at this;rw[XN,this,UX];exact KY
  ·have:=(IV j).1;rw[hsz]at this;have hj:=(Of.1 hu).1;rw[XN,this,<-hcs,Array.append_assoc,YO (by simpa using hj)];simpa using hu
  ·have:=(IV (m*i.size+j)).1;rw[hsz]at this;have hj:=(Of.1 hu).1;rw[XN,this,<-hcs,Array.append_assoc,Array.getElem?_append_right (by simp[hol]),YO (by simp[hol];omega)];simp only[List.size_toArray,hol,Yk];simpa using hu
  ·exact rl (w:=w.drew) hp
  ·exact Dy (w:=w.drew) hp
  ·obtain⟨p1,p2⟩:=p;obtain⟨e1,_,_⟩:=hp;simp only at e1;subst e1;exact(IV p2).2.2
  ·exact(rl (w:=w.drew) hp).2
end
end
end Go.Proofs.Ev
