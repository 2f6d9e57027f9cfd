/- The evaluator over the model's code, and that it is sound: part 8. -/
import Derived.Test.YtimmojehndbiiaaEvK7
import Derived.IntWalk
set_option linter.unusedVariables false
set_option linter.unusedSimpArgs false
set_option linter.unusedSectionVars false
namespace Go.Proofs.Ev
open IntKind(i64 u8 u64)
section
instance BD:Tok:=⟨λ_=>.slice none 0 0,λ_=>rfl,rfl⟩
def okI (n:Int):Prop:=-9223372036854775808<=n/\n<=9223372036854775807
theorem l7 {n:Int} (h1:-9223372036854775808<=n) (h2:n<=9223372036854775807):i64.wrap n=n:=Go.IntWalk.i64_in n ⟨h1,h2⟩
theorem ft {n m:Nat} (h:n<m) (hm:m<=9223372036854775807):i64.wrap ((n:Int)+1)=((n+1:Nat):Int):=by
 rw[l7 (by omega) (by omega)];omega
@[simp] theorem ey {α:Type} (xs:List α) (i:Nat):idx xs (i:Int)=xs[i]? :=by
 have:(0:Int)<=(i:Int):=by omega
 simp[idx,this]
section
variable {R V:Type} {g:V->(V->Option R)->Option R}
theorem eP (k:Nat) (v:V):iter g (k+1) v=g v (iter g k):=rfl
theorem iY {st:Nat->V} {n:Nat} {P:Nat->Option R} (h:∀i,i<n->∀next:V->Option R,next (st (i+1))=P (i+1)->g (st i) next=P i)
  (hn:∀next,g (st n) next=P n):∀(k i:Nat),i<=n->n-i<k->iter g k (st i)=P i
 |0,i,hi,hk=>by omega
 |k+1,i,hi,hk=>by
  rw[eP];by_cases c:i<n
  ·exact h i c _ (iY h hn k (i+1) (by omega) (by omega))
  ·have:i=n:=by omega
   subst this;exact hn _
theorem od {st:Nat->V} {n:Nat} {r:Option R} (h:∀i,i<n->∀next:V->Option R,g (st i) next=next (st (i+1))) (hn:∀next,g (st n) next=r) {k:Nat} (hk:n<k):
  iter g k (st 0)=r:=iY (P:=λ_=>r) (λi hi next e=>(h i hi next).trans e) hn k 0 (DC _) (by omega)
end
theorem az {α:Type} {p:Prop} [Decidable p] (x y:α):cond (decide p) x y=if p then x else y:=by by_cases h:p<;>simp[h]
theorem dj {α:Type} (a b:Int) (x y:α):cond (a !=b) x y=if a=b then y else x:=by
 by_cases h:a=b
 ·simp[h]
 ·have:(a !=b)=true:=by simpa using h
  rw[this,if_neg h];rfl
theorem xW {α:Type} (a b:Int) (x y:α):cond (a==b) x y=if a=b then x else y:=by
 by_cases h:a=b
 ·simp[h]
 ·have:(a==b)=false:=by simpa using h
  rw[this,if_neg h];rfl
theorem cond_not {α:Type} (b:Bool) (x y:α):cond (!b) x y=cond b y x:=by cases b<;>rfl
theorem z9 (a b:Int):(a !=b)=decide (a≠b):=by
 by_cases h:a=b
 ·simp[h]
 ·rw[decide_eq_true h];simpa using h
theorem eb {α:Type} {xs:List α} {i:Nat} (h:i<xs.length):xs[i]? =some xs[i]:=Dd h
theorem iZ {α:Type} {xs:List α} {i:Nat} (h:i<xs.length):xs.drop i=xs[i]::xs.drop (i+1):=(List.getElem_cons_drop h).symm
theorem pX {α:Type} {xs:List α} {i:Nat} (h:i<xs.length):xs.take (i+1)=xs.take i++[xs[i]]:=(List.take_append_getElem h).symm
theorem xX {α:Type} (xs:List α) (z:α) {i:Nat} (h:i<xs.length):(xs.take i++List.replicate (xs.length-i) z).set i xs[i]=xs.take (i+1)++List.replicate (xs.length-(i+1)) z:=by
 rw[List.set_append_right _ _ (by simp;omega)]
 have e:i-(xs.take i).length=0:=by simp;omega
 rw[e,show xs.length-i=(xs.length-(i+1))+1 from by omega,List.replicate_succ,List.set_cons_zero,pX h,Ds];rfl
theorem wG {α R:Type} (xs:List α) (z:α) {g:Int× List α->(Int× List α->Option R)->Option R} {fin:List α->Option R}
  (h:∀(i:Nat) (ys:List α) (hi:i<xs.length) (next:Int× List α->Option R),ys.length=xs.length->g ((i:Int),ys) next=next (((i+1:Nat):Int),ys.set i xs[i]))
  (hn:∀ys next,g ((xs.length:Int),ys) next=fin ys) {k:Nat} (hk:xs.length<k):iter g k (0,List.replicate xs.length z)=fin xs:=by
 have:=od (g:=g) (st:=λi=>((i:Int),xs.take i++List.replicate (xs.length-i) z)) (n:=xs.length) (r:=fin xs) (λi hi next=>by
  rw[h i _ hi next (by simp;omega),xX xs z hi]) (λnext=>by
  simp only[List.take_length,Nat.sub_self,List.replicate_zero,Dx];exact hn _ _) hk
 simpa using this
theorem pY {α R:Type} [DecidableEq α] (xs ys:List α) (hl:xs.length=ys.length) {g:Int->(Int->Option R)->Option R} {yes no:Option R}
  (h:∀(i:Nat) (hi:i<xs.length) (hi':i<ys.length) (next:Int->Option R),g (i:Int) next=if xs[i]=ys[i]then next ((i+1:Nat):Int)else no)
  (hn:∀next,g (xs.length:Int) next=yes) {k:Nat} (hk:xs.length<k):iter g k 0=if xs=ys then yes else no:=by
 have:=iY (g:=g) (st:=λi=>(i:Int)) (n:=xs.length) (P:=λi=>if xs.drop i=ys.drop i then yes else no) (λi hi next e=>by
  have hi':i<ys.length:=by omega
  rw[h i hi hi' next]
  have he:(xs.drop i=ys.drop i)↔(xs[i]=ys[i]/\xs.drop (i+1)=ys.drop (i+1)):=by rw[iZ hi,iZ hi',DY]
  by_cases c:xs[i]=ys[i]
  ·rw[if_pos c,e];simp only[he,c,true_and]
  ·rw[if_neg c,if_neg (λq=>c (he.1 q).1)]) (λnext=>by
  rw[Et,List.drop_of_length_le (by omega)];simp;exact hn next) k 0 (DC _) (by omega)
 simpa using this
end
section
theorem al {α β:Type} (a:α) (f:α->Option β):(some a).bind f=f a:=rfl
theorem xY {α R:Type} (xs:List α) (p:α->Bool) {g:Int->(Int->Option R)->Option R} {yes no:Option R}
  (h:∀(i:Nat) (hi:i<xs.length) (next:Int->Option R),g (i:Int) next=cond (p xs[i]) (next ((i+1:Nat):Int)) no)
  (hn:∀next,g (xs.length:Int) next=yes) {k:Nat} (hk:xs.length<k):iter g k 0=cond (xs.all p) yes no:=by
 have:=iY (g:=g) (st:=λi=>(i:Int)) (n:=xs.length) (P:=λi=>cond ((xs.drop i).all p) yes no) (λi hi next e=>by
  rw[h i hi next,iZ hi,List.all_cons];cases hp:p xs[i]
  ·rfl
  ·simp only[cond_true,Eh];exact e) (λnext=>by rw[Et];exact hn next) k 0 (DC _) (by omega)
 simpa using this
theorem wH {α R:Type} (xs:List α) (p:α->Bool) {g:Int->(Int->Option R)->Option R} {yes:Option R} {no:Int->Option R}
  (h:∀(i:Nat) (hi:i<xs.length) (next:Int->Option R),g (i:Int) next=cond (p xs[i]) (no (i:Int)) (next ((i+1:Nat):Int)))
  (hn:∀next,g (xs.length:Int) next=yes) {k:Nat} (hk:xs.length<k):iter g k 0=(xs.findIdx? p).elim yes λi=>no (i:Int):=by
 have:=iY (g:=g) (st:=λi=>(i:Int)) (n:=xs.length) (P:=λi=>((xs.drop i).findIdx? p).elim yes λj=>no ((i+j:Nat):Int)) (λi hi next e=>by
  rw[h i hi next,iZ hi,List.findIdx?_cons];cases hp:p xs[i]
  ·simp only[cond_false,D5,if_false];rw[e]
   cases(xs.drop (i+1)).findIdx? p with
   |none=>rfl
   |some j=>simp only[Eg,Option.elim_some];congr 2;omega
  ·simp) (λnext=>by rw[Et];simpa using hn next) k 0 (DC _) (by omega)
 simpa using this
theorem xZ {α β R:Type} (xs:List α) (f:α->β) {g:Int× List β->(Int× List β->Option R)->Option R} {fin:List β->Option R}
  (h:∀(i:Nat) (ys:List β) (hi:i<xs.length) (next:Int× List β->Option R),ys.length=i->g ((i:Int),ys) next=next (((i+1:Nat):Int),ys++[f xs[i]]))
  (hn:∀ys next,g ((xs.length:Int),ys) next=fin ys) {k:Nat} (hk:xs.length<k):iter g k (0,[])=fin (xs.map f):=by
 have:=od (g:=g) (st:=λi=>((i:Int),(xs.take i).map f)) (n:=xs.length) (r:=fin (xs.map f)) (λi hi next=>by
  rw[h i _ hi next (by simp;omega),pX hi,List.map_append];rfl) (λnext=>by rw[List.take_length];exact hn _ _) hk
 simpa using this
theorem zb {a b A B:Int} (h1:0<=a) (h2:a<=A) (h3:0<=b) (h4:b<=B):0<=a*b/\a*b<=A*B:=
 ⟨Int.mul_nonneg h1 h3,Int.mul_le_mul h2 h4 h3 (by omega)⟩
end
section
theorem dI:dK=274877906944:=rfl
def Sz (r:Option Int) (n:Int) (t:Nat):Prop:=r=some (if n<(t:Int)then -1 else n-t)
theorem Bg {o:Option Int} {t u:Nat} {n:Int} {G:Int->Option Int} (hn:0<=n) (h:Sz o n t) (hG:(t:Int)<=n->Sz (G (n-t)) (n-t) u):
  Sz (o.bind λr=>cond (decide (r<0)) (some (-1)) (G r)) n (t+u):=by
 unfold Sz at*;subst h;rw[al,az];by_cases c:n<(t:Int)
 ·rw[if_pos c,if_pos (by omega),if_pos (by omega)]
 ·rw[if_neg c,if_neg (by omega),hG (by omega)]
  congr 1
  split<;>split<;>omega
theorem Bh {n:Int} (hn:0<=n):Sz (some n) n 0:=by unfold Sz;rw[if_neg (by omega)];simp
def iq {α:Type} (t:α->Nat) (xs:List α):Nat:=xs.length+(xs.map t).sum
theorem wI {α:Type} (t:α->Nat):∀{xs:List α} {x:α},x∈xs->t x<=(xs.map t).sum
 |y::xs,x,h=>by
  simp only[DQ,List.sum_cons]
  rcases Dt.1 h with rfl|h
  ·omega
  ·have:=wI t h;omega
theorem oe {α:Type} (t:α->Nat) {xs:List α} {x:α} (h:x∈xs):t x+1<=iq t xs:=by
 have:=wI t h;have:=List.length_pos_of_mem h;unfold iq;omega
theorem sY {α:Type} (t:α->Nat) (xs:List α):xs.length<=iq t xs:=by unfold iq;omega
theorem wJ {α:Type} (xs:List α):iq (λ_=>0) xs=xs.length:=by
 unfold iq
 induction xs with
 |nil=>rfl
 |cons x xs ih=>simp only[DQ,List.sum_cons,DP]at*;omega
theorem lF {α:Type} (t:α->Nat) (x:α) (xs:List α):iq t (x::xs)=t x+1+iq t xs:=by simp[iq];omega
theorem Cf {a b:Int} {G:Option Bool} {Q:Prop} [Decidable Q] (h:G=some (decide Q)):cond (a !=b) (some false) G=some (decide (a=b/\Q)):=by
 rw[dj,h];by_cases c:a=b<;>simp[c]
theorem Cx {o:Option Bool} {P:Prop} [Decidable P] {G:Option Bool} {Q:Prop} [Decidable Q] (h1:o=some (decide P)) (h:G=some (decide Q)):(o.bind λr=>cond (!r) (some false) G)=some (decide (P/\Q)):=by
 rw[h1,h,al];by_cases c:P<;>simp[c]
theorem zc:(some true)=some (decide True):=rfl
theorem Aa {α:Type} [DecidableEq α] {xs ys:List α} {f:α->α->Option Bool} {g:Int->(Int->Option Bool)->Option Bool} {k:Nat} (hx:xs.length<=9223372036854775807) (hf:∀x∈xs,∀y,f x y=some (decide (x=y)))
  (h:∀(i:Nat) (hi:i<xs.length) (hi':i<ys.length) (next:Int->Option Bool),g (i:Int) next=(f xs[i] ys[i]).bind λr=>cond (!r) (some false) (next (i64.wrap ((i:Int)+1))))
  (hn:∀next,g (xs.length:Int) next=some true) (hk:xs.length<k):cond ((xs.length:Int) !=(ys.length:Int)) (some false) (iter g k (0:Int))=some (decide (xs=ys)):=by
 rw[dj];by_cases c:xs.length=ys.length
 ·rw[if_pos (by omega)]
  rw[pY xs ys c (yes:=some true) (no:=some false) (λi hi hi' next=>by
   rw[h i hi hi' next,hf _ (List.getElem_mem hi),al,ft hi hx]
   by_cases e:xs[i]=ys[i]<;>simp[e]) hn hk]
  split<;>simp[*]
 ·rw[if_neg (by omega),decide_eq_false (λe=>c (by rw[e]))]
def qc:Int:=4611686018427387904
theorem lG {α R:Type} {t:α->Nat} {g:Int× Int× List α->(Int× Int× List α->Option R)->Option R} {fin:Int× List α->Option R} {hd:List α->Int× Int->(Int× Int->Option Int)->Option Int} {N:Nat}
    (hg:∀(m:Int) (ys:List α) next,ys.length=N->g (m,(ys.length:Int),ys) next=fin (m,ys)) (hh:∀(ys:List α) (m:Int) next,ys.length=N->hd ys (m,(ys.length:Int)) next=some m):
    ∀(rest pre:List α) (m:Int) (k:Nat),pre.length+rest.length=N->rest.length<k->0<=m->m+16*iq t rest<=qc->
    (∀x∈rest,∀m:Int,0<=m->m+16*(t x+1)<=qc->∃r y,m<=r/\r<=m+16*(t x+1)/\
      (∀(i:Nat) (ys:List α) next,ys.length=N->i<N->ys[i]? =some x->g (m,(i:Int),ys) next=next (r,(i:Int)+1,ys.set i y))/\
      (∀(i:Nat) (ys:List α) next,ys.length=N->i<N->ys[i]? =some y->hd ys (m,(i:Int)) next=next (r,(i:Int)+1)))->
    ∃r out,out.length=rest.length/\iter g k (m,(pre.length:Int),pre++rest)=fin (r,pre++out)/\m<=r/\r<=m+16*iq t rest/\∀k',rest.length<k'->iter (hd (pre++out)) k' (m,(pre.length:Int))=some r
  |[],pre,m,0,hN,hk,hm,hB,hs=>by omega
  |_::_,pre,m,0,hN,hk,hm,hB,hs=>by omega
  | [], pre, m, k + 1, hN, hk, hm, hB, hs => by
    refine⟨m,[],rfl,?_,Int.le_refl _,by omega,λk' hk'=>?_⟩
    · rw[eP,Dx];exact hg m pre _ (by simpa using hN)
    · cases k' with
      |zero=>simp at hk'
      | succ k' =>
        rw[eP,Dx]
        exact hh pre m _ (by simpa using hN)
  | x :: rest, pre, m, k + 1, hN, hk, hm, hB, hs => by
    rw[lF]at hB;simp only[DP]at hN hk;obtain⟨r1,y,a1,a2,a3,a4⟩:=hs x (by simp) m hm (by omega);obtain⟨r,out,b1,b2,b3,b4,b5⟩:=lG hg hh rest (pre++[y]) r1 k (by simp;omega) (by omega) (by omega) (by omega) λz hz=>hs z (by simp[hz])
    have e1:((pre++[y]).length:Int)=(pre.length:Int)+1:=by simp
    have e2:∀l,(pre++[y])++l=pre++y::l:=λl=>by simp
    rw[e1]at b2 b5;rw[e2]at b2;rw[e2]at b5;rw[e2]at b2;refine⟨r,y::out,by simp[b1],?_,by omega,by rw[lF];omega,λk' hk'=>?_⟩
    · rw[eP,a3 pre.length _ _ (by simp;omega) (by omega) (by simp),List.set_append_right _ _ (by omega),Nat.sub_self,List.set_cons_zero];exact b2
    · cases k' with
      |zero=>simp at hk'
      | succ k' =>
        rw[eP,a4 pre.length _ _ (by simp;omega) (by omega) (by simp)];exact b5 k' (by simp at hk';omega)
end
section
variable [Tok]
def oz:Nat:=9223372036854775807
def okS {α:Type} (p:α->Prop) (xs:List α):Prop:=xs.length<=oz/\∀x∈xs,p x
def okB (n:Int):Prop:=0<=n/\n<=255
def Shape.Ok (s:Shape):Prop:=okI s.h/\okI s.w/\okI s.c
def aa.Ok (t:aa):Prop:=t.sh.Ok/\okS okI t.data
def dx.Ok (l:dx):Prop:=okI l.kind/\okI l.out/\okI l.size/\okI l.step/\okI l.mult/\okI l.shift/\okI l.zero/\okS okI l.weights/\okS okI l.Ai
def Model.Ok (m:Model):Prop:=m.inp.Ok/\okS dx.Ok m.fx
def Job.Ok (j:Job):Prop:=j.model.Ok/\okI j.at_/\j.act.Ok/\okI j.uD
def Task.Ok (t:Task):Prop:=okI t.id/\okS okI t.gV/\okI t.at_/\okI t.due/\okI t.born
def qd.Ok (s:qd):Prop:=okI s.now/\okI s.wZ/\okI s.age/\okS Task.Ok s.tasks/\okI s.run/\okI s.left/\okI s.turns/\okI s.next
def Request.Ok (r:Request):Prop:=okI r.id/\okI r.model/\r.job.Ok/\okI r.due
def Runtime.Ok (r:Runtime):Prop:=r.sched.Ok/\okS Model.Ok r.oA/\okS (λ_=>True) r.rN/\okS Request.Ok r.iv
def Step.Ok (s:Step):Prop:=okI s.kind/\okI s.a/\okI s.b/\okS okB s.data/\s.input.Ok
def Event.Ok (e:Event):Prop:=okI e.kind/\okI e.a/\okI e.b/\e.out.Ok
def Entry.Ok (e:Entry):Prop:=okI e.id/\e.model.Ok/\e.input.Ok/\okI e.at_/\okI e.due/\okI e.end_
def zg.Ok (w:zg):Prop:=okI w.id/\okI w.model/\okI w.due
theorem BF {n:Int} (h:(R.int .i64 n).Wf):okI n:=by
 cases h with
 |int _ _ h=>simp[Lit.wf,IntKind.min,IntKind.max,IntKind.signed,IntKind.bits]at h;exact h
theorem Cg {t:Ty} {xs:List t.El} {p:t.El->Prop} (h:(R.sl t xs).Wf) (hp:∀x∈xs,(∀r∈t.cells x,r.Wf)->p x):okS p xs:=by
 cases h with
 |sl _ _ h hl=>
  refine⟨by unfold oz;unfold maxLen at hl;omega,λx hx=>hp x hx λr hr=>?_⟩;obtain⟨i,hi⟩:=DI hx;obtain⟨j,hj⟩:=DI hr;exact h i j r ⟨x,hi,hj⟩
theorem Ab {xs:List Int} (h:(R.ints xs).Wf):okS okI xs:=Cg h λx _ hx=>BF (hx _ (by simp[Ty.cells]))
theorem wK {x:aa} (h:∀r∈m7 x,r.Wf):x.Ok:=by
 simp[m7]at h;exact⟨⟨BF h.1,BF h.2.1,BF h.2.2.1⟩,Ab h.2.2.2⟩
section
variable {P:Program} {tt:TT} {T:TypeId} {a:Arg}
def pZ (P:Program) (T:TypeId):Bool:=
 match P.underlying T with
 |some (.struct _)=>true
 |_=>false
theorem yA (s:S) (hf:lB P tt 8 T=some s.tys) (hs:pZ P T=true) (h:xU P tt T a):∃x:s.E,a=.agg (s.cells x)/\∀r∈s.cells x,r.Wf:=by
 obtain⟨ts,h1,h2,_⟩:=h;rw[hf]at h1;cases h1;obtain⟨rs,rfl,g1,g2⟩:=h2 (by unfold pZ at hs;split at hs<;>simp_all);obtain⟨x,hx⟩:=iW (.st s) rs g1;have:=S.aI s rs x hx;exact⟨x,by rw[this],by rw[this];exact g2⟩
theorem rD {as:List Arg} {T:TypeId} (h:lE P tt [T] as):∃a,as=[a]/\xU P tt T a:=by
 match as,h with
 |[a],h=>exact⟨a,rfl,h.1⟩
end
theorem ug {P:Program} {g:FuncId} {G:PG} (h:sH P g G) {as:List Arg} {o:Out} (hG:G Out as some=some o):dG P g as o:=by
 obtain⟨o',h1,h2⟩:=h Out as some o hG;cases h1;exact h2
theorem yB {p:TypeId->Bool} {l:List TypeId} (h:l.all p=true):∀t∈l,p t=true:=λt ht=>Eu.1 h t ht
end
section
variable [Tok]
section
variable {P:Program} {tt:TT} {T:TypeId} {a:Arg}
end
end
end Go.Proofs.Ev
