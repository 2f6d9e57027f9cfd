/- The evaluator over the model's code, and that it is sound: part 8. -/
import Derived.Test.YtimmojehndbiiaaEvK7
set_option linter.unusedVariables false
set_option linter.unusedSimpArgs false
set_option linter.unusedSectionVars false
namespace Go.Proofs.Ev
open IntKind(i64 u8 u64)
section
theorem dp:fc=274877906944:=rfl
def Sz (r:Option Int) (n:Int) (t:Nat):Prop:=r=some (if n<(t:Int)then -1 else n-t)
def ll {α:Type} (t:α->Nat) (xs:List α):Nat:=xs.length+(xs.map t).sum
theorem xY {α:Type} (t:α->Nat):∀{xs:List α} {x:α},x∈xs->t x<=(xs.map t).sum
 |y::xs,x,h=>by
  simp only[Fi,List.sum_cons]
  rcases EZ.1 h with rfl|h
  ·omega
  ·have:=xY t h;omega
theorem l3 {α:Type} (t:α->Nat) {xs:List α} {x:α} (h:x∈xs):t x+1<=ll t xs:=by
 have:=xY t h;have:=List.length_pos_of_mem h;unfold ll;omega
theorem pQ {α:Type} (t:α->Nat) (xs:List α):xs.length<=ll t xs:=by unfold ll;omega
theorem rp {α:Type} (xs:List α):ll (λ_=>0) xs=xs.length:=by
 unfold ll
 induction xs with
 |nil=>rfl
 |cons x xs ih=>simp only[Fi,List.sum_cons,E5]at*;omega
theorem kn {α:Type} (t:α->Nat) (x:α) (xs:List α):ll t (x::xs)=t x+1+ll t xs:=by simp[ll];omega
theorem BC {α:Type} (xs:List α) (z:α) {f:α->Option α} {g:Int× List α->(Int× List α->Option (List α))->Option (List α)} {k:Nat} (hl:xs.length<=fc) (hf:∀x∈xs,f x=some x)
  (h:∀(i:Nat) (ys:List α) (hi:i<xs.length) (next:Int× List α->Option (List α)),g ((i:Int),ys) next=(f xs[i]).bind λr=>cond (decide (0<=(i:Int)/\(i:Int)<(ys.length:Int))) (next (i64.wrap ((i:Int)+1),ys.set (i:Int).toNat r)) none)
  (hn:∀ys next,g ((xs.length:Int),ys) next=some ys) (hk:xs.length<k):
  cond (decide (0<=(xs.length:Int)/\(xs.length:Int)<=(xs.length:Int)/\(xs.length:Int)<=(fc:Int))) (iter g k ((0:Int),List.replicate ((xs.length:Int).toNat) z)) none=some xs:=by
 rw[dp]at hl;rw[bn,if_pos (by rw[dp];omega)]
 exact xX xs z (fin:=some) (λi ys hi next hly=>by
  rw[h i ys hi next,hf _ (FC hi),aa,bn,if_pos (by omega),gJ hi (by omega),Fh]) hn hk
theorem DN {a b:Int} {G:Option Bool} {Q:Prop} [Decidable Q] (h:G=some (decide Q)):cond (a !=b) (some false) G=some (decide (a=b/\Q)):=by
 rw[fx,h];by_cases c:a=b<;>simp[c]
theorem CN:(some true)=some (decide True):=rfl
theorem xZ {α:Type} [DecidableEq α] {xs ys:List α} {f:α->α->Option Bool} {g:Int->(Int->Option Bool)->Option Bool} {k:Nat} (hx:xs.length<=9223372036854775807) (hf:∀x∈xs,∀y,f x y=some (decide (x=y)))
  (h:∀(i:Nat) (hi:i<xs.length) (hi':i<ys.length) (next:Int->Option Bool),g (i:Int) next=(f xs[i] ys[i]).bind λr=>cond (!r) (some false) (next (i64.wrap ((i:Int)+1))))
  (hn:∀next,g (xs.length:Int) next=some true) (hk:xs.length<k):cond ((xs.length:Int) !=(ys.length:Int)) (some false) (iter g k (0:Int))=some (decide (xs=ys)):=by
 rw[fx];by_cases c:xs.length=ys.length
 ·rw[if_pos (by omega)]
  rw[rm xs ys c (yes:=some true) (no:=some false) (λi hi hi' next=>by
   rw[h i hi hi' next,hf _ (FC hi),aa,gJ hi hx]
   by_cases e:xs[i]=ys[i]<;>simp[e]) hn hk]
  split<;>simp[*]
 ·rw[if_neg (by omega),decide_eq_false (λe=>c (by rw[e]))]
def pR:Int:=4611686018427387904
theorem mX {α R:Type} {t:α->Nat} {g:Int× Int× List α->(Int× Int× List α->Option R)->Option R} {fin:Int× List α->Option R} {hd:List α->Int× Int->(Int× Int->Option Int)->Option Int} {N:Nat}
    (hg:∀(m:Int) (ys:List α) next,ys.length=N->g (m,(ys.length:Int),ys) next=fin (m,ys)) (hh:∀(ys:List α) (m:Int) next,ys.length=N->hd ys (m,(ys.length:Int)) next=some m):
    ∀(rest pre:List α) (m:Int) (k:Nat),pre.length+rest.length=N->rest.length<k->0<=m->m+16*ll t rest<=pR->
    (∀x∈rest,∀m:Int,0<=m->m+16*(t x+1)<=pR->∃r y,m<=r/\r<=m+16*(t x+1)/\
      (∀(i:Nat) (ys:List α) next,ys.length=N->i<N->ys[i]? =some x->g (m,(i:Int),ys) next=next (r,(i:Int)+1,ys.set i y))/\
      (∀(i:Nat) (ys:List α) next,ys.length=N->i<N->ys[i]? =some y->hd ys (m,(i:Int)) next=next (r,(i:Int)+1)))->
    ∃r out,out.length=rest.length/\iter g k (m,(pre.length:Int),pre++rest)=fin (r,pre++out)/\m<=r/\r<=m+16*ll t rest/\∀k',rest.length<k'->iter (hd (pre++out)) k' (m,(pre.length:Int))=some r
  |[],pre,m,0,hN,hk,hm,hB,hs=>by omega
  |_::_,pre,m,0,hN,hk,hm,hB,hs=>by omega
  | [], pre, m, k + 1, hN, hk, hm, hB, hs => by
    refine⟨m,[],rfl,?_,Int.le_refl _,by omega,λk' hk'=>?_⟩
    · rw[bA,EW];exact hg m pre _ (by simpa using hN)
    · cases k' with
      |zero=>simp at hk'
      | succ k' =>
        rw[bA,EW]
        exact hh pre m _ (by simpa using hN)
  | x :: rest, pre, m, k + 1, hN, hk, hm, hB, hs => by
    rw[kn]at hB;simp only[E5]at hN hk;obtain⟨r1,y,a1,a2,a3,a4⟩:=hs x (by simp) m hm (by omega);obtain⟨r,out,b1,b2,b3,b4,b5⟩:=mX hg hh rest (pre++[y]) r1 k (by simp;omega) (by omega) (by omega) (by omega) λz hz=>hs z (by simp[hz])
    have e1:((pre++[y]).length:Int)=(pre.length:Int)+1:=by simp
    have e2:∀l,(pre++[y])++l=pre++y::l:=λl=>by simp
    rw[e1]at b2 b5;rw[e2]at b2;rw[e2]at b5;rw[e2]at b2;refine⟨r,y::out,by simp[b1],?_,by omega,by rw[kn];omega,λk' hk'=>?_⟩
    · rw[bA,a3 pre.length _ _ (by simp;omega) (by omega) (by simp),List.set_append_right _ _ (by omega),Nat.sub_self,List.set_cons_zero];exact b2
    · cases k' with
      |zero=>simp at hk'
      | succ k' =>
        rw[bA,a4 pre.length _ _ (by simp;omega) (by omega) (by simp)];exact b5 k' (by simp at hk';omega)
theorem oE {α R:Type} {t:α->Nat} {g:Int× Int× List α->(Int× Int× List α->Option R)->Option R} {fin:Int× List α->Option R} {N:Nat}
    (hg:∀(m:Int) (ys:List α) next,ys.length=N->g (m,(ys.length:Int),ys) next=fin (m,ys)):
    ∀(rest pre:List α) (m:Int) (k:Nat),pre.length+rest.length=N->rest.length<k->0<=m->m+16*ll t rest<=pR->
    (∀x∈rest,∀m:Int,0<=m->m+16*(t x+1)<=pR->∃r y,m<=r/\r<=m+16*(t x+1)/\
      (∀(i:Nat) (ys:List α) next,ys.length=N->i<N->ys[i]? =some x->g (m,(i:Int),ys) next=next (r,(i:Int)+1,ys.set i y)))->
    ∃r out,out.length=rest.length/\iter g k (m,(pre.length:Int),pre++rest)=fin (r,pre++out)/\m<=r/\r<=m+16*ll t rest
  |[],pre,m,0,hN,hk,hm,hB,hs=>by omega
  |_::_,pre,m,0,hN,hk,hm,hB,hs=>by omega
  | [], pre, m, k + 1, hN, hk, hm, hB, hs => by
    refine⟨m,[],rfl,?_,Int.le_refl _,by omega⟩;rw[bA,EW]
    exact hg m pre _ (by simpa using hN)
  | x :: rest, pre, m, k + 1, hN, hk, hm, hB, hs => by
    rw[kn]at hB;simp only[E5]at hN hk;obtain⟨r1,y,a1,a2,a3⟩:=hs x (by simp) m hm (by omega);obtain⟨r,out,b1,b2,b3,b4⟩:=oE hg rest (pre++[y]) r1 k (by simp;omega) (by omega) (by omega) (by omega) λz hz=>hs z (by simp[hz])
    have e1:((pre++[y]).length:Int)=(pre.length:Int)+1:=by simp
    have e2:∀l,(pre++[y])++l=pre++y::l:=λl=>by simp
    rw[e1]at b2;rw[e2]at b2;rw[e2]at b2;refine⟨r,y::out,by simp[b1],?_,by omega,by rw[kn];omega⟩;rw[bA,a3 pre.length _ _ (by simp;omega) (by omega) (by simp),List.set_append_right _ _ (by omega),Nat.sub_self,List.set_cons_zero];exact b2
end
section
variable [Tok]
def AD:Nat:=9223372036854775807
def okS {α:Type} (p:α->Prop) (xs:List α):Prop:=xs.length<=AD/\∀x∈xs,p x
def okB (n:Int):Prop:=0<=n/\n<=255
def Shape.Ok (s:Shape):Prop:=okI s.h/\okI s.w/\okI s.c
def eM.Ok (t:eM):Prop:=t.sh.Ok/\okS okI t.data
def oK.Ok (l:oK):Prop:=okI l.kind/\okI l.out/\okI l.size/\okI l.step/\okI l.mult/\okI l.shift/\okI l.zero/\okS okI l.weights/\okS okI l.DT
def Model.Ok (m:Model):Prop:=m.inp.Ok/\okS oK.Ok m.ny
def Job.Ok (j:Job):Prop:=j.model.Ok/\okI j.at_/\j.act.Ok/\okI j.yY
def Task.Ok (t:Task):Prop:=okI t.id/\okS okI t.yZ/\okI t.at_/\okI t.due/\okI t.born
def za.Ok (s:za):Prop:=okI s.now/\okI s.Dh/\okI s.age/\okS Task.Ok s.tasks/\okI s.run/\okI s.left/\okI s.turns/\okI s.next
def Request.Ok (r:Request):Prop:=okI r.id/\okI r.model/\r.job.Ok/\okI r.due
def Runtime.Ok (r:Runtime):Prop:=r.sched.Ok/\okS Model.Ok r.BX/\okS (λ_=>True) r.BZ/\okS Request.Ok r.zb
def Step.Ok (s:Step):Prop:=okI s.kind/\okI s.a/\okI s.b/\okS okB s.data/\s.input.Ok
def Event.Ok (e:Event):Prop:=okI e.kind/\okI e.a/\okI e.b/\e.out.Ok
def Entry.Ok (e:Entry):Prop:=okI e.id/\e.model.Ok/\e.input.Ok/\okI e.at_/\okI e.due/\okI e.end_
def Wish.Ok (w:Wish):Prop:=okI w.id/\okI w.model/\okI w.due
theorem De {n:Int} (h:(R.int .i64 n).Wf):okI n:=by
 cases h with
 |int _ _ h=>simp[Lit.wf,IntKind.min,IntKind.max,IntKind.signed,IntKind.bits]at h;exact h
theorem DP {t:Ty} {xs:List t.El} {p:t.El->Prop} (h:(R.sl t xs).Wf) (hp:∀x∈xs,(∀r∈t.cells x,r.Wf)->p x):okS p xs:=by
 cases h with
 |sl _ _ h hl=>
  refine⟨by unfold AD;unfold maxLen at hl;omega,λx hx=>hp x hx λr hr=>?_⟩;obtain⟨i,hi⟩:=Ff hx;obtain⟨j,hj⟩:=Ff hr;exact h i j r ⟨x,hi,hj⟩
theorem BD {x:Wish} (h:∀r∈v3 x,r.Wf):x.Ok:=by
 simp[v3]at h;exact⟨De h.1,De h.2.1,De h.2.2⟩
theorem z8 {xs:List Wish} (h:(R.sl (.st .wish) xs).Wf):okS Wish.Ok xs:=DP h λx _ hx=>BD hx
section
variable {P:Program} {tt:TT} {T:TypeId} {a:Arg}
def ko (P:Program) (T:TypeId):Bool:=
 match P.underlying T with
 |some (.struct _)=>true
 |_=>false
theorem rq {t:Ty} (hf:lj P tt 8 T=some [t]) (hs:ko P T=false) (h:tn P tt T a):∃r:R,a=.one r/\r.ty=t/\r.Wf:=by
 obtain⟨ts,h1,_,h3⟩:=h;rw[hf]at h1;cases h1;obtain⟨r,rfl,g1,g2⟩:=h3 (λfs e=>by simp[ko,e]at hs);exact⟨r,rfl,by simpa using g1,g2⟩
theorem BF (hf:lj P tt 8 T=some [.int .i64]) (hs:ko P T=false) (h:tn P tt T a):∃n:Int,a=.one (.i n)/\okI n:=by
 obtain⟨r,rfl,h1,h2⟩:=rq hf hs h;obtain⟨n,rfl⟩:=bg h1;exact⟨n,rfl,De h2⟩
theorem z9 {t:Ty} (hf:lj P tt 8 T=some [.sl t]) (hs:ko P T=false) (h:tn P tt T a):∃xs:List t.El,a=.one (.sl t xs)/\(R.sl t xs).Wf:=by
 obtain⟨r,rfl,h1,h2⟩:=rq hf hs h;obtain⟨n,rfl⟩:=kh h1;exact⟨n,rfl,h2⟩
theorem tr {as:List Arg} {T U:TypeId} (h:mW P tt [T,U] as):∃a b,as=[a,b]/\tn P tt T a/\tn P tt U b:=by
 match as,h with
 |[a,b],h=>exact⟨a,b,rfl,h.1,h.2.1⟩
end
theorem vI {P:Program} {g:FuncId} {G:PG} (h:uk P g G) {as:List Arg} {o:Out} (hG:G Out as some=some o):eY P g as o:=by
 obtain⟨o',h1,h2⟩:=h Out as some o hG;cases h1;exact h2
theorem Aa {p:TypeId->Bool} {l:List TypeId} (h:l.all p=true):∀t∈l,p t=true:=λt ht=>List.all_eq_true.1 h t ht
end
section
variable [Tok]
section
variable {P:Program} {tt:TT} {T:TypeId} {a:Arg}
end
end
end Go.Proofs.Ev
