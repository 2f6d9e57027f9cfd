/- The evaluator over the model's code, and that it is sound: part 8. -/
import Derived.Test.YtimmojehndbiiaaGreatEvK7
set_option linter.unusedVariables false
set_option linter.unusedSimpArgs false
set_option linter.unusedSectionVars false
namespace Go.Proofs.Ev
section
theorem aa {α β:Type} (a:α) (f:α->Option β):(some a).bind f=f a:=rfl
theorem qc {α R:Type} (xs:List α) (p:α->Bool) {g:Int->(Int->Option R)->Option R} {yes no:Option R}
  (h:∀(i:Nat) (hi:i<xs.length) (next:Int->Option R),g (i:Int) next=cond (p xs[i]) (next ((i+1:Nat):Int)) no)
  (hn:∀next,g (xs.length:Int) next=yes) {k:Nat} (hk:xs.length<k):iter g k 0=cond (xs.all p) yes no:=by
 have:=kb (g:=g) (st:=λi=>(i:Int)) (n:=xs.length) (P:=λi=>cond ((xs.drop i).all p) yes no) (λi hi next e=>by
  rw[h i hi next,fJ hi,List.all_cons];cases hp:p xs[i]
  ·rfl
  ·simp only[cond_true,Km];exact e) (λnext=>by rw[Lr];exact hn next) k 0 (Kw _) (by omega)
 simpa using this
theorem wM {α R:Type} (xs:List α) (p:α->Bool) {g:Int->(Int->Option R)->Option R} {yes:Option R} {no:Int->Option R}
  (h:∀(i:Nat) (hi:i<xs.length) (next:Int->Option R),g (i:Int) next=cond (p xs[i]) (no (i:Int)) (next ((i+1:Nat):Int)))
  (hn:∀next,g (xs.length:Int) next=yes) {k:Nat} (hk:xs.length<k):iter g k 0=(xs.findIdx? p).elim yes λi=>no (i:Int):=by
 have:=kb (g:=g) (st:=λi=>(i:Int)) (n:=xs.length) (P:=λi=>((xs.drop i).findIdx? p).elim yes λj=>no ((i+j:Nat):Int)) (λi hi next e=>by
  rw[h i hi next,fJ hi,List.findIdx?_cons];cases hp:p xs[i]
  ·simp only[cond_false,Li,if_false];rw[e]
   cases(xs.drop (i+1)).findIdx? p with
   |none=>rfl
   |some j=>simp only[Lm,Option.elim_some];congr 2;omega
  ·simp) (λnext=>by rw[Lr];simpa using hn next) k 0 (Kw _) (by omega)
 simpa using this
theorem Fu {α β R:Type} (xs:List α) (f:α->β) {g:Int× List β->(Int× List β->Option R)->Option R} {fin:List β->Option R}
  (h:∀(i:Nat) (ys:List β) (hi:i<xs.length) (next:Int× List β->Option R),ys.length=i->g ((i:Int),ys) next=next (((i+1:Nat):Int),ys++[f xs[i]]))
  (hn:∀ys next,g ((xs.length:Int),ys) next=fin ys) {k:Nat} (hk:xs.length<k):iter g k (0,[])=fin (xs.map f):=by
 have:=eJ (g:=g) (st:=λi=>((i:Int),(xs.take i).map f)) (n:=xs.length) (r:=fin (xs.map f)) (λi hi next=>by
  rw[h i _ hi next (by simp;omega),dC hi,LB];rfl) (λnext=>by rw[KZ];exact hn _ _) hk
 simpa using this
theorem wN {α S R:Type} (xs:List α) (f:S->α->S) {g:S× Int->(S× Int->Option R)->Option R} {fin:S->Option R} (s0:S)
  (h:∀(i:Nat) (s:S) (hi:i<xs.length) (next:S× Int->Option R),s=(xs.take i).foldl f s0->g (s,(i:Int)) next=next (f s xs[i],((i+1:Nat):Int)))
  (hn:∀next,g (xs.foldl f s0,(xs.length:Int)) next=fin (xs.foldl f s0)) {k:Nat} (hk:xs.length<k):iter g k (s0,0)=fin (xs.foldl f s0):=by
 have:=eJ (g:=g) (st:=λi=>((xs.take i).foldl f s0,(i:Int))) (n:=xs.length) (r:=fin (xs.foldl f s0)) (λi hi next=>by
  rw[h i _ hi next rfl,dC hi,K6];rfl) (λnext=>by
  simp only[KZ];exact hn next) hk
 simpa using this
theorem lr {a b A B:Int} (h1:0<=a) (h2:a<=A) (h3:0<=b) (h4:b<=B):0<=a*b/\a*b<=A*B:=
 ⟨KM h1 h3,K7 h2 h4 h3 (by omega)⟩
end
section
theorem aL:bJ=274877906944:=rfl
def jo {α:Type} (t:α->Nat) (xs:List α):Nat:=xs.length+(xs.map t).sum
theorem DT {α:Type} (t:α->Nat):∀{xs:List α} {x:α},x∈xs->t x<=(xs.map t).sum
 |y::xs,x,h=>by
  simp only[KT,List.sum_cons]
  rcases Kq.1 h with rfl|h
  ·omega
  ·have:=DT t h;omega
theorem qd {α:Type} (t:α->Nat) {xs:List α} {x:α} (h:x∈xs):t x+1<=jo t xs:=by
 have:=DT t h;have:=List.length_pos_of_mem h;unfold jo;omega
theorem lU {α:Type} (t:α->Nat) (xs:List α):xs.length<=jo t xs:=by unfold jo;omega
theorem fK {α:Type} (t:α->Nat) (x:α) (xs:List α):jo t (x::xs)=t x+1+jo t xs:=by simp[jo];omega
theorem mU {α:Type} (t:α->Nat) (xs ys:List α):jo t (xs++ys)=jo t xs+jo t ys:=by simp[jo];omega
end
section
variable [Tok]
def oA:Nat:=9223372036854775807
def okS {α:Type} (p:α->Prop) (xs:List α):Prop:=xs.length<=oA/\∀x∈xs,p x
def okB (n:Int):Prop:=0<=n/\n<=255
theorem Jd {n:Int} (h:(R.int .u8 n).Wf):okB n:=by
 cases h with
 |int _ _ h=>simp[Lit.wf,IntKind.min,IntKind.max,IntKind.signed,IntKind.bits]at h;exact h
theorem Je {t:Ty} {xs:List t.El} {p:t.El->Prop} (h:(R.sl t xs).Wf) (hp:∀x∈xs,(∀r∈t.cells x,r.Wf)->p x):okS p xs:=by
 cases h with
 |sl _ _ h hl=>
  refine⟨by unfold oA;unfold maxLen at hl;omega,λx hx=>hp x hx λr hr=>?_⟩;obtain⟨i,hi⟩:=KQ hx;obtain⟨j,hj⟩:=KQ hr;exact h i j r ⟨x,hi,hj⟩
theorem Fv {xs:List Int} (h:(R.bytes xs).Wf):okS okB xs:=Je h λx _ hx=>Jd (hx _ (by simp[Ty.cells]))
section
variable {P:Program} {tt:TT} {T:TypeId} {a:Arg}
def rp (P:Program) (T:TypeId):Bool:=
 match P.underlying T with
 |some (.struct _)=>true
 |_=>false
theorem DU {t:Ty} (hf:pU P tt 8 T=some [t]) (hs:rp P T=false) (h:DL P tt T a):∃r:R,a=.one r/\r.ty=t/\r.Wf:=by
 obtain⟨ts,h1,_,h3⟩:=h;rw[hf]at h1;cases h1;obtain⟨r,rfl,g1,g2⟩:=h3 (λfs e=>by simp[rp,e]at hs);exact⟨r,rfl,by simpa using g1,g2⟩
theorem Fw {t:Ty} (hf:pU P tt 8 T=some [.sl t]) (hs:rp P T=false) (h:DL P tt T a):∃xs:List t.El,a=.one (.sl t xs)/\(R.sl t xs).Wf:=by
 obtain⟨r,rfl,h1,h2⟩:=DU hf hs h;obtain⟨n,rfl⟩:=nO h1;exact⟨n,rfl,h2⟩
theorem zn {as:List Arg} {T:TypeId} (h:rn P tt [T] as):∃a,as=[a]/\DL P tt T a:=by
 match as,h with
 |[a],h=>exact⟨a,rfl,h.1⟩
end
theorem BH {P:Program} {g:FuncId} {G:PG} (h:Ae P g G) {as:List Arg} {o:Out} (hG:G Out as some=some o):gS P g as o:=by
 obtain⟨o',h1,h2⟩:=h Out as some o hG;cases h1;exact h2
theorem Fx {p:TypeId->Bool} {l:List TypeId} (h:l.all p=true):∀t∈l,p t=true:=λt ht=>KP.1 h t ht
end
section
variable [Tok]
section
variable {P:Program} {tt:TT} {T:TypeId} {a:Arg}
end
end
end Go.Proofs.Ev
