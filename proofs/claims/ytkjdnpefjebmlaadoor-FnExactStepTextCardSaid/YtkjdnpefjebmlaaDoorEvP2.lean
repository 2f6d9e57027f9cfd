/- Plain laws: shapes and tensors: Reshape, FlatOf. -/
import Derived.Test.YtkjdnpefjebmlaaDoorEvP1
import Derived.Test.YtkjdnpefjebmlaaDoorEvK7
set_option linter.unusedVariables false
set_option linter.unusedSimpArgs false
set_option linter.unusedSectionVars false
namespace Go.Proofs.Ev
open IntKind(i64 u8 u64)
def marked (m:Int) (n:Nat):List Int:=(List.range n).map λ(i:Nat)=>m+(i:Int)
@[simp] theorem vF (m:Int) (n:Nat):(marked m n).length=n:=by simp[marked]
def inB (x a b:Int):Bool:=decide (a<=x/\x<=b)
theorem lP (k:Nat) (x a b:Int):gx k x a b=some (inB x a b):=by
 unfold gx inB;rw[aj];by_cases h:a<=x<;>simp[h]
theorem ui (k:Nat) (x a b:Int):xp k x a b=some (inB x a b):=by
 unfold xp inB;rw[aj];by_cases h:a<=x<;>simp[h]
def Shape.okB (s:Shape):Bool:=inB s.h 1 8&&(inB s.w 1 8&&inB s.c 1 8)
theorem jd (k:Nat) (s:Shape):fj k s=some s.okB:=by
 unfold fj Shape.okB;simp only[lP,ar];cases inB s.h 1 8<;>cases inB s.w 1 8<;>rfl
theorem je (k:Nat) (s:Shape):fk k s=some s.okB:=by
 unfold fk Shape.okB;simp only[ui,ar];cases inB s.h 1 8<;>cases inB s.w 1 8<;>rfl
theorem Shape.vG {s:Shape} (h:s.okB=true):1<=s.h/\s.h<=8/\1<=s.w/\s.w<=8/\1<=s.c/\s.c<=8:=by
 simp only[Shape.okB,inB,Bool.and_eq_true,decide_eq_true_eq]at h;omega
def Shape.size (s:Shape):Int:=cond s.okB (s.h*s.w*s.c) 0
theorem oe {s:Shape} (h:s.okB=true):i64.wrap (i64.wrap (s.h*s.w)*s.c)=s.h*s.w*s.c:=by
 obtain⟨h1,h2,h3,h4,h5,h6⟩:=Shape.vG h;have a:=we (show 0<=s.h by omega) h2 (show 0<=s.w by omega) h4;have b:=we a.1 a.2 (show 0<=s.c by omega) h6;rw[nV (n:=s.h*s.w) (by omega) (by omega),nV (by omega) (by omega)]
theorem pZ (k:Nat) (s:Shape):ju k s=some s.size:=by
 unfold ju Shape.size;simp only[jd,ar,cond_not];cases h:s.okB
 ·rfl
 ·simp only[cond_true,oe h]
theorem p4 (k:Nat) (s:Shape):jv k s=some s.size:=by
 unfold jv Shape.size;simp only[je,ar,cond_not];cases h:s.okB
 ·rfl
 ·simp only[cond_true,oe h]
def uj (xs:List Int):Bool:=xs.all λx=>inB x (-128) 127
def aG.okB (t:aG):Bool:=t.sh.okB&&(decide ((t.data.length:Int)=t.sh.size)&&uj t.data)
theorem ib {k:Nat} {t:aG} (hk:t.data.length<k) (hx:t.data.length<=mM):da k t=some t.okB:=by
 unfold mM at hx;unfold da aG.okB;simp only[jd,pZ,ar,cond_not,mL];cases t.sh.okB
 ·rfl
 simp only[cond_true,Bool.true_and];by_cases h:(t.data.length:Int)=t.sh.size
 ·rw[if_pos h,decide_eq_true h,Bool.true_and]
  rw[vA t.data (λx=>inB x (-128) 127) (λi hi next=>by
   simp only[cW,aj,kz,lP,ar,cond_not]
   rw[if_pos (by omega),iP,fE hi,ar,hC hi (by omega)]) (λnext=>by
   simp only[cW,aj];rw[if_neg (by omega)]) hk]
  show _=some (t.data.all _);cases t.data.all λx=>inB x (-128) 127<;>rfl
 ·rw[if_neg h,decide_eq_false h];rfl
theorem oh {α:Type} {p:α->Bool} (xs:List α):((xs.findIdx? p).elim (some (-1:Int)) λi=>some (i:Int))=some ((xs.findIdx? p).elim (-1) λi=>(i:Int)):=by
 cases xs.findIdx? p<;>rfl
theorem se {α:Type} {p:α->Bool} (xs:List α):decide (((xs.findIdx? p).elim (-1:Int) λi=>(i:Int))>=0)=xs.any p:=by
 cases h:xs.findIdx? p with
 |none=>
  rw[List.findIdx?_eq_none_iff]at h
  have:xs.any p=false:=by simpa using h
  rw[this];rfl
 |some i=>
  have:xs.any p=true:=by
   have:=List.findIdx?_eq_some_iff_getElem.1 h;obtain⟨hi,hp,_⟩:=this;exact List.any_eq_true.2 ⟨_,List.getElem_mem hi,hp⟩
  rw[this];simp
theorem mP {k:Nat} {xs:List Int} (hk:xs.length<k) (hx:xs.length<=mM):fG k xs=some (uj xs):=by
 unfold mM at hx;unfold fG aA aB
 rw[ud xs (λx=>!inB x (-128) 127) (λi hi next=>by
  simp only[av,aj,eF,ui,ar]
  rw[if_pos (by omega),iP,fE hi,ar,hC hi (by omega)]) (λnext=>by
  simp only[av,aj];rw[if_neg (by omega)]) hk]
 rw[oh];simp only[ar,se];unfold uj;rw[List.any_eq_not_all_not];simp
theorem ic {k:Nat} {t:aG} (hk:t.data.length<k) (hx:t.data.length<=mM):db k t=some t.okB:=by
 unfold db aG.okB;simp only[je,p4,ar,vy,mP hk hx];cases t.sh.okB
 ·rfl
 simp only[cond_true,Bool.true_and];by_cases h:(t.data.length:Int)=t.sh.size
 ·rw[if_pos h,decide_eq_true h,Bool.true_and]
 ·rw[if_neg h,decide_eq_false h];rfl
end Go.Proofs.Ev
