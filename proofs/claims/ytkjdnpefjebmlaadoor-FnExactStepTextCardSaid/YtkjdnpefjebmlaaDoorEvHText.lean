/- strconv.Itoa, and impl.spaced: numbers written into a builder. -/
import Derived.Test.YtkjdnpefjebmlaaDoorProg
import Derived.Test.YtkjdnpefjebmlaaDoorEvK7
import Derived.Test.YtkjdnpefjebmlaaDoorEvD25
import Derived.Test.YtkjdnpefjebmlaaDoorEvSTryd
import Derived.WalkKit
import Derived.Lib.AppendStr
import Derived.Laws.Externs
import Derived.Laws.IdiomCopy
set_option linter.unusedVariables false
set_option linter.unusedSimpArgs false
set_option linter.unusedSectionVars false
set_option maxRecDepth 100000
set_option maxHeartbeats 4000000
namespace Go.Proofs.Ev
open Go Go.RowKit
noncomputable section
variable [Tok]
instance(priority:=high) doorGlo:Glo:=powGlo 0
theorem pow_named:Tryd.prog.globalNamed "internal/strconv.uint64pow10"=some 0:=by kernel_rfl
theorem bl_size:(Tryd.prog.info? 58).map (·.size)=some 2:=by kernel_rfl
theorem bl_lies:liesAt Tryd.prog Tryd.prog.depth 58 (2/Tryd.prog.cellsOf 58) 0 58 1=true:=by kernel_rfl
theorem cc_used (b:Nat) (w:World) (h0:w.cell? ⟨b,0,none⟩=some (.pointer (some ⟨b,0,none⟩))):
  Calls Tryd.prog 39 #[.pointer (some ⟨b,0,none⟩)] w λe w'=>e=.returned (.tuple #[])/\w'=w:=by
 obtain⟨j,hj,_⟩:=Option.map_eq_some_iff.1 bl_size
 go_enter Tryd.func39,Tryd.ntmps39
 go_wp2
 rw[Lib.run_neq_ptr_same w _ Tryd.underlying56 hj]
 go_wp2
 go_end0
 exact⟨rfl,rfl⟩
theorem cc_fresh (b:Nat) (w:World) (h0:w.cell? ⟨b,0,none⟩=some (.pointer none)) (hsh:w.shape? b=some (58,2)) (hfz:w.frozen? ⟨b,0,none⟩=false):
  Calls Tryd.prog 39 #[.pointer (some ⟨b,0,none⟩)] w λe w'=>e=.returned (.tuple #[])/\w'=w.setCell ⟨b,0,none⟩ (.pointer (some ⟨b,0,none⟩)):=by
 obtain⟨j,hj,hjs⟩:=Option.map_eq_some_iff.1 bl_size
 go_enter Tryd.func39,Tryd.ntmps39
 go_wp2
 rw[Lib.run_to_unsafe w ⟨b,0,none⟩ Tryd.underlying56 Tryd.underlying77 hj (by rw[hjs];decide) hsh (Nat.zero_lt_succ 1)];simp only[Result.andThen];rw[Oper.upon_value]
 go_wp2
 rw[run_callFunc_extern Tryd.func47 (by kernel_rfl) (by kernel_rfl) (by kernel_rfl) (e:=Extern.AbiNoEscape.same) (by kernel_rfl)];rw[Lib.run_noEscape];simp only[Result.andThen];rw[Oper.upon_value]
 go_wp2
 rw[Lib.run_from_unsafe w ⟨b,0,none⟩ Tryd.underlying77 Tryd.underlying56 hj hsh bl_lies];simp only[Result.andThen];rw[Oper.upon_value]
 go_wp2
 go_end0
 exact⟨rfl,rfl⟩
theorem cc_calls (B b:Nat) (bs:List Value) (w:World) (h:Lib.IsBuilder 58 5 B b bs w):
  Calls Tryd.prog 39 #[.pointer (some ⟨b,0,none⟩)] w λe w'=>e=.returned (.tuple #[])/\Lib.BuilderAt 58 5 B b (.pointer (some ⟨b,0,none⟩)) bs w'/\Below B w w':=by
 rcases h with h|h
 ·exact(cc_fresh b w h.cell0 h.shape h.frozen0).mono λe w' ⟨h1,h2⟩=>by subst h1 h2;exact⟨rfl,h.used _,(Below.refl B w).setCell (p:=⟨b,0,none⟩) h.1 _⟩
 ·exact(cc_used b w h.cell0).mono λe w' ⟨h1,h2⟩=>by subst h1 h2;exact⟨rfl,h,Below.refl B _⟩
theorem by_info:(Tryd.prog.info? 5).map (λi=>(i.zero,i.size,i.bytes))=some (some (.int .u8 0),1,1):=by kernel_rfl
theorem ws_calls (B b:Nat) (bs:List Value) (s:ByteArray) (w:World) (h:Lib.IsBuilder 58 5 B b bs w) (hlen:bs.length+s.size<=140737488355328) (hBw:B<=w.heap.size):
  Calls Tryd.prog 29 #[.pointer (some ⟨b,0,none⟩),.string s] w λe w'=>e=.returned (.tuple #[.int .i64 s.size,.nilIface])/\Lib.IsBuilder 58 5 B b (bs++Lib.strCells s) w'/\Below B w w':=by
 obtain⟨i,hi,z1,z2,z3⟩:=info_parts by_info
 go_enter Tryd.func29,Tryd.ntmps29
 go_wp2_with (go_at_call 39;refine(cc_calls B b bs _ h).mono ?_)
 rintro e w1 ⟨rfl,h1,hb1⟩
 have hlt:=h1.lt;obtain⟨hB,v,hbk,hown,hne⟩:=h1
 have c0:w1.cell? ⟨b,0,none⟩=some (.pointer (some ⟨b,0,none⟩)):=by rw[Lib.cell_of_heap hbk];rfl
 have c1:w1.cell? ⟨b,1,none⟩=some v:=by rw[Lib.cell_of_heap hbk];rfl
 have hs1:=hb1.size
 go_wp2_with (at_builtin;refine Lib.wpList_append_own_string _ rfl _ _ 22 9 rfl B 5 i Tryd.underlying22 Tryd.underlying9 hi z1 z2 z3 _ _ _ rfl hown s rfl (by unfold maxLen;omega) (by omega) (by omega) ?_)
 intro v' w2 hown' hgrow _
 have hb2:w2.heap[b]? =some (.cells #[.pointer (some ⟨b,0,none⟩),v] 58 (0,0)):=(hgrow.block b hlt λe=>hne e.symm).trans hbk
 have d0:w2.cell? ⟨b,0,none⟩=some (.pointer (some ⟨b,0,none⟩)):=by rw[Lib.cell_of_heap hb2];rfl
 have d1:w2.cell? ⟨b,1,none⟩=some v:=by rw[Lib.cell_of_heap hb2];rfl
 have f1:w2.frozen? ⟨b,1,none⟩=false:=Lib.frozen_of_heap hb2 1;obtain⟨x,y,z,rfl⟩:∃x y z,v'=.slice x y z:=hown'.2.elim (λh=>⟨_,_,_,h.1⟩) λ⟨_,_,_,h,_⟩=>⟨_,_,_,h⟩
 go_wp2
 go_ret2
 exact⟨rfl,.inr (Lib.BuilderAt.put hB hb2 (by simpa[Lib.strCells_length]using hown') (by decide)),(hb1.grown hgrow (by omega) λk hk=>(hown.lt k hk).1).setCell (p:=⟨b,1,none⟩) hB _⟩
theorem itoa_calls (n:Int) (h0:-9223372036854775808<=n) (h1:n<=9223372036854775807) (w:World) (hg:GlobW w λ_=>False):
  Calls Tryd.prog 16 #[.int .i64 n] w λe w'=>e=.returned (.string ⟨(Lib.itoa n).toArray⟩)/\Below w.heap.size w w':=by
 refine(Tryd.strconv_Itoa n h0 h1 w (tab_of pow_named hg)).mono ?_
 rintro e w' ⟨rfl,k,os,rfl⟩
 exact⟨rfl,below_grow _ _ _⟩
def o_strconv_Itoa (k:Nat):O Tryd.prog 16:=okH [.one (.int .i64)] [] cdZ ⟨.h 0,[]⟩ cdT (strconv_Itoa k) λ(n:Int) b h=>by
 refine pure_str (enters_of Tryd.func16 (by kernel_rfl) (by kernel_rfl)) λw us ok hl hr hg=>?_
 obtain⟨u,rfl⟩:∃u,us=#[u]:=by
  have:us.size=1:=hl.symm;exact⟨us[0],by ext i h1 h2<;>grind⟩
 have h0:RepR w ok (.int .i64 n) u:=hr 0 _ u rfl rfl;cases h0;unfold strconv_Itoa at h
 cases hc:(decide (-9223372036854775808<=n)&&decide (n<=9223372036854775807))with
 |false=>rw[hc]at h;exact nomatch h
 |true=>
  rw[hc]at h;cases h;simp only[Bool.and_eq_true,decide_eq_true_eq]at hc;exact itoa_calls n hc.1 hc.2 w hg
theorem spacedL_append:∀a b:List Int,spacedL (a++b)=spacedL a++spacedL b
 |[],b=>rfl
 |x::a,b=>by simp[spacedL,spacedL_append a b]
theorem spacedL_le:∀l:List Int,(∀x∈l,-9223372036854775808<=x/\x<=9223372036854775807)->(spacedL l).length<=22*l.length
 |[],_=>Nat.le_refl _
 |x::l,h=>by
  have:=Lib.itoa_length_le x (h x (by simp)).1 (h x (by simp)).2;have:=spacedL_le l λy hy=>h y (by simp[hy]);simp only[spacedL,List.length_cons,List.length_append];omega
theorem sp_calls (b off cap:Nat) (l:List Int) (w:World) (hb:l≠[]->b<w.heap.size) (hm:l.length<=2000000) (hc:∀k x,l[k]? =some x->w.cell? ⟨b,off+k,none⟩=some (.int .i64 x))
  (hw:∀x∈l,-9223372036854775808<=x/\x<=9223372036854775807) (a:Option Addr) (ha:l=[]\/a=some ⟨b,off,none⟩) (hg:GlobW w λ_=>False):
  Calls Tryd.prog 17 #[.slice a l.length cap] w λe w'=>e=.returned (.string ⟨(spacedL l).toArray⟩)/\Below w.heap.size w w':=by
 go_enter Tryd.func17,Tryd.ntmps17
 go_wp2
 go_loopw [10] (λi wr=>∃k:Nat,k<=l.length/\i=.int .i64 k/\Lib.IsBuilder 58 5 w.heap.size w.heap.size (Lib.byteCells (spacedL (l.take k))) wr/\Below w.heap.size w wr)
  (λi _=>l.length-(intOf i).toNat)
 case atStart=>exact⟨0,Nat.zero_le _,rfl,by simpa[spacedL,Lib.byteCells]using Lib.fresh_isBuilder 58 5 w,(Below.refl _ _).alloc (Nat.le_refl _) _⟩
 case round=>
  obtain⟨k,hk,rfl,hB,hnx⟩:=hrel;have hgr:=globW_below hg hnx;have hwr:=hnx.size;by_cases hlt:k<l.length
  ·obtain⟨x,hx⟩:∃x,l[k]? =some x:=⟨l[k],List.getElem?_eq_getElem hlt⟩
   have hne:l≠[]:=by rintro rfl;simp at hlt
   obtain rfl:=ha.resolve_left hne;have hcx:wr.cell? ⟨b,off+k,none⟩=some (.int .i64 x):=(hnx.cell (by exact hb hne)).trans (hc k x hx);have hwx:=hw x (List.mem_of_getElem? hx);have hln:=spacedL_le (l.take k) λy hy=>hw y (List.mem_of_mem_take hy);have hlx:=Lib.itoa_length_le x hwx.1 hwx.2
   have htk:l.take (k+1)=l.take k++[x]:=by rw[List.take_add_one,hx];rfl
   clear hb hc hw hg;rw[List.length_take]at hln
   go_wp2_with (first
    |(go_at_call 16;refine(itoa_calls x hwx.1 hwx.2 _ hgr).mono ?_;rintro e w1 ⟨rfl,hb1⟩)
    |(go_at_call 29;refine(ws_calls w.heap.size w.heap.size _ _ _ (isBuilder_below hB hb1) ?_ ?_).mono ?_))
   ·have e:(({data:=#[32]}:ByteArray)++({data:=(Lib.itoa x).toArray}:ByteArray)).size=1+(Lib.itoa x).length:=by simp only[ByteArray.size,ByteArray.data_append,Array.size_append];simp
    rw[e,Lib.byteCells_length];omega
   ·have:=hb1.size;omega
   ·rintro e w2 ⟨rfl,hB2,hb2⟩
    go_wp2
    have e:Lib.byteCells (spacedL (l.take k))++Lib.strCells (({data:=#[32]}:ByteArray)++({data:=(Lib.itoa x).toArray}:ByteArray))=Lib.byteCells (spacedL (l.take (k+1))):=by
     rw[htk,spacedL_append,Lib.byteCells_append,Lib.strCells_eq];simp[ByteArray.data_append,spacedL]
    rw[e]at hB2;refine⟨⟨k+1,hlt,by simp,hB2,(hnx.trans (hb1.mono hwr)).trans hb2⟩,by simp[intOf];omega⟩
  ·go_wp2_with (go_at_call 30;refine(Tryd.Builder_String_any w.heap.size w.heap.size _ _ hB hwr).mono ?_;rintro e w1 ⟨rfl,hb1⟩)
   go_ret
   have e:k=l.length:=by omega
   subst e;rw[List.take_length];exact⟨rfl,hnx.trans hb1⟩
def o_I_spaced (k:Nat):O Tryd.prog 17:=okH [.one (.sl (.int .i64))] [] (cdL (.int .i64)) ⟨.h 0,[]⟩ cdT (I_spaced k) λ(l:List Int) b h=>by
 refine pure_str (enters_of Tryd.func17 (by kernel_rfl) (by kernel_rfl)) λw us ok hl hr hg=>?_
 obtain⟨u,rfl⟩:∃u,us=#[u]:=by
  have:us.size=1:=hl.symm;exact⟨us[0],by ext i h1 h2<;>grind⟩
 have h0:RepR w ok (.sl (.int .i64) l) u:=hr 0 _ u rfl rfl;unfold I_spaced at h
 cases hc:(decide (l.length<=2000000)&&l.all λx=>decide (-9223372036854775808<=x)&&decide (x<=9223372036854775807))with
 |false=>rw[hc]at h;exact nomatch h
 |true=>
  rw[hc]at h;cases h;simp only[Bool.and_eq_true,decide_eq_true_eq,List.all_eq_true]at hc
  cases h0 with
  |sl t xs a cap b o vs hcap ha hcc hrr=>
   have cell:∀k x,l[k]? =some x->w.cell? ⟨b,o+k,none⟩=some (.int .i64 x):=λk x hx=>by
    have q1:=(hcc k 0 (.int .i64 x) ⟨x,hx,rfl⟩).2;have q2:=hrr k 0 (.int .i64 x) ⟨x,hx,rfl⟩;generalize vs k 0=v at q1 q2;cases q2
    have e:o+(k*(Ty.int IntKind.i64).sz+0)=o+k:=by show o+(k*1+0)=o+k;omega
    rw[e]at q1;exact q1
   exact sp_calls b o cap l w (λhne=>by
    obtain⟨x,l',rfl⟩:∃x l',l=x::l':=by cases l with|nil=>exact absurd rfl hne|cons x l'=>exact⟨x,l',rfl⟩
    have:=cell 0 x rfl;unfold World.cell? at this
    cases hb:w.heap[b]? with
    |none=>simp[hb]at this
    |some o=>exact(Array.getElem?_eq_some_iff.1 hb).1) hc.1 cell hc.2 a ha hg
end
end Go.Proofs.Ev
