/- Typed functions and what holds of them: part 5. -/
import Derived.Test.YtpiopmjbcadfbaaGreatEvL4
set_option linter.unusedVariables false
set_option linter.unusedSimpArgs false
set_option linter.unusedSectionVars false
namespace Go.Proofs.Ev
open IntKind(i64 u8 u64)
section
def zf (key:Task->Int):List Task->Option Task
 |[]=>none
 |x::xs=>some (xs.foldl (λm t=>cond (decide (key t<key m)) t m) x)
theorem tS (k:Nat) (a b:Int):eE k a b=some (cond (decide (a<b)) (-1) (cond (decide (a>b)) 1 0)):=by
 unfold eE ma;grind
theorem Hm {k:Nat} {a b:Int} (hk:3<k):pn k [a,b]=some (cond (a !=0) a b):=by
 obtain⟨k,rfl⟩:∃k',k=k'+3:=⟨k-3,by omega⟩;unfold pn;show cond (a !=0) (some a) (iter (λu4 n4=>mb (k+3) ((0:Int),[a,b],(([a,b]:List Int).length:Int)) u4 n4 (λy2=>some (0:Int)) (λy3=>some y3)) (k+2) (i64.wrap (0+1)))=_;cases h:a !=0
 ·rw[aE (n:=0+1) (by omega) (by omega)];show cond (b !=0) (some b) (iter (λu4 n4=>mb (k+3) ((0:Int),[a,b],(([a,b]:List Int).length:Int)) u4 n4 (λy2=>some (0:Int)) (λy3=>some y3)) (k+1) (i64.wrap (1+1)))=_;cases hb:b !=0
  ·have:b=0:=by simpa using hb
   subst this;rw[aE (n:=1+1) (by omega) (by omega)];rfl
  ·rfl
 ·rfl
theorem Kt {a b i j:Int} (h:j<i):decide (cond (cond (decide (a<b)) (-1) (cond (decide (a>b)) 1 0) !=(0:Int)) (cond (decide (a<b)) (-1) (cond (decide (a>b)) 1 0)) (cond (decide (i<j)) (-1) (cond (decide (i>j)) 1 0))<(0:Int))=decide (a<b):=by
 grind
theorem zI (key:Task->Int):∀(xs:List Task) (x:Task),xs.foldl (λm t=>cond (decide (key t<key m)) t m) x∈x::xs
 |[],x=>by simp
 |y::xs,x=>by
  rw[Wr];have:=zI key xs (cond (decide (key y<key x)) y x);grind
theorem Oz {x:Task} {xs:List Task} (hp:(x::xs).Pairwise λa b=>a.id<b.id) {i:Nat} (hi:i<xs.length) {m:Task} (hm:m∈x::xs.take i):m.id<xs[i].id:=by
 rw[X6]at hp
 rcases V0.1 hm with rfl|hm
 ·grind
 ·obtain⟨j,hj,rfl⟩:=V8.1 hm
  have hj':j<i:=by simp at hj;omega
  rw[List.getElem_take];exact(List.pairwise_iff_getElem.1 hp.2) j i (by omega) hi hj'
theorem Hn {k:Nat} {x:Task} {xs:List Task} (hk:xs.length+2<k) (hN:xs.length<aU) (hp:(x::xs).Pairwise λa b=>a.id<b.id):cM k (x::xs)=some (xs.foldl (λm t=>cond (decide (Task.born t<Task.born m)) t m) x):=by
 have hM:=al;unfold cM;rw[ab,if_neg (by simp;omega),zv,aj (by simp),aa]
 have:=eW (g:=λu6 n6=>bC k (x::xs,(0:Int),(0:Int),(0:Int),(0:Int)) u6 n6 (λy5=>some (⟨y5.1,y5.2.1,y5.2.2.1,y5.2.2.2.1,y5.2.2.2.2⟩:Task)))
  (st:=λi=>let m:=(xs.take i).foldl (λm t=>cond (decide (Task.born t<Task.born m)) t m) x;(((i+1:Nat):Int),m.id,m.ay,m.at_,m.due,m.born)) (n:=xs.length) (r:=some (xs.foldl (λm t=>cond (decide (Task.born t<Task.born m)) t m) x)) (λi hi next=>by
  have FE:=zI Task.born (xs.take i) x;have hlt:=Oz hp hi FE;rw[dy hi,WM];generalize (xs.take i).foldl (λm t=>cond (decide (Task.born t<Task.born m)) t m) x=m at hlt;simp only[bC,jN,jM,aa,tS,Hm (show 3<k by omega)];rw[ab,if_pos (by simp;omega),aL,Xv,aj hi,aa,aa,aE (by omega) (by omega),Kt hlt];simp only[Wr,List.foldl_nil]
  cases decide (Task.born xs[i]<Task.born m)<;>rfl) (λnext=>by
  rw[WH];simp only[bC]
  rw[ab,if_neg (by simp)]) (k:=k) (by omega)
 exact this
theorem Fo {k:Nat} {x:Task} {xs:List Task} (hk:xs.length+2<k) (hN:xs.length<aU) (hp:(x::xs).Pairwise λa b=>a.id<b.id):cC k (x::xs)=some (xs.foldl (λm t=>cond (decide (Task.due t<Task.due m)) t m) x):=by
 have hM:=al;unfold cC;rw[ab,if_neg (by simp;omega),zv,aj (by simp),aa]
 have:=eW (g:=λu6 n6=>bp k (x::xs,(0:Int),(0:Int),(0:Int),(0:Int)) u6 n6 (λy5=>some (⟨y5.1,y5.2.1,y5.2.2.1,y5.2.2.2.1,y5.2.2.2.2⟩:Task)))
  (st:=λi=>let m:=(xs.take i).foldl (λm t=>cond (decide (Task.due t<Task.due m)) t m) x;(((i+1:Nat):Int),m.id,m.ay,m.at_,m.due,m.born)) (n:=xs.length) (r:=some (xs.foldl (λm t=>cond (decide (Task.due t<Task.due m)) t m) x)) (λi hi next=>by
  have FE:=zI Task.due (xs.take i) x;have hlt:=Oz hp hi FE;rw[dy hi,WM];generalize (xs.take i).foldl (λm t=>cond (decide (Task.due t<Task.due m)) t m) x=m at hlt;simp only[bp,iV,jP,aa,tS,Hm (show 3<k by omega)];rw[ab,if_pos (by simp;omega),aL,Xv,aj hi,aa,aa,aE (by omega) (by omega),Kt hlt];simp only[Wr,List.foldl_nil]
  cases decide (Task.due xs[i]<Task.due m)<;>rfl) (λnext=>by
  rw[WH];simp only[bp]
  rw[ab,if_neg (by simp)]) (k:=k) (by omega)
 exact this
theorem BI {k:Nat} {xs:List Task} {s:ak} (hk:xs.length<k) (hN:xs.length<=aU):cl k xs s=some ((xs.findIdx? λt=>!eK s t).elim (-1) λi=>(i:Int)):=by
 have hM:=al;unfold cl;simp only[decide_true,cond_true]
 rw[fA xs (λt=>!eK s t) (yes:=some (-1)) (no:=some) (λi hi next=>by
  simp only[bP,jL,dm,decide_true,cond_true,aa];rw[ab,if_pos (by omega),ab,if_pos (by omega),VQ,aj hi,aa,aq hi (by omega)]
  rfl) (λnext=>by
  simp only[bP,decide_true,cond_true];rw[ab,if_neg (by omega)]) hk]
 exact dg _
theorem zg {k:Nat} {xs:List Task} {s:ak} (hk:xs.length<k) (hN:xs.length<=aU):bZ k xs s=some (xs.filter λt=>!(!eK s t)):=by
  have hM:=al;unfold bZ;rw[BI hk hN,aa]
  cases hf:xs.findIdx? λt=>!eK s t with
  | none =>
    rw[Option.elim_none,filter_none hf]
    simp
  | some i =>
    obtain⟨hi,hfi⟩:=oA hf;rw[VX,bM,if_neg (by omega),aq hi (by omega)];simp only[decide_true,cond_true]
    obtain⟨i',ys',h1,h2,h3,h4⟩:=kJ xs (λt=>!eK s t) (R:=List Task) (g:=λu5 n5=>bc k (s.now,s.ai,s.age,s.tasks,s.run,s.left,s.turns,s.next) u5 n5 (λy4=>cond (decide (0<=y4.1/\y4.1<=(y4.2.length:Int))) (cond (decide (0<=y4.1/\y4.1<=(((y4.2).take y4.1.toNat++List.replicate (y4.2.length-y4.1.toNat) (⟨(0:Int),([]:List Int),(0:Int),(0:Int),(0:Int)⟩:Task)++(y4.2).drop (y4.1.toNat+(y4.2.length-y4.1.toNat))).length:Int))) (some (((y4.2).take y4.1.toNat++List.replicate (y4.2.length-y4.1.toNat) (⟨(0:Int),([]:List Int),(0:Int),(0:Int),(0:Int)⟩:Task)++(y4.2).drop (y4.1.toNat+(y4.2.length-y4.1.toNat))).take (y4.1.toNat-0))) none) none))
      (fin:=λy4=>cond (decide (0<=y4.1/\y4.1<=(y4.2.length:Int))) (cond (decide (0<=y4.1/\y4.1<=(((y4.2).take y4.1.toNat++List.replicate (y4.2.length-y4.1.toNat) (⟨(0:Int),([]:List Int),(0:Int),(0:Int),(0:Int)⟩:Task)++(y4.2).drop (y4.1.toNat+(y4.2.length-y4.1.toNat))).length:Int))) (some (((y4.2).take y4.1.toNat++List.replicate (y4.2.length-y4.1.toNat) (⟨(0:Int),([]:List Int),(0:Int),(0:Int),(0:Int)⟩:Task)++(y4.2).drop (y4.1.toNat+(y4.2.length-y4.1.toNat))).take (y4.1.toNat-0))) none) none)
      (λi j ys hj next hij hl hg=>by
        simp only[bc,iT,dm,decide_true,cond_true,aa,hl];rw[ab,if_pos (by omega),ab,if_pos (by omega),VQ,hg,aa,cond_not,ab,if_pos (by omega),aq hj (by omega),aq (show i<xs.length by omega) (by omega),VQ]
        rfl)
      (λi ys next hl=>by simp only[bc,hl];rw[ab,if_neg (by omega)])
      (xs.length-(i+1)) i (i+1) xs k (by omega) (by omega) (by omega) rfl rfl hfi
    refine h4.trans ?_;obtain⟨c1,c2⟩:=tq ((⟨(0:Int),([]:List Int),(0:Int),(0:Int),(0:Int)⟩:Task)) h1 h2;grind
theorem BJ {k:Nat} {xs:List Task} {s:ak} (hk:xs.length<k) (hN:xs.length<=aU):cn k xs s=some ((xs.findIdx? λt=>!(!eK s t)).elim (-1) λi=>(i:Int)):=by
 have hM:=al;unfold cn;simp only[decide_true,cond_true]
 rw[fA xs (λt=>!(!eK s t)) (yes:=some (-1)) (no:=some) (λi hi next=>by
  simp only[bQ,iU,eF,fI,dm,decide_true,cond_true,aa];rw[ab,if_pos (by omega),ab,if_pos (by omega),VQ,aj hi,aa,aq hi (by omega)]
  rfl) (λnext=>by
  simp only[bQ,decide_true,cond_true];rw[ab,if_neg (by omega)]) hk]
 exact dg _
theorem zi {k:Nat} {xs:List Task} {s:ak} (hk:xs.length<k) (hN:xs.length<=aU):b8 k xs s=some (xs.filter λt=>!(!(!eK s t))):=by
  have hM:=al;unfold b8;rw[BJ hk hN,aa]
  cases hf:xs.findIdx? λt=>!(!eK s t)with
  | none =>
    rw[Option.elim_none,filter_none hf]
    simp
  | some i =>
    obtain⟨hi,hfi⟩:=oA hf;rw[VX,bM,if_neg (by omega),aq hi (by omega)];simp only[decide_true,cond_true]
    obtain⟨i',ys',h1,h2,h3,h4⟩:=kJ xs (λt=>!(!eK s t)) (R:=List Task) (g:=λu5 n5=>bd k (s.now,s.ai,s.age,s.tasks,s.run,s.left,s.turns,s.next) u5 n5 (λy4=>cond (decide (0<=y4.1/\y4.1<=(y4.2.length:Int))) (cond (decide (0<=y4.1/\y4.1<=(((y4.2).take y4.1.toNat++List.replicate (y4.2.length-y4.1.toNat) (⟨(0:Int),([]:List Int),(0:Int),(0:Int),(0:Int)⟩:Task)++(y4.2).drop (y4.1.toNat+(y4.2.length-y4.1.toNat))).length:Int))) (some (((y4.2).take y4.1.toNat++List.replicate (y4.2.length-y4.1.toNat) (⟨(0:Int),([]:List Int),(0:Int),(0:Int),(0:Int)⟩:Task)++(y4.2).drop (y4.1.toNat+(y4.2.length-y4.1.toNat))).take (y4.1.toNat-0))) none) none))
      (fin:=λy4=>cond (decide (0<=y4.1/\y4.1<=(y4.2.length:Int))) (cond (decide (0<=y4.1/\y4.1<=(((y4.2).take y4.1.toNat++List.replicate (y4.2.length-y4.1.toNat) (⟨(0:Int),([]:List Int),(0:Int),(0:Int),(0:Int)⟩:Task)++(y4.2).drop (y4.1.toNat+(y4.2.length-y4.1.toNat))).length:Int))) (some (((y4.2).take y4.1.toNat++List.replicate (y4.2.length-y4.1.toNat) (⟨(0:Int),([]:List Int),(0:Int),(0:Int),(0:Int)⟩:Task)++(y4.2).drop (y4.1.toNat+(y4.2.length-y4.1.toNat))).take (y4.1.toNat-0))) none) none)
      (λi j ys hj next hij hl hg=>by
        simp only[bd,eF,eF,fI,dm,decide_true,cond_true,aa,hl];rw[ab,if_pos (by omega),ab,if_pos (by omega),VQ,hg,aa,cond_not,ab,if_pos (by omega),aq hj (by omega),aq (show i<xs.length by omega) (by omega),VQ]
        rfl)
      (λi ys next hl=>by simp only[bd,hl];rw[ab,if_neg (by omega)])
      (xs.length-(i+1)) i (i+1) xs k (by omega) (by omega) (by omega) rfl rfl hfi
    refine h4.trans ?_;obtain⟨c1,c2⟩:=tq ((⟨(0:Int),([]:List Int),(0:Int),(0:Int),(0:Int)⟩:Task)) h1 h2;grind
theorem tT {k:Nat} {xs:List Task} (hx:xs.length<=aU):cG k xs=some xs:=by
 unfold cG;rw[bJ (by simpa using hx)]
 cases xs with
 |nil=>simp only[isNil,cond_true,Ww];exact A8 _
 |cons x l=>rfl
theorem Fp {s:ak} (h:ic s=true):s.tasks.Pairwise λa b=>a.id<b.id:=by
 rw[List.pairwise_iff_getElem];intro i j hi hj hij;obtain⟨d,rfl⟩:∃d,j=i+d+1:=⟨j-i-1,by omega⟩;exact Kq h d i hj
def zj (s:ak):Option Task:=zf Task.born (s.tasks.filter (eK s))
def oB (s:ak):Option Task:=zf Task.due (s.tasks.filter λt=>!eK s t)
theorem L3 {k:Nat} {s:ak} (hk:s.tot+2<k) (hN:s.tot<aU) (h:ic s=true):jO k s s=some ((zj s).elim 0 Task.id):=by
 have hM:=al;have hlen:=bU Task.tot s.tasks;have hst:s.tot=jj Task.tot s.tasks+0:=rfl;have hf:=WJ (eK s) s.tasks;unfold jO zj;rw[tT (by omega),aa,zg (by omega) (by omega),aa];simp only[Yb]
 cases hq:s.tasks.filter (eK s)with
 |nil=>rfl
 |cons x xs=>
  rw[hq]at hf;have hp:=(Fp h).filter (eK s);rw[hq]at hp;rw[bM,if_neg (by simp;omega),Hn (by simp at hf;omega) (by simp at hf;omega) hp,aa];rfl
theorem Jk {k:Nat} {s:ak} (hk:s.tot+2<k) (hN:s.tot<aU) (h:ic s=true):iK k s s=some ((oB s).elim 0 Task.id):=by
 have hM:=al;have hlen:=bU Task.tot s.tasks;have hst:s.tot=jj Task.tot s.tasks+0:=rfl;have hf:=WJ (λt=>!eK s t) s.tasks;unfold iK oB;rw[tT (by omega),aa,zi (by omega) (by omega),aa];simp only[Yb,decide_true,cond_true]
 cases hq:s.tasks.filter λt=>!eK s t with
 |nil=>rfl
 |cons x xs=>
  rw[hq]at hf;have hp:=(Fp h).filter λt=>!eK s t;rw[hq]at hp;rw[bM,if_neg (by simp;omega),Fo (by simp at hf;omega) (by simp at hf;omega) hp,aa];rfl
def ju (s:ak):Int:=
 cond ((zj s).isSome&&(!(oB s).isSome||(decide (s.age>0)&&(s.turns.tmod s.age==0)))) ((zj s).elim 0 Task.id) ((oB s).elim 0 Task.id)
theorem nt {key:Task->Int} {xs:List Task} {t:Task} (h:zf key xs=some t):t∈xs:=by
 cases xs with
 |nil=>exact nomatch h
 |cons x xs=>
  simp only[zf,It]at h;rw[<-h];exact zI key xs x
theorem OA {s:ak} (h:ic s=true) {t:Task} (ht:zj s=some t):1<=t.id:=by
 have:=(Wz.1 (nt ht)).1;obtain⟨i,hi,rfl⟩:=V8.1 this;exact(bI (cf h hi).1).1.1
theorem Fq {s:ak} (h:ic s=true) {t:Task} (ht:oB s=some t):1<=t.id:=by
 have:=(Wz.1 (nt ht)).1;obtain⟨i,hi,rfl⟩:=V8.1 this;exact(bI (cf h hi).1).1.1
theorem OB {k:Nat} {s:ak} (hk:s.tot+2<k) (hN:s.tot<aU) (h:ic s=true):lz k s=some (ju s):=by
 unfold lz ju;rw[L3 hk hN h,aa,Jk hk hN h,aa]
 have hage:∀X:Option Int,(cond (decide (s.age>0)) (cond (decide (s.age=0)) none X) X)=X:=λX=>by
  grind
 cases hl:zj s with
 |none=>
  grind
 |some l=>
  have h1:=OA h hl
  cases he:oB s with
  |none=>
   grind
  |some e=>
   have h2:=Fq h he;grind
def better (key:Task->Int) (m:Option Task) (t:Task):Option Task:=m.elim (some t) λu=>cond (decide (key t<key u)) (some t) (some u)
theorem BK (key:Task->Int):∀(xs:List Task) (m:Task),xs.foldl (better key) (some m)=some (xs.foldl (λm t=>cond (decide (key t<key m)) t m) m)
 |[],m=>rfl
 |x::xs,m=>by
  rw[Wr,Wr,<-BK key xs]
  congr 1
  show cond (decide (key x<key m)) (some x) (some m)=_;grind
theorem L4 (key:Task->Int) (xs:List Task):xs.foldl (better key) none=zf key xs:=by
 cases xs with
 |nil=>rfl
 |cons x xs=>exact BK key xs x
def AtT (ts:List Task) (l:Int) (m:Option Task):Prop:=(m=none/\l=-1)\/∃(j:Nat) (hj:j<ts.length),l=(j:Int)/\m=some ts[j]
theorem Ho {R:Type} {k:Nat} {s:ak} {fin:Int× Int->Option R} (hN:s.tasks.length<=aU):∀(d i:Nat) (l e:Int) (ml me:Option Task) (kf:Nat),i+d=s.tasks.length->d<kf->AtT s.tasks l ml->AtT s.tasks e me->
  ∃l' e',AtT s.tasks l' (((s.tasks.drop i).filter (eK s)).foldl (better Task.born) ml)/\AtT s.tasks e' (((s.tasks.drop i).filter λt=>!eK s t).foldl (better Task.due) me)/\
   iter (λu11 n11=>eX k (s.now,s.ai,s.age,s.tasks,s.run,s.left,s.turns,s.next) u11 n11 fin) kf (l,e,(i:Int))=fin (l',e')
 |d,i,l,e,ml,me,0,_,h,_,_=>by omega
 |0,i,l,e,ml,me,kf+1,hi,_,hl,he=>by
  have:i=s.tasks.length:=by omega
  subst this;refine⟨l,e,by simpa using hl,by simpa using he,?_⟩;rw[aI];simp only[eX]
  grind
 |d+1,i,l,e,ml,me,kf+1,hi,h,hl,he=>by
  have hM:=al
  have hlt:i<s.tasks.length:=by omega
  have Qv:AtT s.tasks (i:Int) (some s.tasks[i]):=.inr ⟨i,hlt,rfl,rfl⟩
  have va:∀(l2 e2:Int) (ml2 me2:Option Task),AtT s.tasks l2 ml2->AtT s.tasks e2 me2->ml2=cond (eK s s.tasks[i]) (better Task.born ml s.tasks[i]) ml->me2=cond (eK s s.tasks[i]) me (better Task.due me s.tasks[i])->
    (∀next:Int× Int× Int->Option R,eX k (s.now,s.ai,s.age,s.tasks,s.run,s.left,s.turns,s.next) (l,e,(i:Int)) next fin=next (l2,e2,((i+1:Nat):Int)))->
    ∃l' e',AtT s.tasks l' (((s.tasks.drop i).filter (eK s)).foldl (better Task.born) ml)/\AtT s.tasks e' (((s.tasks.drop i).filter λt=>!eK s t).foldl (better Task.due) me)/\
     iter (λu11 n11=>eX k (s.now,s.ai,s.age,s.tasks,s.run,s.left,s.turns,s.next) u11 n11 fin) (kf+1) (l,e,(i:Int))=fin (l',e'):=λl2 e2 ml2 me2 h1 h2 e1 e2' hg=>by
   obtain⟨l',e',g1,g2,g3⟩:=Ho (k:=k) (fin:=fin) hN d (i+1) l2 e2 ml2 me2 kf (by omega) (by omega) h1 h2;refine⟨l',e',?_,?_,?_⟩
   ·rw[iw hlt,Xq];grind
   ·rw[iw hlt,Xq];grind
   ·rw[aI,hg];exact g3
  have e0:∀next:Int× Int× Int->Option R,eX k (s.now,s.ai,s.age,s.tasks,s.run,s.left,s.turns,s.next) (l,e,(i:Int)) next fin=
    cond (eK s s.tasks[i]) (cond (decide (l<(0:Int))) (next ((i:Int),e,((i+1:Nat):Int))) ((idx s.tasks l).bind λe3=>cond (decide (s.tasks[i].born<e3.born)) (next ((i:Int),e,((i+1:Nat):Int))) (next (l,e,((i+1:Nat):Int)))))
     (cond (decide (e<(0:Int))) (next (l,(i:Int),((i+1:Nat):Int))) ((idx s.tasks e).bind λe4=>cond (decide (s.tasks[i].due<e4.due)) (next (l,(i:Int),((i+1:Nat):Int))) (next (l,e,((i+1:Nat):Int))))):=λnext=>by
   simp only[eX];rw[ab,if_pos (by omega),aL,aj hlt,aa,aq hlt (by omega)];rfl
  cases hb:eK s s.tasks[i]
  ·rcases he with⟨rfl,rfl⟩|⟨j,hj,rfl,rfl⟩
   ·exact va l (i:Int) ml (some s.tasks[i]) hl Qv (by rw[hb];rfl) (by rw[hb];rfl) λnext=>by rw[e0,hb];rfl
   ·by_cases c:s.tasks[i].due<s.tasks[j].due
    ·exact va l (i:Int) ml (some s.tasks[i]) hl Qv (by rw[hb];rfl) (by rw[hb];show _=cond (decide (s.tasks[i].due<s.tasks[j].due)) _ _;rw[decide_eq_true c];rfl) λnext=>by
      rw[e0,hb,cond_false,ab,if_neg (by omega),aL,aj hj,aa,decide_eq_true c];rfl
    ·exact va l (j:Int) ml (some s.tasks[j]) hl (.inr ⟨j,hj,rfl,rfl⟩) (by rw[hb];rfl) (by rw[hb];show _=cond (decide (s.tasks[i].due<s.tasks[j].due)) _ _;rw[decide_eq_false c];rfl) λnext=>by
      rw[e0,hb,cond_false,ab,if_neg (by omega),aL,aj hj,aa,decide_eq_false c];rfl
  ·rcases hl with⟨rfl,rfl⟩|⟨j,hj,rfl,rfl⟩
   ·exact va (i:Int) e (some s.tasks[i]) me Qv he (by rw[hb];rfl) (by rw[hb];rfl) λnext=>by rw[e0,hb];rfl
   ·by_cases c:s.tasks[i].born<s.tasks[j].born
    ·exact va (i:Int) e (some s.tasks[i]) me Qv he (by rw[hb];show _=cond (decide (s.tasks[i].born<s.tasks[j].born)) _ _;rw[decide_eq_true c];rfl) (by rw[hb];rfl) λnext=>by
      rw[e0,hb,cond_true,ab,if_neg (by omega),aL,aj hj,aa,decide_eq_true c];rfl
    ·exact va (j:Int) e (some s.tasks[j]) me (.inr ⟨j,hj,rfl,rfl⟩) he (by rw[hb];show _=cond (decide (s.tasks[i].born<s.tasks[j].born)) _ _;rw[decide_eq_false c];rfl) (by rw[hb];rfl) λnext=>by
      rw[e0,hb,cond_true,ab,if_neg (by omega),aL,aj hj,aa,decide_eq_false c];rfl
theorem Fs {k:Nat} {s:ak} (hk:s.tot<k) (hN:s.tot<=aU) (h:bf s=true):sP k s=some (ju s):=by
 have hM:=al;have hs:=bF h;have hlen:=bU Task.tot s.tasks;have hst:s.tot=jj Task.tot s.tasks+0:=rfl;unfold sP;rw[eo hk hN,aa,h];simp only[VT,cond_false];obtain⟨l,e,hl,he,hi⟩:=Ho (R:=Int) (k:=k) (s:=s) (fin:=λy5=>cond (decide (y5.1>=(0:Int))) (cond (decide (y5.2<(0:Int))) ((idx s.tasks y5.1).bind λe6=>some e6.id) (cond (decide (s.age>(0:Int))) (cond (decide (s.age=0)) none (cond ((s.turns.tmod s.age)==(0:Int)) ((idx s.tasks y5.1).bind λe7=>some e7.id) (cond (decide (y5.2>=(0:Int))) ((idx s.tasks y5.2).bind λe8=>some e8.id) (some (0:Int))))) (cond (decide (y5.2>=(0:Int))) ((idx s.tasks y5.2).bind λe9=>some e9.id) (some (0:Int))))) (cond (decide (y5.2>=(0:Int))) ((idx s.tasks y5.2).bind λe10=>some e10.id) (some (0:Int)))) (by omega) s.tasks.length 0 (-1) (-1) none none k (by omega) (by omega) (.inl ⟨rfl,rfl⟩) (.inl ⟨rfl,rfl⟩);refine hi.trans ?_;rw[List.drop_zero,L4]at hl he;unfold ju;have el:zj s=zf Task.born (s.tasks.filter (eK s)):=rfl;have ee:oB s=zf Task.due (s.tasks.filter λt=>!eK s t):=rfl;rw[<-el]at hl;rw[<-ee]at he
 rcases hl with⟨hl,rfl⟩|⟨j,hj,rfl,hl⟩
 ·rcases he with⟨he,rfl⟩|⟨j2,hj2,rfl,he⟩
  ·grind
  ·rw[hl,he];simp only[Xp,WZ,cond_false,VX];rw[decide_eq_false (show¬((-1:Int)>=0) by omega),decide_eq_true (show((j2:Int)>=0) by omega),aL,aj hj2];rfl
 ·rcases he with⟨he,rfl⟩|⟨j2,hj2,rfl,he⟩
  ·rw[hl,he];rw[decide_eq_true (show((j:Int)>=0) by omega),aL,aj hj];rfl
  ·rw[hl,he];simp only[X7,VT,Bool.false_or,VZ,VX];rw[decide_eq_true (show((j:Int)>=0) by omega),decide_eq_false (show¬((j2:Int)<0) by omega),decide_eq_true (show((j2:Int)>=0) by omega),aL,aj hj,aL,aj hj2];grind
def wG (s:ak) (run left turns:Int):ak× Int× Bool:=
  cond (decide (left-1>0)) (⟨s.now+1,s.ai,s.age,s.tasks,run,left-1,turns,s.next⟩,0,false)
    ((s.tasks.findIdx? λt=>t.id==run).elim (s,0,false) λi=>(s.tasks[i]?).elim (s,0,false) λt=>
      cond (decide (t.at_+1<t.ay.length)) (⟨s.now+1,s.ai,s.age,s.tasks.set i ⟨t.id,t.ay,t.at_+1,t.due,t.born⟩,0,left-1,turns,s.next⟩,run,false)
        (⟨s.now+1,s.ai,s.age,HI (s.tasks.set i ⟨t.id,t.ay,t.at_+1,t.due,t.born⟩) run,0,left-1,turns,s.next⟩,run,true))
theorem BL {k:Nat} {s:ak} {run left turns:Int} (hk:s.tot<k) (hN:s.tot<=aU) (h:bf s=true) (hl:1<=left/\left<=1000) {i:Nat} (hf:(s.tasks.findIdx? λt=>t.id==run)=some i):
  (cond (decide ((i64.wrap (left-(1:Int)))>(0:Int))) (some ((⟨(i64.wrap (s.now+(1:Int))),s.ai,s.age,s.tasks,run,(i64.wrap (left-(1:Int))),turns,s.next⟩:ak),(0:Int),false)) ((lU k (⟨(i64.wrap (s.now+(1:Int))),s.ai,s.age,s.tasks,run,(i64.wrap (left-(1:Int))),turns,s.next⟩:ak) run).bind λr23=>cond (decide (0<=r23/\r23<(s.tasks.length:Int))) ((s.tasks[r23.toNat]?).bind λe24=>cond (decide (0<=r23/\r23<(s.tasks.length:Int))) ((s.tasks[r23.toNat]?).bind λe25=>cond (decide (0<=r23/\r23<((s.tasks.set r23.toNat (⟨e25.id,e25.ay,(i64.wrap (e24.at_+(1:Int))),e25.due,e25.born⟩:Task)).length:Int))) (((s.tasks.set r23.toNat (⟨e25.id,e25.ay,(i64.wrap (e24.at_+(1:Int))),e25.due,e25.born⟩:Task))[r23.toNat]?).bind λe26=>cond (decide (0<=r23/\r23<((s.tasks.set r23.toNat (⟨e25.id,e25.ay,(i64.wrap (e24.at_+(1:Int))),e25.due,e25.born⟩:Task)).length:Int))) (((s.tasks.set r23.toNat (⟨e25.id,e25.ay,(i64.wrap (e24.at_+(1:Int))),e25.due,e25.born⟩:Task))[r23.toNat]?).bind λe27=>cond (decide (e26.at_<(e27.ay.length:Int))) (some ((⟨(i64.wrap (s.now+(1:Int))),s.ai,s.age,(s.tasks.set r23.toNat (⟨e25.id,e25.ay,(i64.wrap (e24.at_+(1:Int))),e25.due,e25.born⟩:Task)),(0:Int),(i64.wrap (left-(1:Int))),turns,s.next⟩:ak),run,false)) ((lT (s.tasks.set r23.toNat (⟨e25.id,e25.ay,(i64.wrap (e24.at_+(1:Int))),e25.due,e25.born⟩:Task))).bind λy28=>(gF k (i64.wrap (s.now+(1:Int))) s.ai s.age y28 (0:Int) (i64.wrap (left-(1:Int))) turns s.next run).bind λr29=>cond (ky r29) ((qM (s.tasks.set r23.toNat (⟨e25.id,e25.ay,(i64.wrap (e24.at_+(1:Int))),e25.due,e25.born⟩:Task)) r29).bind λz30=>some ((⟨(i64.wrap (s.now+(1:Int))),s.ai,s.age,z30,(0:Int),(i64.wrap (left-(1:Int))),turns,s.next⟩:ak),run,true)) none)) none) none) none) none))=some (wG s run left turns):=by
 have hM:=al;have hs:=bF h;have hlen:=bU Task.tot s.tasks;have hst:s.tot=jj Task.tot s.tasks+0:=rfl;obtain⟨hi,hid⟩:=sd hf;have ht:=bI (cf hs.2.2.2.2.2.2.1 hi).1;unfold wG;rw[aE (n:=left-1) (by omega) (by omega),aE (n:=s.now+1) (by omega) (by omega)];by_cases c:left-1>0
 ·grind
 rw[decide_eq_false c,cond_false,cond_false];rw[mM (by show s.tasks.length<k;omega) (by show s.tasks.length<=aU;omega),aa];show(λr23:Int=>_) (lK s.tasks run)=_;rw[jr hf];simp only[VQ,Wx];rw[ab,if_pos (by omega),aj hi,aa,ab,if_pos (by omega),aa,ab,if_pos (by omega),WQ hi,aa,ab,if_pos (by omega),aa,hf,VX,aj hi,VX,aE (n:=s.tasks[i].at_+1) (by omega) (by omega)];simp only;by_cases c2:s.tasks[i].at_+1<(s.tasks[i].ay.length:Int)
 ·grind
 rw[decide_eq_false c2,cond_false,cond_false,tp,aa,yN (by rw[fb,Wx];omega) (by rw[fb,Wx];omega),aa,oz,cond_true,qD _ (λt=>!(t.id==run)) (λz=>!(z.id==run)) (λn t=>rfl),aa];rfl
theorem Hp {k:Nat} {s:ak} {run left turns:Int} (hk:s.tot<k) (hN:s.tot<=aU) (h:bf s=true) (hl:1<=left/\left<=1000) {i:Nat} (hf:(s.tasks.findIdx? λt=>t.id==run)=some i):
  (cond (decide ((i64.wrap (left-(1:Int)))>(0:Int))) (cond (decide (s.ai=s.ai)) (cond (decide (s.age=s.age)) (cond (decide (s.next=s.next)) (some (((0:Int),false),i64.wrap (s.now+(1:Int)),s.tasks,run,i64.wrap (left-(1:Int)),turns)) none) none) none) ((dw k (⟨(i64.wrap (s.now+(1:Int))),s.ai,s.age,s.tasks,run,(i64.wrap (left-(1:Int))),turns,s.next⟩:ak) run).bind λr1=>cond (decide (0<=r1/\r1<(s.tasks.length:Int))) ((s.tasks[r1.toNat]?).bind λe2=>(s.tasks[r1.toNat]?).bind λe3=>((s.tasks.set r1.toNat (⟨e3.id,e3.ay,(i64.wrap (e2.at_+(1:Int))),e3.due,e3.born⟩:Task))[r1.toNat]?).bind λe4=>((s.tasks.set r1.toNat (⟨e3.id,e3.ay,(i64.wrap (e2.at_+(1:Int))),e3.due,e3.born⟩:Task))[r1.toNat]?).bind λe5=>cond (decide (e4.at_<(e5.ay.length:Int))) (cond (decide (s.ai=s.ai)) (cond (decide (s.age=s.age)) (cond (decide (s.next=s.next)) (some ((run,false),i64.wrap (s.now+(1:Int)),s.tasks.set r1.toNat (⟨e3.id,e3.ay,(i64.wrap (e2.at_+(1:Int))),e3.due,e3.born⟩:Task),(0:Int),i64.wrap (left-(1:Int)),turns)) none) none) none) ((lT (s.tasks.set r1.toNat (⟨e3.id,e3.ay,(i64.wrap (e2.at_+(1:Int))),e3.due,e3.born⟩:Task))).bind λy6=>(dP k (i64.wrap (s.now+(1:Int))) s.ai s.age y6 (0:Int) (i64.wrap (left-(1:Int))) turns s.next run).bind λr7=>cond (ky r7.1) ((qM (s.tasks.set r1.toNat (⟨e3.id,e3.ay,(i64.wrap (e2.at_+(1:Int))),e3.due,e3.born⟩:Task)) r7.1).bind λz8=>cond (decide (s.ai=s.ai)) (cond (decide (s.age=s.age)) (cond (decide (s.next=s.next)) (some ((run,true),i64.wrap (s.now+(1:Int)),z8,r7.2.1,r7.2.2,turns)) none) none) none) none)) none))=some (((wG s run left turns).2.1,(wG s run left turns).2.2),(wG s run left turns).1.now,(wG s run left turns).1.tasks,(wG s run left turns).1.run,(wG s run left turns).1.left,(wG s run left turns).1.turns):=by
 have hM:=al;have hs:=bF h;have hlen:=bU Task.tot s.tasks;have hst:s.tot=jj Task.tot s.tasks+0:=rfl;obtain⟨hi,hid⟩:=sd hf;have ht:=bI (cf hs.2.2.2.2.2.2.1 hi).1;unfold wG;simp only[decide_true,cond_true];rw[aE (n:=left-1) (by omega) (by omega),aE (n:=s.now+1) (by omega) (by omega)];by_cases c:left-1>0
 ·grind
 rw[decide_eq_false c,cond_false,cond_false];rw[wm (by show s.tasks.length<k;omega) (by show s.tasks.length<=aU;omega),aa];show(λr23:Int=>_) (lK s.tasks run)=_;rw[jr hf];simp only[VQ,Wx];rw[ab,if_pos (by omega),aj hi,aa,aa,WQ hi,aa,aa,hf,VX,aj hi,VX,aE (n:=s.tasks[i].at_+1) (by omega) (by omega)];simp only;by_cases c2:s.tasks[i].at_+1<(s.tasks[i].ay.length:Int)
 ·grind
 rw[decide_eq_false c2,cond_false,cond_false,tp,aa,L0 (by rw[fb,Wx];omega) (by rw[fb,Wx];omega),aa];simp only;rw[oz,cond_true,qD _ (λt=>!(t.id==run)) (λz=>!(z.id==run)) (λn t=>rfl),aa]
 have hne:((0:Int)==run)=false:=by simp;omega
 rw[hne];rfl
def cK (s:ak) (dC:Bool):ak× Int× Bool:=
  cond (bf s&&!(s.now==1000000))
    (cond dC (⟨s.now+1,s.ai,s.age,s.tasks,s.run,s.left,s.turns,s.next⟩,0,false)
      (cond (s.run==0)
        (cond (ju s==0) (⟨s.now+1,s.ai,s.age,s.tasks,s.run,s.left,s.turns,s.next⟩,0,false)
          ((s.tasks.findIdx? λt=>t.id==ju s).elim (s,0,false) λi=>(s.tasks[i]?).elim (s,0,false) λt=>wG s (ju s) (fL t) (cond (decide (s.turns+1>1000000)) 0 (s.turns+1))))
        (wG s s.run s.left s.turns))) (s,0,false)
theorem BM {s:ak} (h:bf s=true) (hp:ju s≠0):∃(i:Nat) (hi:i<s.tasks.length),(s.tasks.findIdx? λt=>t.id==ju s)=some i/\s.tasks[i].id=ju s:=by
 have hs:=bF h
 have:∃t∈s.tasks,ju s=t.id:=by
  unfold ju at hp⊢
  cases hl:zj s with
  |none=>
   cases he:oB s with
   |none=>grind
   |some e=>exact⟨e,(Wz.1 (nt he)).1,rfl⟩
  |some l=>
   cases he:oB s with
   |none=>exact⟨l,(Wz.1 (nt hl)).1,rfl⟩
   |some e=>
    simp only[X7,VT,Bool.false_or,VZ,VX];cases(decide (s.age>0)&&(s.turns.tmod s.age==0))
    ·exact⟨e,(Wz.1 (nt he)).1,rfl⟩
    ·exact⟨l,(Wz.1 (nt hl)).1,rfl⟩
 obtain⟨t,ht,e⟩:=this;obtain⟨i,hi,rfl⟩:=V8.1 ht;exact⟨i,hi,by rw[e];exact BC hs.2.2.2.2.2.2.1 hi,e.symm⟩
theorem Ft {s:ak} (h:bf s=true) (hr:(s.run==0)=false):(1<=s.left/\s.left<=1000)/\∃i,(s.tasks.findIdx? λt=>t.id==s.run)=some i:=by
 have hs:=bF h;have lY:=hs.2.2.2.2.2.2.2;unfold Mt at lY;rw[hr,cond_false]at lY
 cases hf:s.tasks.findIdx? λt=>t.id==s.run with
 |none=>grind
 |some i=>
  obtain⟨hi,hid⟩:=sd hf;have h1:=qC h (VV hi) hid.symm;have h2:=eR (cf hs.2.2.2.2.2.2.1 hi).1;grind
theorem Cw {k:Nat} {s:ak} {st:Bool} (hk:s.tot<k) (hN:s.tot<=aU):qj k s st=some (cK s st):=by
 have hM:=al;have hlen:=bU Task.tot s.tasks;have hst:s.tot=jj Task.tot s.tasks+0:=rfl;unfold qj cK;rw[se hk hN,aa,eo hk hN,aa];cases h:bf s
 ·rfl
 have hs:=bF h;simp only[VT,cond_false,VZ];cases(s.now==(1000000:Int))
 case true=>rfl
 simp only[cond_false,Wj,cond_true];cases st
 case true=>rw[aE (n:=s.now+1) (by omega) (by omega)];rfl
 simp only[cond_false];cases hr:s.run==0
 ·simp only[cond_false];obtain⟨hl,i,hf⟩:=Ft h hr;exact BL hk hN h hl hf
 simp only[cond_true];rw[Fs hk hN h,aa];by_cases hp:ju s=0
 ·rw[hp,aE (n:=s.now+1) (by omega) (by omega)];rfl
 rw[bM,if_neg hp,bM,if_neg hp];obtain⟨i,hi,hf,hid⟩:=BM h hp;have hc:=eR (cf hs.2.2.2.2.2.2.1 hi).1;rw[mM (by show s.tasks.length<k;omega) (by show s.tasks.length<=aU;omega),aa];show(λr4:Int=>_) (lK s.tasks (ju s))=_;rw[jr hf];simp only[VQ];rw[ab,if_pos (by omega),aj hi,aa,hc.1,aa,hf,VX,aj hi,VX,aE (n:=s.turns+1) (by omega) (by omega)];by_cases ct:s.turns+1>1000000
 ·rw[decide_eq_true ct,cond_true,cond_true];exact BL hk hN h ⟨hc.2.1,hc.2.2⟩ hf
 ·rw[decide_eq_false ct,cond_false,cond_false];exact BL hk hN h ⟨hc.2.1,hc.2.2⟩ hf
theorem L5 {k:Nat} {s:ak} (hk:s.tot+2<k) (hN:s.tot<aU) (h:bf s=true):
  (ju s=0/\eO k s=some (false,s.run,s.left,s.turns))\/
  ∃(i:Nat) (hi:i<s.tasks.length),ju s≠0/\(s.tasks.findIdx? λt=>t.id==ju s)=some i/\eO k s=some (true,ju s,fL s.tasks[i],cond (decide (s.turns+1>1000000)) 0 (s.turns+1)):=by
 have hM:=al;have hs:=bF h;have hlen:=bU Task.tot s.tasks;have hst:s.tot=jj Task.tot s.tasks+0:=rfl;unfold eO;rw[OB hk hN hs.2.2.2.2.2.2.1,aa];simp only[decide_true,cond_true];by_cases hp:ju s=0
 ·grind
 ·obtain⟨i,hi,hf,hid⟩:=BM h hp;have hc:=eR (cf hs.2.2.2.2.2.2.1 hi).1;refine .inr ⟨i,hi,hp,hf,?_⟩;rw[bM,if_neg hp,wm (by omega) (by omega),aa,jr hf,VQ,ab,if_pos (by omega),aj hi,aa,hc.1,aa,aE (n:=s.turns+1) (by omega) (by omega)];grind
theorem Qw (s:ak) (run left turns:Int) {i:Nat} (hf:(s.tasks.findIdx? λt=>t.id==run)=some i):(wG s run left turns).1.ai=s.ai/\(wG s run left turns).1.age=s.age/\(wG s run left turns).1.next=s.next:=by
 obtain⟨hi,_⟩:=sd hf;unfold wG;grind
theorem Cx {k:Nat} {s:ak} {st:Bool} (hk:s.tot+2<k) (hN:s.tot<aU):uA k s st=some (cK s st):=by
 have hM:=al;have hlen:=bU Task.tot s.tasks;have hst:s.tot=jj Task.tot s.tasks+0:=rfl;unfold uA cK;rw[kI (by omega) (by omega),aa,lL (by omega) (by omega),aa];cases h:bf s
 ·rfl
 have hs:=bF h;simp only[VT,cond_false,VZ];cases(s.now==(1000000:Int))
 case true=>rfl
 simp only[cond_false,Wj,cond_true]
 have fin:∀(run left turns:Int) {i:Nat},(s.tasks.findIdx? λt=>t.id==run)=some i->(some (((wG s run left turns).2.1,(wG s run left turns).2.2),(wG s run left turns).1.now,(wG s run left turns).1.tasks,(wG s run left turns).1.run,(wG s run left turns).1.left,(wG s run left turns).1.turns)).bind (λr3:((Int× Bool)× Int× List Task× Int× Int× Int)=>some ((⟨r3.2.1,s.ai,s.age,r3.2.2.1,r3.2.2.2.1,r3.2.2.2.2.1,r3.2.2.2.2.2,s.next⟩:ak),r3.1.1,r3.1.2))=some (wG s run left turns):=λrun left turns i hf=>by
  obtain⟨g1,g2,g3⟩:=Qw s run left turns hf;generalize wG s run left turns=q at g1 g2 g3⊢;obtain⟨⟨a1,a2,a3,a4,a5,a6,a7,a8⟩,b,c⟩:=q;grind
 unfold gG;cases st
 case true=>rw[aE (n:=s.now+1) (by omega) (by omega)];simp only[decide_true,cond_true,VT,cond_false,aa]
 simp only[Wj,cond_true,cond_false];cases hr:s.run==0
 ·rw[show(s.run !=0)=true by rw[bne,hr];rfl];simp only[cond_true,cond_false];obtain⟨hl,i,hf⟩:=Ft h hr;have e:=Hp (k:=k) (turns:=s.turns) (by omega) (by omega) h hl hf;grind
 rw[show(s.run !=0)=false by rw[bne,hr];rfl];simp only[cond_true,cond_false]
 rcases L5 hk hN h with⟨hp,e⟩|⟨i,hi,hp,hf,e⟩
 ·rw[e,hp,aa,aE (n:=s.now+1) (by omega) (by omega)];grind
 ·have hc:=eR (cf hs.2.2.2.2.2.2.1 hi).1;rw[e,aa,bM,if_neg hp];have e:=Hp (k:=k) (turns:=cond (decide (s.turns+1>1000000)) 0 (s.turns+1)) (by omega) (by omega) h ⟨hc.2.1,hc.2.2⟩ hf;grind
end
section
def TN:ak:=⟨0,0,0,[],0,0,0,0⟩
def uN (ai age:Int):ak:=⟨0,ai,age,[],0,0,0,1⟩
theorem Qx {k:Nat} {a b:Int} (hk:0<k):sQ k a b=some (cond (bf (uN a b)) (uN a b,true) (TN,false)):=by
 unfold sQ;rw[eo (by exact hk) (by exact Wy _),aa];show cond (!(bf (uN a b))) _ _=_;cases bf (uN a b)<;>rfl
theorem Qy {k:Nat} {a b:Int} (hk:0<k):sR k a b=some (cond (bf (uN a b)) (uN a b,true) (TN,false)):=by
 unfold sR;rw[lL (by exact hk) (by exact Wy _),aa];show cond (!(bf (uN a b))) _ _=_;cases bf (uN a b)<;>rfl
end
section
def ar {α:Type} (o:Option α) (Q:α->Prop):Prop:=∃r,o=some r/\Q r
theorem ar.bind {α β:Type} {o:Option α} {P:α->Prop} {f:α->Option β} {Q:β->Prop} (h:ar o P) (hf:∀a,P a->ar (f a) Q):ar (o.bind f) Q:=by
 obtain⟨r,e,hp⟩:=h;rw[e];exact hf r hp
theorem ar.some {α:Type} {a:α} {Q:α->Prop} (h:Q a):ar (some a) Q:=⟨a,rfl,h⟩
theorem ar.cond {α:Type} {b:Bool} {x y:Option α} {Q:α->Prop} (h1:b=true->ar x Q) (h2:b=false->ar y Q):ar (cond b x y) Q:=by
 cases b
 ·exact h2 rfl
 ·exact h1 rfl
theorem ar.iter {V R:Type} {g:V->(V->Option R)->Option R} {Inv:V->Prop} {m:V->Nat} {Q:R->Prop}
  (h:∀(v:V) (next:V->Option R),Inv v->(∀u,Inv u->m u<m v->ar (next u) Q)->ar (g v next) Q):∀(k:Nat) (v:V),Inv v->m v<k->ar (iter g k v) Q
 |0,v,_,hk=>by omega
 |k+1,v,hv,hk=>by
  rw[aI];exact h v _ hv λu hu hm=>ar.iter h k u hu (by omega)
def Cur (b:List Int) (i:Int):Prop:=0<=i/\i<=b.length
theorem Rb (x:BitVec i64.bits):0<=i64.wrap (((x&&& BitVec.ofInt i64.bits (255:Int)).toNat:Int))/\i64.wrap (((x&&& BitVec.ofInt i64.bits (255:Int)).toNat:Int))<=255:=by
 have h1:(x&&& BitVec.ofInt i64.bits (255:Int)).toNat<=255:=by
  rw[BitVec.toNat_and]
  have:(BitVec.ofInt i64.bits (255:Int)).toNat=255:=by decide
  rw[this];exact Nat.and_le_right
 rw[aE (by omega) (by omega)];omega
theorem tu {k:Nat} {b:List Int} {i h:Int} (hb:b.length<=1048576) (hc:Cur b i):ar (iW k b i h) λr=>(0<=r.1/\r.1<=255)/\Cur b r.2.1:=by
 unfold Cur at hc;unfold iW;refine ar.cond (λh1=>?_) λh1=>?_
 ·have h1:=of_decide_eq_true h1
  have hi:i.toNat<b.length:=by omega
  rw[nc _ hc.1,aj hi,aa,decide_eq_true rfl];refine ar.some ⟨Rb _,?_⟩;show Cur b (i64.wrap (i+1));rw[aE (by omega) (by omega)];unfold Cur;omega
 ·rw[decide_eq_true rfl];exact ar.some ⟨Rb _,hc⟩
theorem OC {x n:Int} (h0:0<=x) (hn:0<n):0<=x.tmod n/\x.tmod n<n:=⟨Int.tmod_nonneg n h0,Int.tmod_lt_of_pos x hn⟩
theorem aK {k:Nat} {b:List Int} {i h n:Int} (hb:b.length<=1048576) (hc:Cur b i):ar (ag k b i h n) λr=>(0<=r.1/\(0<n->r.1<n)/\(n<=0->r.1=0))/\Cur b r.2.1:=by
 unfold ag;refine ar.cond (λh1=>?_) λh1=>ar.cond (λh2=>?_) λh2=>?_
 ·have h1:=of_decide_eq_true h1;rw[decide_eq_true rfl];exact ar.some ⟨⟨XB _,λh=>by omega,λ_=>rfl⟩,hc⟩
 ·have h1:=of_decide_eq_false h1;refine(tu hb hc).bind λr ⟨hr,hc1⟩=>?_;rw[decide_eq_false (show¬n=0 by omega),decide_eq_true rfl];have:=OC (x:=r.1) (n:=n) hr.1 (by omega);exact ar.some ⟨⟨this.1,λ_=>this.2,λh=>by omega⟩,hc1⟩
 ·have h1:=of_decide_eq_false h1;refine(tu hb hc).bind λr ⟨hr,hc1⟩=>(tu hb hc1).bind λr2 ⟨hr2,hc2⟩=>(tu hb hc2).bind λr3 ⟨hr3,hc3⟩=>?_;rw[decide_eq_false (show¬n=0 by omega),decide_eq_true rfl];rw[aE (n:=r.1*65536) (by omega) (by omega),aE (n:=r2.1*256) (by omega) (by omega),aE (n:=r.1*65536+r2.1*256) (by omega) (by omega),aE (n:=r.1*65536+r2.1*256+r3.1) (by omega) (by omega)];have:=OC (x:=r.1*65536+r2.1*256+r3.1) (n:=n) (by omega) (by omega);exact ar.some ⟨⟨this.1,λ_=>this.2,λh=>by omega⟩,hc3⟩
theorem eS {k:Nat} {b:List Int} {i h:Int} {xs:List Int} (hb:b.length<=1048576) (hc:Cur b i) (hx:0<xs.length):ar (az k b i h xs) λr=>r.1∈xs/\Cur b r.2.1:=by
 unfold az;refine(aK hb hc).bind λr ⟨⟨h0,h1,_⟩,hc1⟩=>?_;have:=h1 (by omega)
 have hi:r.1.toNat<xs.length:=by omega
 rw[nc _ h0,aj hi,aa,decide_eq_true rfl];exact ar.some ⟨VV hi,hc1⟩
theorem gw {k:Nat} {b:List Int} {i h n:Int} (hb:b.length<=1048576) (hc:Cur b i):ar (b9 k b i h n) λr=>Cur b r.2.1:=by
 unfold b9;refine(aK hb hc).bind λr ⟨_,hc1⟩=>?_;rw[decide_eq_true rfl];exact ar.some hc1
theorem OD {k:Nat} {b:List Int} (hb:b.length<=1048576) (hk:b.length<k):ar (sS k b) λr=>Cur b r.1:=by
 unfold sS;refine ar.iter (Inv:=λv:Int× Int=>0<=v.2/\v.2<=b.length) (m:=λv=>b.length-v.2.toNat) (λv next hv hn=>?_) k _ (by constructor<;>simp) (by simp;omega);unfold qk
 have fin:ar (cond (decide (b=b)) (some ((0:Int),v.1)) none) λr=>Cur b r.1:=by
  rw[decide_eq_true rfl];exact ar.some ⟨XB _,by show(0:Int)<=b.length;omega⟩
 refine ar.cond (λh1=>ar.cond (λh2=>?_) λh2=>fin) λh1=>fin;have h1:=of_decide_eq_true h1
 have hi:v.2.toNat<b.length:=by omega
 rw[nc _ hv.1,aj hi,aa];have e:i64.wrap (v.2+1)=v.2+1:=aE (by omega) (by omega);rw[e];exact hn _ (by simp only;omega) (by simp only;omega)
end
section
theorem ar.must {α:Type} {p:Prop} {i:Decidable p} {x y:Option α} {Q:α->Prop} (h:p) (hx:ar x Q):ar (bif (@decide p i)then x else y) Q:=by
 rw[decide_eq_true h];exact hx
theorem ar.ble {α:Type} {a b:Nat} {x y:Option α} {Q:α->Prop} (h:a<=b) (hx:ar x Q):ar (bif (Nat.ble a b)then x else y) Q:=by
 rw[Xd h];exact hx
end
set_option maxRecDepth 100000
section
theorem size_eq {b:List Int} (hb:b.length<=1048576) (k:Nat) {most:Int} (h0:2<=most) (h1:most<=1000000):ar (vG k b most) λn=>2<=n/\n<=most:=by
 unfold vG
 have e:i64.wrap ((b.length:Int).tdiv 16)=(b.length:Int).tdiv 16:=by
  have h2:(b.length:Int).tdiv 16=(b.length:Int)/16:=WG (by omega);rw[h2,aE (by omega) (by omega)]
 have h2:(b.length:Int).tdiv 16=(b.length:Int)/16:=WG (by omega);rw[e,h2,aE (n:=2+(b.length:Int)/16) (by omega) (by omega)];refine ar.cond (λh=>ar.some ⟨by omega,by omega⟩) λh=>?_;have h:=of_decide_eq_false h;exact ar.some ⟨by omega,by omega⟩
end
set_option maxRecDepth 100000
section
theorem L6 {s:ak} (h:bf s=true) {t:Task} (hm:t∈s.tasks):1<=cS s t:=by
 have hs:=bF h;obtain⟨i,hi,e⟩:=V8.1 hm;have hT:jf t=true:=e▸(cf hs.2.2.2.2.2.2.1 hi).1;have hc:=eR hT;have hb:=wo hT;unfold cS;cases hr:s.run==t.id
 ·simp only[cond_false];omega
 ·have:=qC h hm (by simpa using hr);simp only[cond_true];omega
theorem qE (s:ak) (ay:List Int) (due:Int):
  ((fo s ay due).2.2=0/\0<(fo s ay due).2.1/\bf s=true/\BF (fo s ay due).1=true/\(fo s ay due).1=⟨s.now,s.ai,s.age,s.tasks++[⟨s.next,ay,0,due,s.now⟩],s.run,s.left,s.turns,s.next+1⟩)\/
  ((fo s ay due).2.2≠0/\(fo s ay due).2.1=0/\(fo s ay due).1=s):=by
 unfold fo;cases h:bf s&&jf ⟨s.next,ay,0,due,s.now⟩
 ·right;simp
 have hb:=(WE.1 h).1;have hs:=bF hb;cases((s.tasks.length:Int)==12||s.next==1000000)
 ·cases hf:BF ⟨s.now,s.ai,s.age,s.tasks++[⟨s.next,ay,0,due,s.now⟩],s.run,s.left,s.turns,s.next+1⟩
  ·right;simp
  ·left;simp only[cond_true,cond_false];exact⟨trivial,by omega,hb,hf,trivial⟩
 ·right;simp
end
section
structure SOk (s:ak):Prop where
 now:0<=s.now/\s.now<=1000000
 ai:0<=s.ai/\s.ai<=1000
 age:0<=s.age/\s.age<=20
 len:s.tasks.length<=12
 turns:0<=s.turns/\s.turns<=1000000
 next:1<=s.next/\s.next<=1000000
 task:∀t∈s.tasks,jf t=true/\t.id<s.next/\t.born<=s.now
 ids:s.tasks.Pairwise λa b=>a.id<b.id
 run:(s.run=0/\s.left=0)\/∃t∈s.tasks,t.id=s.run/\1<=s.left/\s.left<=fL t
theorem Rc {s:ak} (h:bf s=true):SOk s:=by
 have hs:=bF h;have hT:=hs.2.2.2.2.2.2.1;refine⟨hs.1,hs.2.1,hs.2.2.1,hs.2.2.2.1,hs.2.2.2.2.1,hs.2.2.2.2.2.1,λt ht=>?_,Fp hT,?_⟩
 ·obtain⟨i,hi,rfl⟩:=V8.1 ht;have:=cf hT hi;exact⟨this.1,this.2.1,this.2.2.1⟩
 ·cases hr:s.run==0
  ·obtain⟨_,i,hf⟩:=Ft h hr;obtain⟨hi,hid⟩:=sd hf;exact .inr ⟨s.tasks[i],VV hi,hid,qC h (VV hi) hid.symm⟩
  ·have lY:=hs.2.2.2.2.2.2.2;unfold Mt at lY;rw[hr,cond_true]at lY;exact .inl ⟨by simpa using hr,by simpa using lY⟩
theorem wq {s:ak} (h:SOk s):ic s=true:=by
 unfold ic;rw[Wo];intro i hi;rw[List.mem_range]at hi;obtain⟨h1,h2,h3⟩:=h.task _ (VV hi);rw[aj hi,VX];simp only[VP,decide_eq_true_eq];refine⟨h1,h2,h3,?_⟩;by_cases c:0<i
 ·rw[decide_eq_true c,cond_true,aj (show i-1<s.tasks.length by omega),VX];exact decide_eq_true (List.pairwise_iff_getElem.1 h.ids (i-1) i (by omega) hi (by omega))
 ·rw[decide_eq_false c];rfl
theorem qF {s:ak} (h:SOk s):bf s=true:=by
 have hT:=wq h;unfold bf inB;simp only[VP,decide_eq_true_eq];refine⟨h.now,h.ai,h.age,by have:=h.len;omega,h.turns,h.next,hT,?_⟩
 rcases h.run with⟨h1,h2⟩|⟨t,ht,e,l1,l2⟩
 ·unfold Mt;rw[h1,h2];rfl
 ·have hb:=(h.task t ht).1;have hid:=(bI hb).1;obtain⟨i,hi,rfl⟩:=V8.1 ht
  have h0:(s.run==0)=false:=by rw[<-e];simp;omega
  unfold Mt;rw[h0,cond_false,<-e,BC hT hi,VX,aj hi,VX,(eR hb).1,VX];exact cd.2 ⟨l1,l2⟩
theorem Fu {ts:List Task} (hp:ts.Pairwise λa b=>a.id<b.id) {t:Task} (ht:t∈ts):∃pre post,ts=pre++t::post/\(∀u∈pre,u.id<t.id)/\(∀u∈post,t.id<u.id)/\(∀u∈pre,∀v∈post,u.id<v.id)/\(pre.Pairwise λa b=>a.id<b.id)/\post.Pairwise λa b=>a.id<b.id:=by
 obtain⟨pre,post,rfl⟩:=List.append_of_mem ht;rw[List.pairwise_append,X6]at hp;obtain⟨h1,⟨h2,h3⟩,h4⟩:=hp;exact⟨pre,post,rfl,λu hu=>h4 u hu t (by simp),h2,λu hu v hv=>h4 u hu v (by simp[hv]),h1,h3⟩
theorem L7 {pre post:List Task} {t:Task} (h:∀u∈pre,u.id≠t.id):((pre++t::post).findIdx? λu=>u.id==t.id)=some pre.length:=by
 rw[List.findIdx?_append]
 have h1:(pre.findIdx? λu=>u.id==t.id)=none:=by
  rw[Xb];intro u hu;simpa using h u hu
 rw[h1,X5];simp
theorem OE {pre post:List Task} {t:Task} {id:Int} (h1:∀u∈pre,u.id≠id) (h2:∀u∈post,u.id≠id) (ht:t.id=id):HI (pre++t::post) id=pre++post:=by
 unfold HI;rw[XC,Xq]
 have e1:pre.filter (λu=>!(u.id==id))=pre:=W4.2 λu hu=>by simpa using h1 u hu
 have e2:post.filter (λu=>!(u.id==id))=post:=W4.2 λu hu=>by simpa using h2 u hu
 rw[e1,e2,ht];simp
def qW (t:Task):Task:=⟨t.id,t.ay,t.at_+1,t.due,t.born⟩
theorem xH {s:ak} {pre post:List Task} {t:Task} {L tr:Int} (e:s.tasks=pre++t::post) (h1:∀u∈pre,u.id≠t.id) (h2:∀u∈post,u.id≠t.id):
  wG s t.id L tr=if L-1>0 then(⟨s.now+1,s.ai,s.age,s.tasks,t.id,L-1,tr,s.next⟩,0,false)else
   if t.at_+1<t.ay.length then(⟨s.now+1,s.ai,s.age,pre++qW t::post,0,L-1,tr,s.next⟩,t.id,false)
   else(⟨s.now+1,s.ai,s.age,pre++post,0,L-1,tr,s.next⟩,t.id,true):=by
 unfold wG
 have hf:(s.tasks.findIdx? λu=>u.id==t.id)=some pre.length:=by rw[e];exact L7 h1
 have hg:s.tasks[pre.length]? =some t:=by rw[e];simp
 have VH:s.tasks.set pre.length (qW t)=pre++qW t::post:=by rw[e];simp
 rw[ab,hf,VX,hg,VX,ab];show(if L-1>0 then _ else if t.at_+1<(t.ay.length:Int)then(⟨s.now+1,s.ai,s.age,s.tasks.set pre.length (qW t),0,L-1,tr,s.next⟩,t.id,false)else(⟨s.now+1,s.ai,s.age,HI (s.tasks.set pre.length (qW t)) t.id,0,L-1,tr,s.next⟩,t.id,true):ak× Int× Bool)=_;rw[VH,OE (t:=qW t) h1 h2 rfl]
structure UR (s:ak) (t:Task) (L tr:Int):Prop where
 mem:t∈s.tasks
 lo:1<=L
 hi:L<=fL t
 rem:∀u∈s.tasks,cS s u=cond (t.id==u.id) (ie u-fL u+L) (ie u)
 trn:0<=tr/\tr<=1000000
 eq:cK s false=wG s t.id L tr
theorem Rd {s:ak} (h:SOk s) {t u:Task} (ht:t∈s.tasks) (hu:u∈s.tasks) (e:t.id=u.id):t=u:=by
 obtain⟨i,hi,rfl⟩:=V8.1 ht;obtain⟨j,hj,rfl⟩:=V8.1 hu;have:=Ov (wq h) hi hj e;subst this;rfl
theorem xI {key:Task->Int} {xs:List Task} (h:zf key xs=none):xs=[]:=by
 cases xs with
 |nil=>rfl
 |cons x l=>exact nomatch h
theorem OG {s:ak} (h:SOk s) (hp:ju s=0):s.tasks=[]:=by
 have hT:=wq h
 have hl:zj s=none:=by
  cases hl:zj s with
  |none=>rfl
  |some t=>
   have h1:=OA hT hl
   cases he:oB s with
   |none=>
    unfold ju at hp;rw[hl,he]at hp;simp only[X7,Xp,Wj,Bool.true_or,VZ,cond_true,VX]at hp
    omega
   |some e=>
    have h2:=Fq hT he;unfold ju at hp;rw[hl,he]at hp;simp only[X7,VT,Bool.false_or,VZ,VX]at hp;cases hc:(decide (s.age>0)&&(s.turns.tmod s.age==0))<;>rw[hc]at hp
    ·simp only[cond_false]at hp;omega
    ·simp only[cond_true]at hp;omega
 have he:oB s=none:=by
  cases he:oB s with
  |none=>rfl
  |some e=>
   have h2:=Fq hT he;unfold ju at hp;rw[hl,he]at hp;simp only[Xp,WZ,cond_false,VX]at hp;omega
 have f1:=xI hl;have f2:=xI he
 cases ht:s.tasks with
 |nil=>rfl
 |cons x l=>
  have hx:x∈s.tasks:=by rw[ht];simp
  cases hq:eK s x
  ·have:x∈s.tasks.filter λt=>!eK s t:=Wz.2 ⟨hx,by rw[hq];rfl⟩;rw[f2]at this;exact nomatch this
  ·have:x∈s.tasks.filter (eK s):=Wz.2 ⟨hx,hq⟩;rw[f1]at this;exact nomatch this
theorem wu {s:ak} (h:SOk s) (hn:s.now≠1000000):
  (s.tasks=[]/\s.run=0/\s.left=0/\cK s false=(⟨s.now+1,s.ai,s.age,s.tasks,s.run,s.left,s.turns,s.next⟩,0,false))\/∃t L tr,UR s t L tr/\(s.run=t.id\/(s.run=0/\ju s=t.id)):=by
 have hb:=qF h
 have Fv:(bf s&&!(s.now==1000000))=true:=by rw[hb];simpa using hn
 rcases h.run with⟨h1,h2⟩|⟨t,ht,e,l1,l2⟩
 ·by_cases hp:ju s=0
  ·left;refine⟨OG h hp,h1,h2,?_⟩;unfold cK;rw[Fv,h1,hp];rfl
  ·right;obtain⟨i,hi,hf,hid⟩:=BM hb hp;have ht:=VV hi;have hc:=eR (h.task _ ht).1;refine⟨s.tasks[i],fL s.tasks[i],cond (decide (s.turns+1>1000000)) 0 (s.turns+1),⟨ht,hc.2.1,XB _,λu hu=>?_,?_,?_⟩,.inr ⟨h1,hid.symm⟩⟩
   ·have hu0:=(bI (h.task u hu).1).1
    have:(s.run==u.id)=false:=by rw[h1];simp;omega
    unfold cS;rw[this,cond_false];cases hq:s.tasks[i].id==u.id
    ·rfl
    ·have:=Rd h ht hu (by simpa using hq);rw[cond_true,this];omega
   ·have:=h.turns;rw[ab];split<;>omega
   ·have hp':(ju s==0)=false:=by simpa using hp
    unfold cK;rw[Fv,h1,hp',hf];simp only[cond_true,cond_false,VX];rw[aj hi,VX,hid];rfl
 ·right;have ht0:=(bI (h.task t ht).1).1;refine⟨t,s.left,s.turns,⟨ht,l1,l2,λu hu=>?_,h.turns,?_⟩,.inl e.symm⟩
  ·unfold cS;rw[e]
  ·have:(s.run==0)=false:=by rw[<-e];simp;omega
   unfold cK;rw[Fv,this,e];rfl
def Sw (p:Int->Bool) (s:ak):Int:=(s.tasks.map λt=>cond (p t.due) (cS s t) 0).sum
theorem Hq {t:Task} (h:jf t=true):ie (qW t)=ie t-fL t:=by
 have ht:=bI h
 have hlt:t.at_.toNat<t.ay.length:=by omega
 have e:idx t.ay t.at_=some t.ay[t.at_.toNat]:=by rw[nc _ ht.2.2.1.1];exact aj hlt
 have hc:fL t=t.ay[t.at_.toNat]:=by unfold fL;rw[e];rfl
 unfold ie qW
 have e2:(t.at_+1).toNat=t.at_.toNat+1:=by omega
 simp only;rw[e2,iw hlt,W3,hc];omega
theorem OH {t:Task} (h:jf t=true) (hl:¬t.at_+1<t.ay.length):ie t-fL t=0:=by
 rw[<-Hq h];unfold ie qW;simp only;rw[List.drop_eq_nil_of_le (by omega)];rfl
structure TP (s:ak) (t:Task) (r:ak× Int× Bool):Prop where
 ok:SOk r.1
 now:r.1.now=s.now+1
 ai:r.1.ai=s.ai
 age:r.1.age=s.age
 next:r.1.next=s.next
 sum:∀p:Int->Bool,Sw p r.1=Sw p s-cond (p t.due) 1 0
 from_:∀u∈r.1.tasks,∃v∈s.tasks,v.id=u.id/\v.due=u.due
 told:(r.2.1=0/\r.2.2=false/\r.1.run=t.id/\r.1.tasks=s.tasks)\/(r.2.1=t.id/\r.1.run=0/\r.1.left=0)
 goes:r.2.2=true->r.2.1=t.id/\∀u∈r.1.tasks,u.id≠t.id
theorem worked {s:ak} {t:Task} {L tr:Int} (h:SOk s) (hn:s.now≠1000000) (T:UR s t L tr):TP s t (cK s false):=by
  obtain⟨pre,post,e,h1,h2,h3,h4,h5⟩:=Fu h.ids T.mem;have hb:=(h.task t T.mem).1;have htb:=bI hb
  have n1:∀u∈pre,u.id≠t.id:=λu hu=>by have:=h1 u hu;omega
  have n2:∀u∈post,u.id≠t.id:=λu hu=>by have:=h2 u hu;omega
  have m1:∀u∈pre,u∈s.tasks:=λu hu=>by rw[e];simp[hu]
  have m2:∀u∈post,u∈s.tasks:=λu hu=>by rw[e];simp[hu]
  have hlen:=h.len;rw[e,VR,VS]at hlen;have Fv:=h.now
  have part:∀(p:Int->Bool) (s':ak) (l:List Task),(∀u∈l,u∈s.tasks/\u.id≠t.id)->(∀u∈l,s'.run≠u.id)->(l.map λu=>cond (p u.due) (cS s' u) 0)=l.map λu=>cond (p u.due) (cS s u) 0:=λp s' l hl hr=>List.map_congr_left λu hu=>by
    have r1:cS s' u=ie u:=by unfold cS;rw[show(s'.run==u.id)=false by simpa using hr u hu];rfl
    have r2:cS s u=ie u:=by rw[T.rem u (hl u hu).1,show(t.id==u.id)=false by simpa usingλq=>(hl u hu).2 q.symm];rfl
    rw[r1,r2]
  have q1:∀u∈pre,u∈s.tasks/\u.id≠t.id:=λu hu=>⟨m1 u hu,n1 u hu⟩;have q2:∀u∈post,u∈s.tasks/\u.id≠t.id:=λu hu=>⟨m2 u hu,n2 u hu⟩
  have z1:∀u∈s.tasks,(0:Int)≠u.id:=λu hu=>by have:=(bI (h.task u hu).1).1;omega
  have rt:cS s t=ie t-fL t+L:=by rw[T.rem t T.mem];simp
  have old:∀p:Int->Bool,Sw p s=(pre.map λu=>cond (p u.due) (cS s u) 0).sum+(cond (p t.due) (ie t-fL t+L) 0+(post.map λu=>cond (p u.due) (cS s u) 0).sum):=λp=>by
    unfold Sw;rw[<-rt];conv=>lhs;rw[e,WL,Xn,Wm,W3]
  rw[T.eq,xH e n1 n2];have hlo:=T.lo;by_cases c1:L-1>0
  · rw[if_pos c1];refine⟨⟨by simp only;omega,h.ai,h.age,h.len,T.trn,h.next,λu hu=>?_,h.ids,.inr ⟨t,T.mem,rfl,?_⟩⟩,rfl,rfl,rfl,rfl,λp=>?_,λu hu=>⟨u,hu,rfl,rfl⟩,.inl ⟨rfl,rfl,rfl,rfl⟩,λhg=>nomatch hg⟩
    · have:=h.task u hu;exact⟨this.1,this.2.1,by simp only;omega⟩
    · have:=T.hi;simp only;omega
    · rw[old p];unfold Sw;simp only
      conv=>lhs;rw[show List.map (λu:Task=>cond (p u.due) (cS ⟨s.now+1,s.ai,s.age,s.tasks,t.id,L-1,tr,s.next⟩ u) 0) s.tasks=List.map (λu:Task=>cond (p u.due) (cS ⟨s.now+1,s.ai,s.age,s.tasks,t.id,L-1,tr,s.next⟩ u) 0) (pre++t::post)from by rw[<-e],WL,Xn,Wm,W3]
      rw[part p _ pre q1 (λu hu=>(n1 u hu).symm),part p _ post q2 (λu hu=>(n2 u hu).symm)]
      have:cS ⟨s.now+1,s.ai,s.age,s.tasks,t.id,L-1,tr,s.next⟩ t=ie t-fL t+(L-1):=by unfold cS;simp
      rw[this];cases p t.due<;>simp only[cond_true,cond_false]<;>omega
  · have hL:L=1:=by omega
    subst hL;rw[if_neg c1];by_cases c2:t.at_+1<t.ay.length
    · rw [if_pos c2]
      have hnb:jf (qW t)=true:=by
        unfold jf inB qW;unfold jf inB at hb;simp only[VP,decide_eq_true_eq]at hb⊢;exact⟨hb.1,hb.2.1,⟨by omega,by omega⟩,hb.2.2.2.1,hb.2.2.2.2.1,hb.2.2.2.2.2⟩
      refine⟨⟨by simp only;omega,h.ai,h.age,by simp only[VR,VS];omega,T.trn,h.next,λu hu=>?_,?_,.inl ⟨rfl,rfl⟩⟩,rfl,rfl,rfl,rfl,λp=>?_,λu hu=>?_,.inr ⟨rfl,rfl,rfl⟩,λhg=>nomatch hg⟩
      · simp only at hu⊢
        rcases Wh.1 hu with hu|hu
        · have:=h.task u (m1 u hu);exact⟨this.1,this.2.1,by omega⟩
        · rcases V0.1 hu with rfl|hu
          · have:=h.task t T.mem;exact⟨hnb,this.2.1,by show t.born<=_;omega⟩
          · have:=h.task u (m2 u hu);exact⟨this.1,this.2.1,by omega⟩
      · simp only;rw[List.pairwise_append,X6];refine⟨h4,⟨h2,h5⟩,λu hu v hv=>?_⟩
        rcases V0.1 hv with rfl|hv
        · exact h1 u hu
        · exact h3 u hu v hv
      · rw[old p];unfold Sw;simp only;rw[WL,Xn,Wm,W3];rw[part p _ pre q1 (λu hu=>z1 u (m1 u hu)),part p _ post q2 (λu hu=>z1 u (m2 u hu))];have hd:(qW t).due=t.due:=rfl
        have:cS ⟨s.now+1,s.ai,s.age,pre++qW t::post,0,1-1,tr,s.next⟩ (qW t)=ie t-fL t:=by
          unfold cS;rw[show((0:Int)==(qW t).id)=false by show((0:Int)==t.id)=false;simp;omega,cond_false,Hq hb]
        rw[this,hd];cases p t.due<;>simp only[cond_true,cond_false]<;>omega
      · simp only at hu
        rcases Wh.1 hu with hu|hu
        · exact⟨u,m1 u hu,rfl,rfl⟩
        · rcases V0.1 hu with rfl|hu
          · exact⟨t,T.mem,rfl,rfl⟩
          · exact⟨u,m2 u hu,rfl,rfl⟩
    · rw[if_neg c2];have hr:=OH hb c2;refine⟨⟨by simp only;omega,h.ai,h.age,by simp only[VR];omega,T.trn,h.next,λu hu=>?_,?_,.inl ⟨rfl,rfl⟩⟩,rfl,rfl,rfl,rfl,λp=>?_,λu hu=>?_,.inr ⟨rfl,rfl,rfl⟩,λ_=>⟨rfl,λu hu=>?_⟩⟩
      · simp only at hu⊢
        rcases Wh.1 hu with hu|hu
        · have:=h.task u (m1 u hu);exact⟨this.1,this.2.1,by omega⟩
        · have:=h.task u (m2 u hu);exact⟨this.1,this.2.1,by omega⟩
      · simp only;rw[List.pairwise_append];exact⟨h4,h5,h3⟩
      · rw[old p];unfold Sw;simp only;rw[WL,Xn];rw[part p _ pre q1 (λu hu=>z1 u (m1 u hu)),part p _ post q2 (λu hu=>z1 u (m2 u hu)),hr];cases p t.due<;>simp only[cond_true,cond_false]<;>omega
      · simp only at hu
        rcases Wh.1 hu with hu|hu
        · exact⟨u,m1 u hu,rfl,rfl⟩
        · exact⟨u,m2 u hu,rfl,rfl⟩
      · simp only at hu
        rcases Wh.1 hu with hu|hu
        · exact n1 u hu
        · exact n2 u hu
theorem oC {s:ak} (h:SOk s) (hn:s.now≠1000000):cK s true=(⟨s.now+1,s.ai,s.age,s.tasks,s.run,s.left,s.turns,s.next⟩,0,false):=by
 have Fv:(bf s&&!(s.now==1000000))=true:=by rw[qF h];simpa using hn
 unfold cK;rw[Fv];rfl
theorem zJ {s:ak} (hn:s.now=1000000) (st:Bool):cK s st=(s,0,false):=by
 unfold cK;rw[hn];simp
theorem Ku {s:ak} (h:SOk s) (hn:s.now≠1000000):SOk ⟨s.now+1,s.ai,s.age,s.tasks,s.run,s.left,s.turns,s.next⟩:=by
 have:=h.now;exact⟨by simp only;omega,h.ai,h.age,h.len,h.turns,h.next,λu hu=>by have:=h.task u hu;exact⟨this.1,this.2.1,by simp only;omega⟩,h.ids,h.run⟩
theorem OI {s:ak} (h:SOk s) (st:Bool):SOk (cK s st).1:=by
 by_cases hn:s.now=1000000
 ·rw[zJ hn];exact h
 cases st
 ·rcases wu h hn with⟨_,_,_,e⟩|⟨t,L,tr,T,_⟩
  ·rw[e];exact Ku h hn
  ·exact(worked h hn T).ok
 ·rw[oC h hn];exact Ku h hn
theorem BN {s:ak} (h:SOk s) (id:Int):SOk (sg s id).1:=by
 unfold sg;cases hc:(bf s&&decide (0<=lK s.tasks id))
 ·exact h
 rw[cond_true]
 have hm:∀u∈HI s.tasks id,u∈s.tasks/\u.id≠id:=λu hu=>by
  have:=Wz.1 hu;exact⟨this.1,by simpa using this.2⟩
 refine⟨h.now,h.ai,h.age,W8 (WJ _ _) h.len,h.turns,h.next,λu hu=>h.task u (hm u hu).1,h.ids.filter _,?_⟩;cases hr:s.run==id
 ·simp only[cond_false]
  rcases h.run with h1|⟨t,ht,e,l⟩
  ·exact .inl h1
  ·refine .inr ⟨t,Wz.2 ⟨ht,?_⟩,e,l⟩;rw[e,hr];rfl
 ·exact .inl ⟨rfl,rfl⟩
theorem Kv {s:ak} (h:SOk s) (ay:List Int) (due:Int):SOk (fo s ay due).1:=by
 rcases qE s ay due with⟨_,_,_,g,_⟩|⟨_,_,g⟩
 ·unfold BF at g;exact Rc (WE.1 g).1
 ·rw[g];exact h
end
set_option maxRecDepth 100000
section
theorem BO {k:Nat} {xs:List Int} (hk:xs.length<k) (hN:xs.length<=aU):Dq k xs xs=some true:=by
 have hM:=al;unfold Dq;rw[EM,if_pos rfl];refine(N5 xs xs rfl (yes:=some true) (no:=some false) (λi hi _ next=>?_) (λnext=>?_) hk).trans (by simp)
 ·simp only[vH];rw[ab,if_pos (by omega),aL,aj hi,aa,aa,EM,if_pos rfl,aq hi (by omega)];simp
 ·simp only[vH];rw[ab,if_neg (by omega)]
end
set_option maxRecDepth 100000
set_option maxHeartbeats 4000000
section
theorem L8 {b:List Int} (h:(eI b).2=0):eH (eI b).1=true:=by
  unfold eI at h⊢;by_cases c:(b.length:Int)>6000
  · rw[decide_eq_true c]at h;exact absurd (show(5:Int)=0 from h) (by decide)
  rw[decide_eq_false c]at h⊢;simp only[cond_false]at h⊢;cases c1:decide (b.take 3=[80,77,49])
  · rw[c1]at h;exact absurd (show(1:Int)=0 from h) (by decide)
  rw[c1]at h;simp only[VT,cond_false]at h⊢;generalize aY b 3 false=r2 at h⊢;generalize aY b r2.2.1 r2.2.2=r3 at h⊢;generalize aY b r3.2.1 r3.2.2=r4 at h⊢;generalize ch b r4.2.1 r4.2.2 2000=r5 at h⊢;generalize rY b r5.1.toNat r5.2.1 r5.2.2 []=y at h⊢;generalize aY b y.1 y.2.1=r6 at h⊢;cases c2:r6.2.2
  · rw [c2] at h;simp only[cond_false]at h⊢;cases c3:(r6.1 !=zc ((b.take y.1.toNat).drop 0))
    · rw[c3]at h;simp only[cond_false]at h⊢;cases c4:(r6.2.1 !=(b.length:Int))
      · rw[c4]at h;simp only[cond_false]at h⊢;cases c5:eH ⟨⟨r2.1,r3.1,r4.1⟩,y.2.2⟩
        · rw[c5]at h;exact absurd (show(4:Int)=0 from h) (by decide)
        · simp only[VT,cond_false];exact c5
      · rw[c4]at h;exact absurd (show(3:Int)=0 from h) (by decide)
    · rw[c3]at h;exact absurd (show(3:Int)=0 from h) (by decide)
  · rw[c2]at h;exact absurd (show(2:Int)=0 from h) (by decide)
theorem uO (b:List Int):(eI b).1.tot<=8002000:=by
  have h0:dt.tot=0:=rfl;unfold eI;generalize aY b 3 false=r2;simp only;generalize aY b r2.2.1 r2.2.2=r3;generalize aY b r3.2.1 r3.2.2=r4;have hc:=tj b r4.2.1 r4.2.2;generalize ch b r4.2.1 r4.2.2 2000=r5 at hc;have ht:=tl b r5.1.toNat r5.2.1 r5.2.2 [];rw[show jj av.tot []=0 from rfl]at ht;generalize rY b r5.1.toNat r5.2.1 r5.2.2 []=y at ht;generalize aY b y.1 y.2.1=r6
  have hy:(⟨⟨r2.1,r3.1,r4.1⟩,y.2.2⟩:Model).tot<=8002000:=by show jj av.tot y.2.2+0<=_;omega
  cases decide ((b.length:Int)>6000)<;>simp only[cond_true,cond_false]
  · cases (!decide (b.take 3 = [80, 77, 49])) <;> simp only [cond_true, cond_false]
    · cases r6.2.2<;>simp only[cond_true,cond_false]
      · cases(r6.1 !=zc ((b.take y.1.toNat).drop 0))<;>simp only[cond_true,cond_false]
        · cases(r6.2.1 !=(b.length:Int))<;>simp only[cond_true,cond_false]
          · generalize (!eH _)=q;cases q<;>simp only[cond_true,cond_false]
            · exact hy
            · omega
          · omega
        · omega
      · omega
    · omega
  · omega
def tU (m:Model):Bool:=(bB m).all λc=>decide (c<=1000)
theorem Fw {k:Nat} {m:Model} (hk:m.tot<k) (hN:m.tot<=aU):s8 k m=some (tU m&&eH m):=by
 have hM:=al;have hc:=kH m;have hl:=bU av.tot m.aC;have ht:m.tot=jj av.tot m.aC+0:=rfl;unfold s8 tU;rw[lI hk hN,aa,rT hk hN]
 rw[kN (bB m) (λc=>decide (c<=1000)) (no:=some false) (yes:=some (eH m)) (λi hi next=>by
  unfold mo;simp only;rw[decide_eq_true (by omega),cond_true,decide_eq_true (by omega),cond_true,VQ,aj hi,aa,aq hi (by omega)];by_cases c:(bB m)[i]<=1000
  ·rw[decide_eq_false (by omega),decide_eq_true c];rfl
  ·rw[decide_eq_true (by omega),decide_eq_false c];rfl) (λnext=>by
  unfold mo;simp only
  rw[decide_eq_false (by omega)];rfl) (by omega)]
 cases(bB m).all λc=>decide (c<=1000)<;>rfl
theorem Hr {k:Nat} {m:Model} (hk:m.tot+1<k) (hN:m.tot<aU):vT k m=some (tU m):=by
 have hM:=al;have hc:=kH m;have hl:=bU av.tot m.aC;have ht:m.tot=jj av.tot m.aC+0:=rfl;unfold vT tU cg cH;rw[lJ hk hN,aa]
 rw[fA (bB m) (λx=>decide (x>1000)) (λi hi next=>by
  simp only[bn,ab,rP,aa]
  rw[if_pos (by omega),aL,aj hi,aa,aq hi (by omega)]) (λnext=>by
  simp only[bn,ab];rw[if_neg (by omega)]) (by omega)]
 rw[dg];simp only[aa,pA];rw[Xw,Yb]
 congr 2
 funext c
 rw[<-decide_not]
 congr 1
 exact propext Int.not_lt
def uP:aF:=⟨⟨0,0,0⟩,[]⟩
def dO (kind code:Int):List Event:=[⟨5,kind,code,uP⟩]
def Kw (r:Runtime) (a:Int):Bool:=inB a 0 3&&r.au.getD a.toNat false
def tH (r:Runtime) (x:Step):List Event× List Model× List Bool:=
 cond (inB x.a 0 3&&!r.au.getD x.a.toNat false) (cond (decide ((eI x.data).2=0)&&tU (eI x.data).1) ([⟨0,x.a,Bc (eI x.data).1,uP⟩],r.ao.set x.a.toNat (eI x.data).1,r.au.set x.a.toNat true) (dO x.kind 2,r.ao,r.au)) (dO x.kind 1,r.ao,r.au)
section
variable {k:Nat} {r:Runtime} {x:Step} (hk:9000000<=k) (hb:∀y∈x.data,okB y) (hl:x.data.length<=aU) (hlo:r.au.length=4) (hmo:r.ao.length=4)
include hk hb hl hlo hmo
theorem OJ:qq k r x=some (tH r x):=by
 have hM:=al;have hd:=uO x.data;unfold qq tH bH;rw[cp,aa];cases c1:inB x.a 0 3
 ·simp only[Wj,cond_true,aa,decide_true,WZ,cond_false];rfl
 have c1':=of_decide_eq_true c1
 have hi:x.a.toNat<r.au.length:=by omega
 simp only[VT,cond_false,VZ];rw[decide_eq_true (by omega),cond_true,aj hi,aa,bT hi];cases c2:r.au[x.a.toNat]
 ·simp only[cond_false,Wj,cond_true];rw[zd hk hb hl,aa,pB];by_cases c3:(eI x.data).2=0
  ·rw[decide_eq_true c3];simp only[cond_true,VZ];rw[Fw (by omega) (by omega),aa,L8 c3,Ym];cases tU (eI x.data).1
   ·simp only[Wj,cond_true,aa,decide_true,cond_false];rfl
   ·simp only[VT,cond_false,cond_true];rw[decide_eq_true (by omega),cond_true,Cu (by omega) (by omega),aa];simp only[decide_true,cond_true];rfl
  ·rw[decide_eq_false c3];simp only[cond_true,aa,decide_true,WZ,cond_false];rfl
 ·simp only[cond_true,aa,decide_true,VT,cond_false];rfl
theorem OK:gZ k r x=some (tH r x):=by
 have hM:=al;have hd:=uO x.data;unfold gZ tH eg;rw[fV,aa];cases c1:inB x.a 0 3
 ·simp only[Wj,cond_true,aa,decide_true,WZ,cond_false];rfl
 have c1':=of_decide_eq_true c1
 have hi:x.a.toNat<r.au.length:=by omega
 simp only[VT,cond_false,VZ];rw[decide_eq_true (by omega),cond_true,aj hi,aa,bT hi];cases c2:r.au[x.a.toNat]
 ·simp only[cond_false,Wj,cond_true];rw[ze hk hb hl,aa,pB];by_cases c3:(eI x.data).2=0
  ·rw[decide_eq_true c3];simp only[cond_true,VZ];rw[Hr (by omega) (by omega),aa];cases tU (eI x.data).1
   ·simp only[Wj,cond_true,aa,decide_true,cond_false];rfl
   ·simp only[VT,cond_false,cond_true];rw[decide_eq_true (by omega),cond_true,Cv (by omega) (by omega),aa];simp only[decide_true,cond_true];rfl
  ·rw[decide_eq_false c3];simp only[cond_true,aa,decide_true,WZ,cond_false];rfl
 ·simp only[cond_true,aa,decide_true,VT,cond_false];rfl
end
theorem wv {k:Nat} {r:Runtime} {a:Int} (hlo:r.au.length=4):fa k r a=some (Kw r a):=by
 unfold fa Kw;rw[fV,aa];cases c:inB a 0 3
 ·rfl
 have c':=of_decide_eq_true c;simp only[cond_true,VZ];rw[nc _ (by omega),aj (show a.toNat<r.au.length by omega),bT (show a.toNat<r.au.length by omega)];rfl
end
set_option maxRecDepth 100000
set_option maxHeartbeats 4000000
section
def wx (rs:List Request) (id:Int):Int:=(rs.findIdx? λq=>q.id==id).elim (-1) λi=>(i:Int)
def zK (rs:List Request) (id:Int):List Request:=rs.filter λq=>!(q.id==id)
section
variable {k:Nat} {rs:List Request} {id:Int} (hk:rs.length<k) (hN:rs.length<=aU)
include hk hN
theorem BP:bD k rs id=some (wx rs id):=by
 have hM:=al;unfold bD wx
 rw[fA rs (λt=>t.id==id) (yes:=some (-1)) (no:=some) (λi hi next=>by
  simp only[bj,im,decide_true,cond_true,aa]
  rw[ab,if_pos (by omega),ab,if_pos (by omega),VQ,aj hi,aa,aq hi (by omega)]) (λnext=>by
  simp only[bj,decide_true,cond_true];rw[ab,if_neg (by omega)]) hk]
 exact dg _
theorem BQ:bE k rs id=some (wx rs id):=by
 have hM:=al;unfold bE wx
 rw[fA rs (λt=>t.id==id) (yes:=some (-1)) (no:=some) (λi hi next=>by
  simp only[bm,iZ,decide_true,cond_true,aa]
  rw[ab,if_pos (by omega),aL,aj hi,aa,aq hi (by omega)]) (λnext=>by
  simp only[bm,decide_true,cond_true];rw[ab,if_neg (by omega)]) hk]
 exact dg _
theorem BR:bu k rs id=some (zK rs id):=by
  have hM:=al;unfold bu zK;rw[BP hk hN,aa];unfold wx
  cases hf:rs.findIdx? λz=>z.id==id with
  | none =>
    rw[Option.elim_none,filter_none hf]
    simp
  | some i =>
    obtain⟨hi,hfi⟩:=oA hf;rw[VX,bM,if_neg (by omega),aq hi (by omega)]
    obtain⟨i',ys',h1,h2,h3,h4⟩:=kJ rs (λz=>z.id==id) (R:=List Request) (g:=(λu5 n5=>aT k id u5 n5 (λy4=>cond (decide (0<=y4.1/\y4.1<=(y4.2.length:Int))) (cond (decide (0<=y4.1/\y4.1<=(((y4.2).take y4.1.toNat++List.replicate (y4.2.length-y4.1.toNat) (⟨(0:Int),(0:Int),(⟨(⟨(⟨(0:Int),(0:Int),(0:Int)⟩:Shape),([]:List av)⟩:Model),(0:Int),(⟨(⟨(0:Int),(0:Int),(0:Int)⟩:Shape),([]:List Int)⟩:aF),(0:Int)⟩:Job),(0:Int)⟩:Request)++(y4.2).drop (y4.1.toNat+(y4.2.length-y4.1.toNat))).length:Int))) (cond (decide (id=id)) (some (((y4.2).take y4.1.toNat++List.replicate (y4.2.length-y4.1.toNat) (⟨(0:Int),(0:Int),(⟨(⟨(⟨(0:Int),(0:Int),(0:Int)⟩:Shape),([]:List av)⟩:Model),(0:Int),(⟨(⟨(0:Int),(0:Int),(0:Int)⟩:Shape),([]:List Int)⟩:aF),(0:Int)⟩:Job),(0:Int)⟩:Request)++(y4.2).drop (y4.1.toNat+(y4.2.length-y4.1.toNat))).take (y4.1.toNat-0))) none) none) none)))
      (fin:=(λy4=>cond (decide (0<=y4.1/\y4.1<=(y4.2.length:Int))) (cond (decide (0<=y4.1/\y4.1<=(((y4.2).take y4.1.toNat++List.replicate (y4.2.length-y4.1.toNat) (⟨(0:Int),(0:Int),(⟨(⟨(⟨(0:Int),(0:Int),(0:Int)⟩:Shape),([]:List av)⟩:Model),(0:Int),(⟨(⟨(0:Int),(0:Int),(0:Int)⟩:Shape),([]:List Int)⟩:aF),(0:Int)⟩:Job),(0:Int)⟩:Request)++(y4.2).drop (y4.1.toNat+(y4.2.length-y4.1.toNat))).length:Int))) (cond (decide (id=id)) (some (((y4.2).take y4.1.toNat++List.replicate (y4.2.length-y4.1.toNat) (⟨(0:Int),(0:Int),(⟨(⟨(⟨(0:Int),(0:Int),(0:Int)⟩:Shape),([]:List av)⟩:Model),(0:Int),(⟨(⟨(0:Int),(0:Int),(0:Int)⟩:Shape),([]:List Int)⟩:aF),(0:Int)⟩:Job),(0:Int)⟩:Request)++(y4.2).drop (y4.1.toNat+(y4.2.length-y4.1.toNat))).take (y4.1.toNat-0))) none) none) none))
      (λi j ys hj next hij hl hg=>by
        simp only[aT,gI,decide_true,cond_true,aa,hl]
        rw[ab,if_pos (by omega),ab,if_pos (by omega),VQ,hg,aa,cond_not,ab,if_pos (by omega),aq hj (by omega),aq (show i<rs.length by omega) (by omega),VQ])
      (λi ys next hl=>by simp only[aT,hl];rw[ab,if_neg (by omega)])
      (rs.length-(i+1)) i (i+1) rs k (by omega) (by omega) (by omega) rfl rfl hfi
    refine h4.trans ?_;obtain⟨c1,c2⟩:=tq (⟨(0:Int),(0:Int),(⟨(⟨(⟨(0:Int),(0:Int),(0:Int)⟩:Shape),([]:List av)⟩:Model),(0:Int),(⟨(⟨(0:Int),(0:Int),(0:Int)⟩:Shape),([]:List Int)⟩:aF),(0:Int)⟩:Job),(0:Int)⟩:Request) h1 h2;simp only[VQ,h2,decide_true,cond_true];rw[c2,c1,ab,if_pos (by omega),ab,if_pos (by omega),h3]
end
theorem xJ {k:Nat} {r:Runtime} {id:Int} (hk:r.ae.length<k) (hN:r.ae.length<=aU):iE k r id=some (wx r.ae id):=by
 unfold iE;rw[BQ hk hN];rfl
theorem tv {k:Nat} {r:Runtime} {id:Int} (hk:r.ae.length<k) (hN:r.ae.length<=aU):xw k r id=some (wx r.ae id):=by
 have hM:=al;unfold xw wx
 rw[fA r.ae (λt=>t.id==id) (yes:=some (-1)) (no:=some) (λi hi next=>by
  simp only[s9]
  rw[ab,if_pos (by omega),aL,aj hi,aa,aq hi (by omega)]) (λnext=>by
  simp only[s9];rw[ab,if_neg (by omega)]) hk]
 exact dg _
def qQ (s:ak) (id:Int):ak:=⟨s.now,s.ai,s.age,HI s.tasks id,cond (s.run==id) 0 s.run,cond (s.run==id) 0 s.left,s.turns,s.next⟩
theorem pG {s:ak} (h:SOk s) {id:Int} (hid:1<=id):(sg s id).1=qQ s id:=by
 unfold sg;rw[qF h,VZ];by_cases c:0<=lK s.tasks id
 ·rw[decide_eq_true c];rfl
 rw[decide_eq_false c,cond_false]
 have hn:∀t∈s.tasks,t.id≠id:=λt ht e=>by
  unfold lK at c
  cases hf:s.tasks.findIdx? λt=>t.id==id with
  |none=>rw[Xb]at hf;have:=hf t ht;simp[e]at this
  |some i=>rw[hf,VX]at c;omega
 have ht:HI s.tasks id=s.tasks:=W4.2 λt ht=>by simpa using hn t ht
 have hr:(s.run==id)=false:=by
  rcases h.run with⟨h1,_⟩|⟨t,g1,g2,_⟩
  ·rw[h1];simp;omega
  ·rw[<-g2];simpa using hn t g1
 unfold qQ;rw[ht,hr];rfl
def TQ (r:Runtime) (id:Int):Runtime:=⟨qQ r.sched id,r.ao,r.au,zK r.ae id⟩
section
variable {k:Nat} {r:Runtime} {id:Int} (hk:r.sched.tot+r.ae.length<k) (hN:r.sched.tot+r.ae.length<=aU)
include hk hN
theorem OM (h:SOk r.sched) (hid:1<=id):qt k r id=some (let s:=qQ r.sched id;(s.now,s.ai,s.age,s.tasks,s.run,s.left,s.turns,s.next,zK r.ae id)):=by
 have hM:=al;unfold qt
 refine(fk r.ae (λq=>!(q.id==id)) (λq=>q) (g:=λu5 n5=>iD k (id,r.sched.now,r.sched.ai,r.sched.age,r.sched.run,r.sched.left,r.sched.turns,r.sched.next,r.ae,r.sched.tasks,r.ao,r.au) u5 n5 _) (fin:=_) (λi ys hi next hl=>by
  simp only[iD];rw[ab,if_pos (by omega),aL,aj hi,aa,aa,bJ (by omega),aq hi (by omega)]
  rfl) (λys next=>by
  simp only[iD];rw[ab,if_neg (by omega)]) (by omega)).trans ?_
 simp only[Yd,si (show r.sched.tot<k by omega) (show r.sched.tot<=aU by omega),aa,decide_true,cond_true];have:=pG h hid;rw[<-this];unfold sg zK;cases(bf r.sched&&decide (0<=lK r.sched.tasks id))<;>rfl
theorem DK (h:SOk r.sched) (hid:1<=id):lC k r id=some (let s:=qQ r.sched id;(s.now,s.ai,s.age,s.tasks,s.run,s.left,s.turns,s.next,zK r.ae id)):=by
 have hM:=al;unfold lC
 refine(fk r.ae (λq=>!(q.id==id)) (λq=>q) (g:=λu5 n5=>gH k (id,r.sched.now,r.sched.ai,r.sched.age,r.sched.run,r.sched.left,r.sched.turns,r.sched.next,r.sched.tasks,r.ao,r.au,r.ae) u5 n5 _) (fin:=_) (λi ys hi next hl=>by
  simp only[gH];rw[ab,if_pos (by omega),ab,if_pos (by omega),VQ,aj hi,aa,ab,if_pos (by omega),aa,bJ (by omega),aq hi (by omega)]
  rfl) (λys next=>by
  simp only[gH];rw[ab,if_neg (by omega)]) (by omega)).trans ?_
 simp only[Yd,si (show r.sched.tot<k by omega) (show r.sched.tot<=aU by omega),aa,decide_true,cond_true];have:=pG h hid;rw[<-this];unfold sg zK;cases(bf r.sched&&decide (0<=lK r.sched.tasks id))<;>rfl
omit hk hN in
theorem L9 {zs:List dY} {a b c d e f g:Int} {ms:List Model} {ls:List Bool} {rs:List Request} (hk:zs.length<k) (hN:zs.length<=aU):dx k a b c zs d e f g ms ls rs id=some (zs.filter λz=>!(z.id==id),cond (d==id) 0 d,cond (d==id) 0 e):=by
 unfold dx;rw[qP hk hN,aa];simp only[decide_true,cond_true];cases d==id<;>rfl
theorem Hs:eu k r id=some (let s:=qQ r.sched id;(⟨4,id,0,uP⟩,s.tasks,s.run,s.left,zK r.ae id)):=by
 have hlen:=bU Task.tot r.sched.tasks;have hst:r.sched.tot=jj Task.tot r.sched.tasks+0:=rfl;unfold eu;rw[tp,aa,L9 (by rw[fb];omega) (by rw[fb];omega),aa];simp only;rw[oz,cond_true,qD r.sched.tasks (λt=>!(t.id==id)) (λz=>!(z.id==id)) (λn t=>rfl),aa,BR (by omega) (by omega),aa];simp only[decide_true,cond_true];rfl
end
end
set_option maxRecDepth 100000
set_option maxHeartbeats 4000000
section
structure Sx (q:Request) (t:Task):Prop where
 id:q.id=t.id
 job:wF q.job=true
 at_:q.job.at_=t.at_
 ay:bB q.job.model=t.ay
 tot:q.job.model.tot<=8002000
inductive Lk:List Request->List Task->Prop
 |nil:Lk [] []
 |cons {q:Request} {t:Task} {qs:List Request} {ts:List Task}:Sx q t->Lk qs ts->Lk (q::qs) (t::ts)
theorem Lk.len:∀{qs:List Request} {ts:List Task},Lk qs ts->qs.length=ts.length
 |_,_,.nil=>rfl
 |_,_,.cons _ h=>by simp[h.len]
theorem Lk.off {id:Int}:∀{qs:List Request} {ts:List Task},Lk qs ts->Lk (zK qs id) (HI ts id)
 |_,_,.nil=>.nil
 |_,_,.cons (q:=q) (t:=t) (qs:=qs) (ts:=ts) h g=>by
  have e:(q.id==id)=(t.id==id):=by rw[h.id]
  have:=g.off (id:=id);unfold zK HI at this⊢;rw[Xq,Xq,e];cases(t.id==id)
  ·exact .cons h this
  ·exact this
theorem Lk.app {q:Request} {t:Task} (l:Sx q t):∀{qs:List Request} {ts:List Task},Lk qs ts->Lk (qs++[q]) (ts++[t])
 |_,_,.nil=>.cons l .nil
 |_,_,.cons h g=>.cons h (g.app l)
theorem Lk.ids {qs:List Request} {ts:List Task} (h:Lk qs ts):∀q∈qs,∃t∈ts,q.id=t.id:=by
 induction h with
 |nil=>exactλq hq=>nomatch hq
 |cons l _ ih=>
  intro q hq
  rcases V0.1 hq with rfl|hq
  ·exact⟨_,V6,l.id⟩
  ·obtain⟨t,h1,h2⟩:=ih q hq;exact⟨t,VY _ h1,h2⟩
structure qR (r:Runtime):Prop where
 s:SOk r.sched
 ml:r.ao.length=4
 ll:r.au.length=4
 mod:∀m∈r.ao,m.tot<=8002000
 req:Lk r.ae r.sched.tasks
theorem qR.Re {r:Runtime} (h:qR r):r.ae.length<=12:=by rw[h.req.len];exact h.s.len
theorem Kx {t:Task} (h:jf t=true):t.tot<=6:=by
 have:=(bI h).2.1.2;unfold Task.tot;omega
theorem Jl {α:Type} {t:α->Nat} {B:Nat}:∀{xs:List α},(∀x∈xs,t x<=B)->jj t xs<=xs.length*(B+1)
 |[],_=>by simp[jj]
 |x::xs,h=>by
  have h1:=h x V6;have h2:=Jl (t:=t) (B:=B) (xs:=xs) λy hy=>h y (VY _ hy);rw[vB,VS,Wk];omega
theorem qR.tot {r:Runtime} (h:qR r):r.sched.tot<=84:=by
 have h1:=Jl (t:=Task.tot) (B:=6) (xs:=r.sched.tasks) λt ht=>Kx (h.s.task t ht).1;have h2:=h.s.len;show jj Task.tot r.sched.tasks+0<=84;omega
theorem DL {r:Runtime} (h:qR r):∀q∈r.ae,1<=q.id:=λq hq=>by
 obtain⟨t,h1,h2⟩:=h.req.ids q hq;have:=(bI (h.s.task t h1).1).1.1;omega
theorem ON {s:ak} (h:SOk s) {id:Int} (hid:1<=id):SOk (qQ s id):=by rw[<-pG h hid];exact BN h id
theorem Ky {r:Runtime} (h:qR r) {id:Int} (hid:1<=id):qR (TQ r id):=⟨ON h.s hid,h.ml,h.ll,h.mod,h.req.off⟩
def fl (r:Runtime) (x:Step):List Event× ak× List Request:=
  cond (Kw r x.a) (cond (dH (r.ao.getD x.a.toNat dt) x.input).2 (cond (inB x.b 0 1000000)
    (let ad:=fo r.sched (bB (dH (r.ao.getD x.a.toNat dt) x.input).1.model) (r.sched.now+x.b);
      cond (decide (ad.2.2=0)) ([⟨2,ad.2.1,r.sched.now+x.b,uP⟩],ad.1,r.ae++[⟨ad.2.1,x.a,(dH (r.ao.getD x.a.toNat dt) x.input).1,r.sched.now+x.b⟩]) (dO x.kind (i64.wrap (3+ad.2.2)),r.sched,r.ae))
    (dO x.kind 8,r.sched,r.ae)) (dO x.kind 3,r.sched,r.ae)) (dO x.kind 1,r.sched,r.ae)
def Vc (e:List Event× ak× List Request):List Event× Int× Int× Int× List Task× Int× Int× Int× Int× List Request:=(e.1,e.2.1.now,e.2.1.ai,e.2.1.age,e.2.1.tasks,e.2.1.run,e.2.1.left,e.2.1.turns,e.2.1.next,e.2.2)
section
variable {k:Nat} {r:Runtime} {x:Step} (h:qR r) (hk:20000000<=k) (hx:x.input.tot<=2000000)
include h hk hx
theorem Jm:mr k r x=some (Vc (fl r x)):=by
 have hM:=al;have hq:=h.Re;have ht:=h.tot;have Fv:=h.s.now;unfold mr fl bH Kw;rw[cp,aa];cases c1:inB x.a 0 3
 ·simp only[Wj,cond_true,aa,decide_true,WZ,cond_false];rfl
 have c1':=of_decide_eq_true c1;have hlo:=h.ll;have hmo:=h.ml
 have hi:x.a.toNat<r.au.length:=by omega
 have hi2:x.a.toNat<r.ao.length:=by omega
 simp only[VT,cond_false,VZ];rw[decide_eq_true (by omega),cond_true,aj hi,aa,bT hi];cases c2:r.au[x.a.toNat]
 ·simp only[Wj,cond_true,aa,decide_true,cond_false];rfl
 simp only[VT,cond_false,cond_true];rw[decide_eq_true (by omega),cond_true,aj hi2,aa,bT hi2];have hmt:=h.mod _ (VV hi2);generalize hm:r.ao[x.a.toNat]=m at hmt;have hjt:=yF m x.input;rw[EX (by omega) (by omega),aa];cases c3:(dH m x.input).2
 ·simp only[Wj,cond_true,aa,decide_true,cond_false];rfl
 simp only[VT,cond_false,cond_true];rw[sb,aa];cases c4:inB x.b 0 1000000
 ·simp only[Wj,cond_true,aa,decide_true,cond_false];rfl
 have c4':=of_decide_eq_true c4;simp only[VT,cond_false,cond_true];rw[aE (n:=r.sched.now+x.b) (by omega) (by omega)];generalize hj:(dH m x.input).1=j at hjt
 have hjm:j.model.tot<=j.tot:=by unfold Job.tot;omega
 have hcl:=kH j.model;have hcl2:=bU av.tot j.model.aC;have hcl3:j.model.tot=jj av.tot j.model.aC+0:=rfl;rw[lI (by omega) (by omega),aa,LW (by omega) (by omega),aa,pB];generalize fo r.sched (bB j.model) (r.sched.now+x.b)=ad;by_cases c5:ad.2.2=0
 ·rw[decide_eq_true c5];simp only[cond_true]
  have hlen:(r.ae++[(⟨ad.2.1,x.a,j,r.sched.now+x.b⟩:Request)]).length=r.ae.length+1:=by simp
  rw[bJ (by omega),hlen,aE (by omega) (by omega),decide_eq_true (by omega),cond_true,show(((r.ae.length+1:Nat):Int)-1).toNat=r.ae.length from by omega,VU (Wc _),Nat.sub_self];simp only[XK,aa,decide_true,cond_true];rfl
 ·rw[decide_eq_false c5];simp only[cond_true,aa,decide_true,cond_false];rfl
theorem Jn:fT k r x=some (Vc (fl r x)):=by
 have hM:=al;have hq:=h.Re;have ht:=h.tot;have Fv:=h.s.now;have hlo:=h.ll;have hmo:=h.ml;unfold fT fl eg;rw[wv h.ll,aa];cases c0:Kw r x.a
 ·simp only[Wj,cond_true,aa,decide_true,WZ,cond_false];rfl
 have c1':=of_decide_eq_true (WE.1 c0).1
 have hi2:x.a.toNat<r.ao.length:=by omega
 simp only[VT,cond_false,cond_true];rw[decide_eq_true (by omega),cond_true,aj hi2,aa,bT hi2];have hmt:=h.mod _ (VV hi2);generalize hm:r.ao[x.a.toNat]=m at hmt;have hjt:=yF m x.input;rw[EY (by omega) (by omega),aa];cases c3:(dH m x.input).2
 ·simp only[Wj,cond_true,aa,decide_true,cond_false];rfl
 simp only[VT,cond_false,cond_true];rw[uM,aa];cases c4:inB x.b 0 1000000
 ·simp only[Wj,cond_true,aa,decide_true,cond_false];rfl
 have c4':=of_decide_eq_true c4;simp only[VT,cond_false,cond_true];rw[aE (n:=r.sched.now+x.b) (by omega) (by omega)];generalize hj:(dH m x.input).1=j at hjt
 have hjm:j.model.tot<=j.tot:=by unfold Job.tot;omega
 have hcl:=kH j.model;have hcl2:=bU av.tot j.model.aC;have hcl3:j.model.tot=jj av.tot j.model.aC+0:=rfl;rw[lJ (by omega) (by omega),aa,LY (by omega) (by omega),aa,pB];generalize fo r.sched (bB j.model) (r.sched.now+x.b)=ad;by_cases c5:ad.2.2=0
 ·rw[decide_eq_true c5];simp only[cond_true];rw[bJ (by omega)];simp only[aa,decide_true,cond_true];rfl
 ·rw[decide_eq_false c5];simp only[cond_true,aa,decide_true,cond_false];rfl
end
end
set_option maxRecDepth 100000
set_option maxHeartbeats 4000000
section
theorem SOk.tot {s:ak} (h:SOk s):s.tot<=84:=by
 have h1:=Jl (t:=Task.tot) (B:=6) (xs:=s.tasks) λt ht=>Kx (h.task t ht).1;have h2:=h.len;show jj Task.tot s.tasks+0<=84;omega
theorem Kz (rs:List Request) (id:Int):(zK rs id).length<=rs.length:=WJ _ _
def Cy (id:Int):Event:=⟨4,id,0,uP⟩
def xK (a:Int):List Request->List Event->ak->List Request->List Event× ak× List Request
 |[],e,s,rs=>(e,s,rs)
 |q::qs,e,s,rs=>cond (q.model==a) (xK a qs (e++[Cy q.id]) (qQ s q.id) (zK rs q.id)) (xK a qs e s rs)
theorem BS (a:Int) (ms:List Model) (ls:List Bool):∀(qs:List Request) (e:List Event) (s:ak) (rs:List Request),(∀q∈qs,1<=q.id)->qR ⟨s,ms,ls,rs⟩->qR ⟨(xK a qs e s rs).2.1,ms,ls,(xK a qs e s rs).2.2⟩/\(xK a qs e s rs).1.length<=e.length+qs.length
 |[],e,s,rs,_,h=>⟨h,Wc _⟩
 |q::qs,e,s,rs,hq,h=>by
  unfold xK;cases q.model==a
  ·have:=BS a ms ls qs e s rs (λx hx=>hq x (VY _ hx)) h;exact⟨this.1,W8 this.2 (by simp)⟩
  ·have:=BS a ms ls qs (e++[Cy q.id]) (qQ s q.id) (zK rs q.id) (λx hx=>hq x (VY _ hx)) (Ky h (hq q V6));exact⟨this.1,W8 this.2 (by simp;omega)⟩
inductive lM:List Int->List Event->List Int->Prop
 |nil {ids:List Int}:lM ids [] ids
 |other {ids ids':List Int} {e:Event} {es:List Event}:e.kind≠2->e.kind≠3->e.kind≠4->lM ids es ids'->lM ids (e::es) ids'
 |ends {ids ids':List Int} {e:Event} {es:List Event}:e.kind=3\/e.kind=4->e.a∈ids->(e.kind=3->e.out.okB=true)->lM (ids.filter λi=>!(i==e.a)) es ids'->lM ids (e::es) ids'
theorem lM.app {a b c:List Int} {e f:List Event} (h:lM a e b) (g:lM b f c):lM a (e++f) c:=by
 induction h with
 |nil=>exact g
 |other h1 h2 h3 _ ih=>exact .other h1 h2 h3 (ih g)
 |ends h1 h2 h3 _ ih=>exact .ends h1 h2 h3 (ih g)
def qS (rs:List Request):List Int:=rs.map λq=>q.id
theorem zL (rs:List Request) (id:Int):qS (zK rs id)=(qS rs).filter λi=>!(i==id):=by
 unfold qS zK;rw[List.filter_map];rfl
theorem Lk.Vd {qs:List Request} {ts:List Task} (h:Lk qs ts):qS qs=ts.map λt=>t.id:=by
 induction h with
 |nil=>rfl
 |cons l _ ih=>unfold qS at ih⊢;rw[Wm,Wm,ih,l.id]
theorem qR.inc {r:Runtime} (h:qR r):(qS r.ae).Pairwise (·<·):=by
 rw[h.req.Vd,List.pairwise_map];exact h.s.ids
theorem qR.lt {r:Runtime} (h:qR r):∀i∈qS r.ae,1<=i/\i<r.sched.next:=by
 rw[h.req.Vd];intro i hi;obtain⟨t,ht,rfl⟩:=XG.1 hi;have:=h.s.task t ht;exact⟨(bI this.1).1.1,this.2.1⟩
theorem BT (a:Int):∀(qs:List Request) (e:List Event) (s:ak) (rs:List Request),(qS qs).Pairwise (·<·)->(∀i∈qS qs,i∈qS rs)->∃d,(xK a qs e s rs).1=e++d/\lM (qS rs) d (qS (xK a qs e s rs).2.2)
 |[],e,s,rs,_,_=>⟨[],by simp[xK],.nil⟩
 |q::qs,e,s,rs,hp,hm=>by
  unfold xK;have hp':=X6.1 hp;cases q.model==a
  ·exact BT a qs e s rs hp'.2 λi hi=>hm i (VY _ hi)
  ·obtain⟨d,h1,h2⟩:=BT a qs (e++[Cy q.id]) (qQ s q.id) (zK rs q.id) hp'.2 λi hi=>by
    rw[zL,Wz];have:q.id<i:=hp'.1 i hi;exact⟨hm i (VY _ hi),by simp;omega⟩
   refine⟨Cy q.id::d,by rw[cond_true,h1,Wd];rfl,.ends (.inr rfl) (hm _ V6) (λh=>absurd h (show¬(4:Int)=3 by decide)) ?_⟩;rw[zL]at h2;exact h2
section
variable {k:Nat} (hk:20000000<=k)
include hk
theorem xL {R:Type} {orig:List Request} {a q1 q2 q4 q5 q6:Int} {q3 q7:List Int} {ms:List Model} {ls:List Bool} {fin:Int× Int× Int× Int× Int× Int× Int× List Event× List Task× List Request->Option R}:∀(qs pre:List Request) (e:List Event) (s:ak) (rs:List Request) (kf:Nat),qs.length<kf->orig=pre++qs->orig.length<=12->e.length+qs.length<=100->(∀q∈qs,1<=q.id)->SOk s->rs.length<=12->
  iter (λu10 n10=>cZ k (orig,q1,a,q2,q3,q4,q5,q6,q7,ms,ls) u10 n10 fin) kf ((pre.length:Int),s.now,s.ai,s.age,s.run,s.left,s.turns,s.next,e,s.tasks,rs)=
   (let y:=xK a qs e s rs;fin (y.2.1.now,y.2.1.ai,y.2.1.age,y.2.1.run,y.2.1.left,y.2.1.turns,y.2.1.next,y.1,y.2.1.tasks,y.2.2))
 |_,_,_,_,_,0,h,_,_,_,_,_,_=>by omega
 |[],pre,e,s,rs,kf+1,_,ho,hl,_,_,_,_=>by
  rw[aI];show cZ k _ _ _ fin=_;unfold cZ;simp only
  rw[decide_eq_false (by rw[ho];simp)];rfl
 |q::qs,pre,e,s,rs,kf+1,hkf,ho,hl,he,hq,hs,hr=>by
  have hM:=al;simp only[VS]at hkf he
  have hol:orig.length=pre.length+(qs.length+1):=by rw[ho];simp
  have hat:idx orig (pre.length:Int)=some q:=by rw[aL,ho];simp
  have hst:=hs.tot;rw[aI];unfold xK;cases c:q.model==a
  ·have st:∀next,cZ k (orig,q1,a,q2,q3,q4,q5,q6,q7,ms,ls) ((pre.length:Int),s.now,s.ai,s.age,s.run,s.left,s.turns,s.next,e,s.tasks,rs) next fin=next (((pre++[q]).length:Int),s.now,s.ai,s.age,s.run,s.left,s.turns,s.next,e,s.tasks,rs):=λnext=>by
    unfold cZ;simp only;rw[decide_eq_true (by omega),cond_true,hat,aa,c,cond_false,aE (by omega) (by omega),VR];rfl
   exact(st _).trans (xL qs (pre++[q]) e s rs kf (by omega) (by rw[ho];simp) hl (by omega) (λx hx=>hq x (VY _ hx)) hs hr)
  ·have st:∀next,cZ k (orig,q1,a,q2,q3,q4,q5,q6,q7,ms,ls) ((pre.length:Int),s.now,s.ai,s.age,s.run,s.left,s.turns,s.next,e,s.tasks,rs) next fin=next (((pre++[q]).length:Int),(qQ s q.id).now,(qQ s q.id).ai,(qQ s q.id).age,(qQ s q.id).run,(qQ s q.id).left,(qQ s q.id).turns,(qQ s q.id).next,e++[Cy q.id],(qQ s q.id).tasks,zK rs q.id):=λnext=>by
    unfold cZ;simp only;rw[decide_eq_true (by omega),cond_true,hat,aa,c,cond_true,aa,OM (k:=k) (r:=⟨s,ms,ls,rs⟩) (by show s.tot+rs.length<k;omega) (by show s.tot+rs.length<=aU;omega) hs (hq q V6),aa,aa,bJ (by omega),aE (by omega) (by omega),VR];rfl
   exact(st _).trans (xL qs (pre++[q]) (e++[Cy q.id]) (qQ s q.id) (zK rs q.id) kf (by omega) (by rw[ho];simp) hl (by simp;omega) (λx hx=>hq x (VY _ hx)) (ON hs (hq q V6)) (W8 (Kz _ _) hr))
theorem xM {R:Type} {orig:List Request} {a n p1 p2 p3 p4 p5 q1 q2 q4 q5 q6:Int} {q3 q7:List Int} {ms:List Model} {ls:List Bool} {fin:Int× Int× List Event× List Task× List Request->Option R}:∀(qs pre:List Request) (e:List Event) (s:ak) (rs:List Request) (kf:Nat),qs.length<kf->orig=pre++qs->n=orig.length->orig.length<=12->e.length+qs.length<=100->(∀q∈qs,1<=q.id)->SOk s->rs.length<=12->s.now=p1->s.ai=p2->s.age=p3->s.turns=p4->s.next=p5->
  iter (λu7 n7=>bw k (n,p1,p2,p3,p4,p5,q1,a,q2,q3,q4,q5,q6,q7,orig,ms,ls) u7 n7 fin) kf ((pre.length:Int),s.run,s.left,e,s.tasks,rs)=
   (let y:=xK a qs e s rs;fin (y.2.1.run,y.2.1.left,y.1,y.2.1.tasks,y.2.2))
 |_,_,_,_,_,0,h,_,_,_,_,_,_,_,_,_,_,_,_=>by omega
 |[],pre,e,s,rs,kf+1,_,ho,hn,hl,_,_,_,_,_,_,_,_,_=>by
  rw[aI];show bw k _ _ _ fin=_;unfold bw;simp only
  rw[decide_eq_false (by rw[hn,ho];simp)];rfl
 |q::qs,pre,e,s,rs,kf+1,hkf,ho,hn,hl,he,hq,hs,hr,e1,e2,e3,e4,e5=>by
  have hM:=al;simp only[VS]at hkf he
  have hol:orig.length=pre.length+(qs.length+1):=by rw[ho];simp
  have hat:orig[(pre.length:Int).toNat]? =some q:=by rw[VQ,ho];simp
  have hst:=hs.tot;rw[aI];unfold xK;cases c:q.model==a
  ·have st:∀next,bw k (n,p1,p2,p3,p4,p5,q1,a,q2,q3,q4,q5,q6,q7,orig,ms,ls) ((pre.length:Int),s.run,s.left,e,s.tasks,rs) next fin=next (((pre++[q]).length:Int),s.run,s.left,e,s.tasks,rs):=λnext=>by
    unfold bw;simp only;rw[decide_eq_true (by omega),cond_true,decide_eq_true (by omega),cond_true,hat,aa,c,cond_false,aE (by omega) (by omega),VR];rfl
   exact(st _).trans (xM qs (pre++[q]) e s rs kf (by omega) (by rw[ho];simp) hn hl (by omega) (λx hx=>hq x (VY _ hx)) hs hr e1 e2 e3 e4 e5)
  ·have st:∀next,bw k (n,p1,p2,p3,p4,p5,q1,a,q2,q3,q4,q5,q6,q7,orig,ms,ls) ((pre.length:Int),s.run,s.left,e,s.tasks,rs) next fin=next (((pre++[q]).length:Int),(qQ s q.id).run,(qQ s q.id).left,e++[Cy q.id],(qQ s q.id).tasks,zK rs q.id):=λnext=>by
    subst e1 e2 e3 e4 e5;unfold bw;simp only;rw[decide_eq_true (by omega),cond_true,decide_eq_true (by omega),cond_true,hat,aa,c,cond_true,Hs (k:=k) (r:=⟨s,ms,ls,rs⟩) (by show s.tot+rs.length<k;omega) (by show s.tot+rs.length<=aU;omega),aa,bJ (by omega),aE (by omega) (by omega),VR];rfl
   exact(st _).trans (xM qs (pre++[q]) (e++[Cy q.id]) (qQ s q.id) (zK rs q.id) kf (by omega) (by rw[ho];simp) hn hl (by simp;omega) (λx hx=>hq x (VY _ hx)) (ON hs (hq q V6)) (W8 (Kz _ _) hr) e1 e2 e3 e4 e5)
end
def fm (r:Runtime) (x:Step):List Event× Runtime:=
 cond (Kw r x.a) (let y:=xK x.a r.ae [] r.sched r.ae;(y.1++[⟨1,x.a,0,uP⟩],⟨y.2.1,r.ao.set x.a.toNat dt,r.au.set x.a.toNat false,y.2.2⟩)) (dO x.kind 1,r)
theorem xN (a:Int):∀(qs:List Request) (e:List Event) (s:ak) (rs:List Request),(xK a qs e s rs).2.1.now=s.now/\(xK a qs e s rs).2.1.ai=s.ai/\(xK a qs e s rs).2.1.age=s.age/\(xK a qs e s rs).2.1.turns=s.turns/\(xK a qs e s rs).2.1.next=s.next
 |[],e,s,rs=>⟨rfl,rfl,rfl,rfl,rfl⟩
 |q::qs,e,s,rs=>by
  unfold xK;cases q.model==a
  ·exact xN a qs e s rs
  ·exact xN a qs (e++[Cy q.id]) (qQ s q.id) (zK rs q.id)
section
variable {k:Nat} {r:Runtime} {x:Step} (h:qR r) (hk:20000000<=k)
include h hk
theorem Jo:mq k r x=some (let e:=fm r x;(e.1,e.2.sched.now,e.2.sched.ai,e.2.sched.age,e.2.sched.tasks,e.2.sched.run,e.2.sched.left,e.2.sched.turns,e.2.sched.next,e.2.ao,e.2.au,e.2.ae)):=by
 have hM:=al;have hq:=h.Re;have hlo:=h.ll;have hmo:=h.ml;unfold mq fm bH Kw;rw[cp,aa];cases c1:inB x.a 0 3
 ·rfl
 have c1':=of_decide_eq_true c1
 have hi:x.a.toNat<r.au.length:=by omega
 simp only[VT,cond_false,VZ];rw[decide_eq_true (by omega),cond_true,aj hi,aa,bT hi];cases c2:r.au[x.a.toNat]
 ·rfl
 simp only[VT,cond_false,cond_true];have hu:=BS x.a r.ao r.au r.ae [] r.sched r.ae (DL h) h;refine(xL hk r.ae [] [] r.sched r.ae k (by omega) rfl hq (by simp;omega) (DL h) h.s hq).trans ?_;generalize xK x.a r.ae [] r.sched r.ae=y at hu;have:=hu.2;simp only[V5]at this;simp only;rw[decide_eq_true (by omega),cond_true,bJ (by omega)];rfl
theorem Jp:fS k r x=some (let e:=fm r x;(e.1,e.2.sched.tasks,e.2.sched.run,e.2.sched.left,e.2.ao,e.2.au,e.2.ae))/\(fm r x).2.sched.now=r.sched.now/\(fm r x).2.sched.ai=r.sched.ai/\(fm r x).2.sched.age=r.sched.age/\(fm r x).2.sched.turns=r.sched.turns/\(fm r x).2.sched.next=r.sched.next:=by
 have hM:=al;have hq:=h.Re;have hlo:=h.ll;have hmo:=h.ml;unfold fS fm eg;rw[wv h.ll,aa];cases c0:Kw r x.a
 ·simp only[Wj,cond_true,aa,decide_true,cond_false];exact⟨rfl,trivial,trivial,trivial,trivial,trivial⟩
 have c1':=of_decide_eq_true (WE.1 c0).1;simp only[VT,cond_false,cond_true]
 have hc:cc k r.ae=some r.ae:=by
  unfold cc;rw[bJ (by simp;omega)];simp only[decide_true,cond_true,Xe]
  cases r.ae with
  |nil=>exact A8 _
  |cons=>rfl
 have hkp:=xN x.a r.ae [] r.sched r.ae;refine⟨?_,hkp⟩;rw[hc,aa];have hu:=BS x.a r.ao r.au r.ae [] r.sched r.ae (DL h) h;refine(xM hk r.ae [] [] r.sched r.ae k (by omega) rfl rfl hq (by simp;omega) (DL h) h.s hq rfl rfl rfl rfl rfl).trans ?_;generalize xK x.a r.ae [] r.sched r.ae=y at hu;have:=hu.2;simp only[V5]at this;simp only;rw[decide_eq_true (by omega),cond_true,decide_eq_true (by omega),cond_true,bJ (by omega)];simp only[decide_true,cond_true];rfl
end
end
set_option maxRecDepth 100000
set_option maxHeartbeats 4000000
section
section
variable {k:Nat}
theorem Qz (s:ak) (ms:List Model) (ls:List Bool) (rs:List Request):hJ k s.now s.ai s.age s.tasks s.run s.left s.turns s.next ms ls rs=eO k s:=by
 unfold hJ eO;simp only[decide_true,cond_true]
theorem Sy (a b c d e f g id:Int) (zs:List dY) (ms:List Model) (ls:List Bool) (rs:List Request):dx k a b c zs d e f g ms ls rs id=dP k a b c zs d e f g id:=by
 unfold dx dP;simp only[decide_true,cond_true]
theorem Sz (s:ak) (ms:List Model) (ls:List Bool) (rs:List Request) (st:Bool):gf k s.now s.ai s.age s.tasks s.run s.left s.turns s.next ms ls rs st=gG k s st:=by
 unfold gf gG;rw[Qz];simp only[Sy,decide_true,cond_true]
theorem SA {s:ak} (h:SOk s) (hn:s.now≠1000000) (hk:1000<k) (st:Bool) (ms:List Model) (ls:List Bool) (rs:List Request):
  gf k s.now s.ai s.age s.tasks s.run s.left s.turns s.next ms ls rs st=some (((cK s st).2.1,(cK s st).2.2),(cK s st).1.now,(cK s st).1.tasks,(cK s st).1.run,(cK s st).1.left,(cK s st).1.turns)/\
   (cK s st).1.ai=s.ai/\(cK s st).1.age=s.age/\(cK s st).1.next=s.next:=by
 have hM:=al;have ht:=h.tot;have e:=Cx (k:=k) (s:=s) (st:=st) (by omega) (by omega);unfold uA at e;rw[kI (by omega) (by omega),aa,lL (by omega) (by omega),aa,qF h,bM,if_neg hn]at e;simp only[VT,cond_false]at e;rw[Sz]
 cases hm:gG k s st with
 |none=>rw[hm]at e;exact nomatch e
 |some r3=>
  rw[hm]at e;have e:=WR e;rw[<-e];exact⟨rfl,rfl,rfl,rfl⟩
inductive KA (s:ak):ak× Int× Bool->Prop
 |rest {u:ak}:u.tasks=s.tasks->KA s (u,0,false)
 |next {u:ak} {pre post:List Task} {t:Task}:s.tasks=pre++t::post->(∀v∈pre,v.id≠t.id)->1<=t.id->t.at_+1<t.ay.length->u.tasks=pre++qW t::post->KA s (u,t.id,false)
 |done {u:ak} {pre post:List Task} {t:Task}:s.tasks=pre++t::post->(∀v∈pre,v.id≠t.id)->(∀v∈post,v.id≠t.id)->1<=t.id->t.at_<t.ay.length->u.tasks=pre++post->u.run=0->KA s (u,t.id,true)
theorem Rf {s:ak} (h:SOk s) (st:Bool):KA s (cK s st):=by
 by_cases hn:s.now=1000000
 ·rw[zJ hn];exact .rest rfl
 cases st
 ·rcases wu h hn with⟨_,_,_,e⟩|⟨t,L,tr,T,_⟩
  ·rw[e];exact .rest rfl
  ·obtain⟨pre,post,e,h1,h2,h3,h4,h5⟩:=Fu h.ids T.mem;have hb:=bI (h.task t T.mem).1
   have n1:∀u∈pre,u.id≠t.id:=λu hu=>by have:=h1 u hu;omega
   have n2:∀u∈post,u.id≠t.id:=λu hu=>by have:=h2 u hu;omega
   rw[T.eq,xH e n1 n2];by_cases c1:L-1>0
   ·rw[if_pos c1];exact .rest rfl
   rw[if_neg c1];by_cases c2:t.at_+1<t.ay.length
   ·rw[if_pos c2];exact .next e n1 hb.1.1 c2 rfl
   ·rw[if_neg c2];exact .done e n1 n2 hb.1.1 hb.2.2.1.2 rfl rfl
 ·rw[oC h hn];exact .rest rfl
end
inductive Tr (st:Bool):Nat->ak->List Event->ak->Prop
 |nil {s:ak}:Tr st 0 s [] s
 |tick {n:Nat} {s s' u:ak} {d e:List Event}:s'=(cK s st).1->(d=[]/\(cK s st).2.2=false\/∃t,d=[⟨3,(cK s st).2.1,s'.now,t⟩]/\(cK s st).2.2=true)->Tr st n s' e u->Tr st (n+1) s (d++e) u
theorem Lk.split {t:Task}:∀{pre post:List Task} {qs:List Request},Lk qs (pre++t::post)->∃qp q qo,qs=qp++q::qo/\Lk qp pre/\Sx q t/\Lk qo post
 |[],post,_,.cons (q:=q) (qs:=qs) h g=>⟨[],q,qs,rfl,.nil,h,g⟩
 |p::pre,post,_,.cons (q:=q) (qs:=qs) h g=>by
  obtain⟨qp,q',qo,e,h1,h2,h3⟩:=g.split (pre:=pre);exact⟨q::qp,q',qo,by rw[e];rfl,.cons h h1,h2,h3⟩
theorem Lk.join {ts:List Task} {ro:List Request} (g:Lk ro ts):∀{rs:List Request} {us:List Task},Lk rs us->Lk (rs++ro) (us++ts)
 |_,_,.nil=>g
 |_,_,.cons h f=>.cons h (g.join f)
theorem Lk.ne {id:Int}:∀{qs:List Request} {ts:List Task},Lk qs ts->(∀v∈ts,v.id≠id)->∀q∈qs,q.id≠id:=λ{qs ts} h hn q hq=>by
 obtain⟨t,h1,h2⟩:=h.ids q hq;rw[h2];exact hn t h1
theorem KB {id:Int} {q:Request} (hq:q.id=id):∀{qp qo:List Request},(∀v∈qp,v.id≠id)->((qp++q::qo).findIdx? λq=>q.id==id)=some qp.length
 |[],qo,_=>by rw[Xe,X5,hq];simp
 |p::qp,qo,h=>by
  have h1:=h p V6;rw[W7,X5,show(p.id==id)=false from by simpa using h1,KB hq λv hv=>h v (VY _ hv)];simp
theorem OO {id:Int} {q:Request} (hq:q.id=id) {qp qo:List Request} (h1:∀v∈qp,v.id≠id) (h2:∀v∈qo,v.id≠id):zK (qp++q::qo) id=qp++qo:=by
 unfold zK;rw[XC,Xq,hq];simp only[beq_self_eq_true,VT,Xf,if_false];rw[W4.2 λv hv=>by simpa using h1 v hv,W4.2 λv hv=>by simpa using h2 v hv]
theorem uQ {q:Request} {t:Task} (l:Sx q t) (hc:t.at_<t.ay.length):wF (xF q.job)=true/\q.job.at_≠(q.job.model.aC.length:Int)/\Sx ⟨q.id,q.model,xF q.job,q.due⟩ (qW t):=by
 have hl:=jo (j3 l.job).1;rw[l.ay]at hl
 have hne:q.job.at_≠(q.job.model.aC.length:Int):=by rw[l.at_];omega
 have hs:=Oq l.job hne;refine⟨hs,hne,⟨l.id,hs,?_,l.ay,l.tot⟩⟩;show(xF q.job).at_=t.at_+1;rw[<-l.at_];rfl
end
set_option maxRecDepth 100000
set_option maxHeartbeats 4000000
section
def qG (q:Request):Request:=⟨q.id,q.model,xF q.job,q.due⟩
def OP (id now:Int) (t:aF):Event:=⟨3,id,now,t⟩
theorem Jq {q:Request} {t:Task} (l:Sx q t):q.job.tot<=8003000:=by
 have:=(Oo l.job).2;have:=l.tot;omega
theorem wy {k:Nat} {qp qo:List Request} {q:Request} {t:Task} (l:Sx q t) (hc:t.at_<t.ay.length) (hk:20000000<=k):kY k qp.length (qp++q::qo)=some (qp++qG q::qo):=by
 have hM:=al;have htt:=Jq l;obtain⟨hs,hne,_⟩:=uQ l hc;generalize hj:q.job=j at*;have ht:j.tot=j.model.tot+(j.act.data.length+0+0):=rfl;have h:wF j=true:=hj▸l.job;obtain⟨hm,hat,hok,hsh,hsp⟩:=j3 h;obtain⟨hlen,_⟩:=tn hm;obtain⟨hl,hlt⟩:=Hh h hne
 have gm:∀(y:Request) (qs:List Request),(qp++y::qs)[qp.length]? =some y:=λy qs=>by simp
 have sm:∀(y z:Request) (qs:List Request),(qp++y::qs).set qp.length z=qp++z::qs:=λy z qs=>by simp
 unfold kY qG;simp only[gm,sm,aa,hj];rw[Fh (by omega) (by omega) h,aa];rw[nc _ hat.1,hl,aa,Ff (by omega) (by omega) (by omega) (by omega) (by omega),aa,aE (n:=j.at_+1) (by omega) (by omega)];rfl
theorem sj {q:Request} {qp qo:List Request} (h:∀v∈qp,v.id≠q.id):wx (qp++q::qo) q.id=(qp.length:Int):=by
 unfold wx;rw[KB rfl h];rfl
theorem Ma {k:Nat} {qp qo:List Request} {q:Request} (hl:qp.length+qo.length<=100):bR k (qp++q::qo) (qp.length:Int) (i64.wrap ((qp.length:Int)+1))=some (qp++qo):=by
 have hlen:(qp++q::qo).length=qp.length+qo.length+1:=by simp;omega
 have t1:(qp.length:Int).toNat=qp.length:=VQ _
 have t2:((qp.length:Int)+1).toNat=qp.length+1:=by omega
 have e1:(qp++q::qo).take (qp.length-0)=qp:=by simp
 have e2:((qp++q::qo).drop (qp.length+1)).take (qp.length+qo.length+1-(qp.length+1))=qo:=by
  rw[show qp++q::qo=(qp++[q])++qo from by simp,List.drop_left' (by simp),Xk (by omega)]
 have e3:((qp++q::qo).drop (qp.length-0+(qp.length+qo.length+1-(qp.length+1)))).length=1:=by rw[W9,hlen];omega
 have e4:qp.length-0+(qp.length+qo.length+1-(qp.length+1))=qp.length+qo.length:=by omega
 unfold bR;rw[aE (by omega) (by omega)];simp only[t1,t2,hlen,e1,e2,VQ];generalize (qp++q::qo).drop (qp.length-0+(qp.length+qo.length+1-(qp.length+1)))=z at e3;rw[e4]
 have hT:(qp++qo++z).length=qp.length+qo.length+1:=by simp[e3];omega
 rw[hT]
 rw[decide_eq_true (show(0:Int)<=((qp.length+qo.length+1:Nat):Int)/\((qp.length+qo.length+1:Nat):Int)<=((qp.length+qo.length+1:Nat):Int) by omega),cond_true,
  decide_eq_true (show(0:Int)<=(qp.length:Int)+1/\(qp.length:Int)+1<=((qp.length+qo.length+1:Nat):Int) by omega),cond_true,
  decide_eq_true (show(0:Int)<=(qp.length:Int)/\(qp.length:Int)<=((qp.length+1:Nat):Int) by omega),cond_true,bM,if_neg (by omega),
  decide_eq_true (show(0:Int)<=(qp.length:Int)/\(qp.length:Int)<=((qp.length+qo.length+1:Nat):Int) by omega),cond_true,cond_true]
 have hb:((qp.length+qo.length).ble (qp.length+qo.length+1)&&((qp.length+1+(qp.length+qo.length+1-(qp.length+1))).ble (qp.length+qo.length+1)&&Nat.ble 1 (qp.length+qo.length+1)))=true:=by
  rw[VP,VP,Nat.ble_eq,Nat.ble_eq,Nat.ble_eq];omega
 rw[hb,cond_true,decide_eq_true (show(0:Int)<=((qp.length+qo.length+1:Nat):Int)/\((qp.length+qo.length+1:Nat):Int)<=((qp.length+qo.length+1-0:Nat):Int) by omega),cond_true,
  decide_eq_true (show(0:Int)<=((qp.length+qo.length:Nat):Int)/\((qp.length+qo.length:Nat):Int)<=((qp.length+qo.length+1:Nat):Int) by omega),cond_true]
 congr 1
 rw[V2,Wd,Xc (by rw[Wn,hT];omega),List.take_take,Nat.min_self,Xc (by simp),Xk (by simp)]
theorem OQ {k:Nat} (hk:20000000<=k) {st:Bool} {s:ak} {ms:List Model} {ls:List Bool} {rs:List Request} {e:List Event} (h:qR ⟨s,ms,ls,rs⟩) (he:e.length<=1000) {i a:Int} (hi:0<=i) (hia:i<a) (ha:a<=200) {q1 q2 q4 q5 q6 kd p9:Int} {q3 q7:List Int} (hkd:(kd==5)=st):
  ∃(e':List Event) (s':ak) (rs':List Request),qR ⟨s',ms,ls,rs'⟩/\e'.length<=e.length+1/\(∃d,e'=e++d/\lM (qS rs) d (qS rs')/\s'=(cK s st).1/\(d=[]/\(cK s st).2.2=false\/∃t,d=[⟨3,(cK s st).2.1,s'.now,t⟩]/\(cK s st).2.2=true))/\(s'.ai=s.ai/\s'.age=s.age/\s'.next=s.next)/\
   (∀(R:Type) (next:_->Option R) fin,dr k (st,q1,a,q2,q3,q4,q5,q6,q7,ms,ls) (i,s.now,s.ai,s.age,s.run,s.left,s.turns,s.next,e,s.tasks,rs) next fin=next (i+1,s'.now,s'.ai,s'.age,s'.run,s'.left,s'.turns,s'.next,e',s'.tasks,rs'))/\
   (s.now=1000000->e'=e/\s'=s/\rs'=rs)/\
   (s.now≠1000000->∀(R:Type) (next:_->Option R) fin,bq k (a,s.ai,s.age,s.next,kd,p9,q2,q3,q4,q5,q6,q7,ms,ls) (i,s.now,s.run,s.left,s.turns,e,s.tasks,rs) next fin=next (i+1,s'.now,s'.run,s'.left,s'.turns,e',s'.tasks,rs')):=by
 have hM:=al;have ht:s.tot<=84:=SOk.tot h.s;have hq:rs.length<=12:=h.Re;have hTK:=Rf h.s st;have hok:=OI h.s st;have hS:=Cw (k:=k) (s:=s) (st:=st) (by omega) (by omega);have hI:=λhn:s.now≠1000000=>SA (k:=k) h.s hn (by omega) st ms ls rs
 have US:(cK s st).1.ai=s.ai/\(cK s st).1.age=s.age/\(cK s st).1.next=s.next:=by
  by_cases hn:s.now=1000000
  ·rw[zJ hn];exact⟨rfl,rfl,rfl⟩
  ·exact(hI hn).2
 have SB:s.now=1000000->cK s st=(s,0,false):=λhn=>zJ hn st;generalize cK s st=T at*;have hw:i64.wrap (i+1)=i+1:=aE (by omega) (by omega);have UT:Lk rs s.tasks:=h.req
 cases hTK with
 |rest hu=>
  rename_i u;refine⟨e,u,rs,⟨hok,h.ml,h.ll,h.mod,by show Lk rs u.tasks;rw[hu];exact UT⟩,by omega,⟨[],by simp,.nil,rfl,.inl ⟨rfl,rfl⟩⟩,US,λR next fin=>?_,λhn=>?_,λhn R next fin=>?_⟩
  ·unfold dr;simp only;rw[decide_eq_true hia,cond_true,hS,aa,hw];rfl
  ·have:=congrArg Prod.fst (SB hn);exact⟨rfl,this,rfl⟩
  ·unfold bq;simp only
   rw[decide_eq_true hia,cond_true,bM,if_neg hn,hkd,(hI hn).1,aa,hw];rfl
 |next e1 n1 p1 c1 hu=>
  rename_i u pre post t;obtain⟨qp,q,qo,rfl,l1,l,l2⟩:=(e1▸UT:Lk rs (pre++t::post)).split;have hqp:=l1.ne n1;rw[<-l.id]at hqp;obtain⟨hs,hne,l'⟩:=uQ l (by omega)
  have hlen:(qp++q::qo).length=qp.length+qo.length+1:=by simp;omega
  have hq:(qp++q::qo).length<=12:=hq;have hjt:=Jq l
  have gm:∀(y:Request) (qs:List Request),(qp++y::qs)[qp.length]? =some y:=λy qs=>by simp
  have sm:∀(y z:Request) (qs:List Request),(qp++y::qs).set qp.length z=qp++z::qs:=λy z qs=>by simp
  have hz:(t.id==(0:Int))=false:=by simp;omega
  refine⟨e,u,qp++qG q::qo,⟨hok,h.ml,h.ll,h.mod,by show Lk (qp++qG q::qo) u.tasks;rw[hu];exact(Lk.cons l' l2).join l1⟩,by omega,⟨[],by simp,by unfold qS;rw[WL,WL];exact .nil,rfl,.inl ⟨rfl,rfl⟩⟩,US,λR next fin=>?_,λhn=>absurd (congrArg (λx=>x.2.1) (SB hn)) (by show¬t.id=0;omega),λhn R next fin=>?_⟩
  ·unfold dr;simp only;rw[decide_eq_true hia,cond_true,hS,aa,hz,cond_false,tv (by show(qp++q::qo).length<k;omega) (by show(qp++q::qo).length<=aU;omega),aa];simp only;rw[<-l.id,sj hqp,decide_eq_true (by omega),cond_true,VQ,gm,aa,yM (by omega) (by omega),aa,cond_true,aa,cond_false,hw,sm];unfold Qu;rw[l.job,show(q.job.at_==(q.job.model.aC.length:Int))=false from by simpa using hne];rfl
  ·unfold bq;simp only;rw[decide_eq_true hia,cond_true,bM,if_neg hn,hkd,(hI hn).1,aa];simp only;rw[hz,cond_false,xJ (by show(qp++q::qo).length<k;omega) (by show(qp++q::qo).length<=aU;omega),aa];simp only
   rw[<-l.id,sj hqp,decide_eq_true (by omega),cond_true,VQ,wy l (by omega) hk,aa,cond_false,hw]
 |done e1 n1 n2 p1 c1 hu hr=>
  rename_i u pre post t;obtain⟨qp,q,qo,rfl,l1,l,l2⟩:=(e1▸UT:Lk rs (pre++t::post)).split;have hqp:=l1.ne n1;have hqo:=l2.ne n2;rw[<-l.id]at hqp hqo;obtain⟨hs,hne,l'⟩:=uQ l c1
  have hlen:(qp++q::qo).length=qp.length+qo.length+1:=by simp;omega
  have hlen2:(qp++qG q::qo).length=qp.length+qo.length+1:=by simp;omega
  have hq:(qp++q::qo).length<=12:=hq;have hjt:=Jq l
  have gm:∀(y:Request) (qs:List Request),(qp++y::qs)[qp.length]? =some y:=λy qs=>by simp
  have sm:∀(y z:Request) (qs:List Request),(qp++y::qs).set qp.length z=qp++z::qs:=λy z qs=>by simp
  have hz:(t.id==(0:Int))=false:=by simp;omega
  have hut:u.tot<=84:=SOk.tot hok
  have Tj:qQ u q.id=u:=by
   unfold qQ;rw[hr,show((0:Int)==q.id)=false from by rw[l.id];simp;omega]
   have:HI u.tasks q.id=u.tasks:=W4.2 λv hv=>by
    rw[hu]at hv;rw[l.id]
    rcases Wh.1 hv with hv|hv
    ·simpa using n1 v hv
    ·simpa using n2 v hv
   rw[this,<-hr];rfl
  refine⟨e++[OP q.id u.now (xF q.job).act],u,qp++qo,⟨hok,h.ml,h.ll,h.mod,by show Lk (qp++qo) u.tasks;rw[hu];exact l2.join l1⟩,by simp,⟨[OP q.id u.now (xF q.job).act],rfl,.ends (.inl rfl) (by unfold qS;simp[OP]) (λ_=>(j3 l'.job).2.2.1) (by rw[show(OP q.id u.now (xF q.job).act).a=q.id from rfl,<-zL,OO rfl hqp hqo];exact .nil),rfl,.inr ⟨(xF q.job).act,by unfold OP;rw[l.id],rfl⟩⟩,US,λR next fin=>?_,λhn=>absurd (congrArg (λx=>x.2.1) (SB hn)) (by show¬t.id=0;omega),λhn R next fin=>?_⟩
  ·unfold dr;simp only;rw[decide_eq_true hia,cond_true,hS,aa,hz,cond_false,tv (by show(qp++q::qo).length<k;omega) (by show(qp++q::qo).length<=aU;omega),aa];simp only;rw[<-l.id,sj hqp,decide_eq_true (by omega),cond_true,VQ,gm,aa,yM (by omega) (by omega),aa,cond_true,aa,cond_true,hw,sm];unfold Qu;rw[l.job,show(q.job.at_==(q.job.model.aC.length:Int))=false from by simpa using hne];simp only[Wj,VZ,cond_true];rw[DK (k:=k) (r:=⟨u,ms,ls,qp++(⟨q.id,q.model,xF q.job,q.due⟩:Request)::qo⟩) (by show u.tot+(qp++qG q::qo).length<k;omega) (by show u.tot+(qp++qG q::qo).length<=aU;omega) hok (by rw[l.id];exact p1),aa,bJ (by omega)];simp only;rw[Tj,OO (q:=(⟨q.id,q.model,xF q.job,q.due⟩:Request)) rfl hqp hqo];rfl
  ·unfold bq;simp only;rw[decide_eq_true hia,cond_true,bM,if_neg hn,hkd,(hI hn).1,aa];simp only;rw[hz,cond_false,xJ (by show(qp++q::qo).length<k;omega) (by show(qp++q::qo).length<=aU;omega),aa];simp only;rw[<-l.id,sj hqp,decide_eq_true (by omega),cond_true,VQ,wy l c1 hk,aa,cond_true,decide_eq_true (by omega),cond_true,gm,aa,bJ (by omega),Ma (by omega),aa,hw];rfl
end
end Go.Proofs.Ev
