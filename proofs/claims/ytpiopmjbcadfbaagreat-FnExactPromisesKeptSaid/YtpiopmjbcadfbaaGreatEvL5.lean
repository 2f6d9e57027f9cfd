/- Typed functions and what holds of them: part 5. -/
import Derived.Test.YtpiopmjbcadfbaaGreatEvL4
set_option linter.unusedVariables false
set_option linter.unusedSimpArgs false
set_option linter.unusedSectionVars false
namespace Go.Proofs.Ev
section
def EL (key:Task->Int):List Task->Option Task
 |[]=>none
 |x::xs=>some (xs.foldl (λm t=>cond (decide (key t<key m)) t m) x)
theorem rr (k:Nat) (a b:Int):dR k a b=some (cond (decide (a<b)) (-1) (cond (decide (a>b)) 1 0)):=by
 unfold dR kJ;simp only[aa,bne_self_eq_false,cond_false];cases decide (a<b)<;>cases decide (a>b)<;>rfl
theorem EM {k:Nat} {a b:Int} (hk:3<k):nu k [a,b]=some (cond (a !=0) a b):=by
 obtain⟨k,rfl⟩:∃k',k=k'+3:=⟨k-3,by omega⟩;unfold nu;show cond (a !=0) (some a) (iter (λu4 n4=>kK (k+3) ((0:Int),[a,b],(([a,b]:List Int).length:Int)) u4 n4 (λy2=>some (0:Int)) (λy3=>some y3)) (k+2) (IntKind.i64.wrap (0+1)))=_;cases h:a !=0
 ·rw[aH (n:=0+1) (by omega) (by omega)];show cond (b !=0) (some b) (iter (λu4 n4=>kK (k+3) ((0:Int),[a,b],(([a,b]:List Int).length:Int)) u4 n4 (λy2=>some (0:Int)) (λy3=>some y3)) (k+1) (IntKind.i64.wrap (1+1)))=_;cases hb:b !=0
  ·have:b=0:=by simpa using hb
   subst this;rw[aH (n:=1+1) (by omega) (by omega)];rfl
  ·rfl
 ·rfl
theorem HR {a b i j:Int} (h:j<i):decide (cond (cond (decide (a<b)) (-1) (cond (decide (a>b)) 1 0) !=(0:Int)) (cond (decide (a<b)) (-1) (cond (decide (a>b)) 1 0)) (cond (decide (i<j)) (-1) (cond (decide (i>j)) 1 0))<(0:Int))=decide (a<b):=by
 by_cases h1:a<b
 ·simp[h1]
 ·by_cases h2:a>b
  ·simp[h1,h2]
  ·simp[h1,h2,show¬i<j by omega,h]
theorem wF (key:Task->Int):∀(xs:List Task) (x:Task),xs.foldl (λm t=>cond (decide (key t<key m)) t m) x∈x::xs
 |[],x=>by simp
 |y::xs,x=>by
  rw[RQ];have:=wF key xs (cond (decide (key y<key x)) y x);cases h:decide (key y<key x)
  ·rw[h]at this;simp only[cond_false]at this⊢
   rcases Rk.1 this with h|h
   ·rw[h];simp
   ·simp[h]
  ·rw[h]at this;simp only[cond_true]at this⊢
   rcases Rk.1 this with h|h
   ·rw[h];simp
   ·simp[h]
theorem LG {x:Task} {xs:List Task} (hp:(x::xs).Pairwise λa b=>a.id<b.id) {i:Nat} (hi:i<xs.length) {m:Task} (hm:m∈x::xs.take i):m.id<xs[i].id:=by
 rw[Td]at hp
 rcases Rk.1 hm with rfl|hm
 ·exact hp.1 _ (Q7 hi)
 ·obtain⟨j,hj,rfl⟩:=Rz.1 hm
  have hj':j<i:=by simp at hj;omega
  rw[List.getElem_take];exact(List.pairwise_iff_getElem.1 hp.2) j i (by omega) hi hj'
theorem EN {k:Nat} {x:Task} {xs:List Task} (hk:xs.length+2<k) (hN:xs.length<aU) (hp:(x::xs).Pairwise λa b=>a.id<b.id):cu k (x::xs)=some (xs.foldl (λm t=>cond (decide (Task.born t<Task.born m)) t m) x):=by
 have hM:=ao;unfold cu;rw[ab,if_neg (by simp;omega),wi,ai (by simp),aa]
 have:=fk (g:=λu6 n6=>br k (x::xs,(0:Int),(0:Int),(0:Int),(0:Int)) u6 n6 (λy5=>some (⟨y5.1,y5.2.1,y5.2.2.1,y5.2.2.2.1,y5.2.2.2.2⟩:Task)))
  (st:=λi=>let m:=(xs.take i).foldl (λm t=>cond (decide (Task.born t<Task.born m)) t m) x;(((i+1:Nat):Int),m.id,m.ar,m.at_,m.due,m.born)) (n:=xs.length) (r:=some (xs.foldl (λm t=>cond (decide (Task.born t<Task.born m)) t m) x)) (λi hi next=>by
  have hmem:=wF Task.born (xs.take i) x;have hlt:=LG hp hi hmem;rw[dB hi,R6];generalize (xs.take i).foldl (λm t=>cond (decide (Task.born t<Task.born m)) t m) x=m at hlt;simp only[br,iJ,iI,aa,rr,EM (show 3<k by omega)];rw[ab,if_pos (by simp;omega),aD,SB,ai hi,aa,aa,aH (by omega) (by omega),HR hlt];simp only[RQ,List.foldl_nil]
  cases decide (Task.born xs[i]<Task.born m)<;>rfl) (λnext=>by
  rw[RR];simp only[br]
  rw[ab,if_neg (by simp)]) (k:=k) (by omega)
 exact this
theorem CN {k:Nat} {x:Task} {xs:List Task} (hk:xs.length+2<k) (hN:xs.length<aU) (hp:(x::xs).Pairwise λa b=>a.id<b.id):cl k (x::xs)=some (xs.foldl (λm t=>cond (decide (Task.due t<Task.due m)) t m) x):=by
 have hM:=ao;unfold cl;rw[ab,if_neg (by simp;omega),wi,ai (by simp),aa]
 have:=fk (g:=λu6 n6=>bh k (x::xs,(0:Int),(0:Int),(0:Int),(0:Int)) u6 n6 (λy5=>some (⟨y5.1,y5.2.1,y5.2.2.1,y5.2.2.2.1,y5.2.2.2.2⟩:Task)))
  (st:=λi=>let m:=(xs.take i).foldl (λm t=>cond (decide (Task.due t<Task.due m)) t m) x;(((i+1:Nat):Int),m.id,m.ar,m.at_,m.due,m.born)) (n:=xs.length) (r:=some (xs.foldl (λm t=>cond (decide (Task.due t<Task.due m)) t m) x)) (λi hi next=>by
  have hmem:=wF Task.due (xs.take i) x;have hlt:=LG hp hi hmem;rw[dB hi,R6];generalize (xs.take i).foldl (λm t=>cond (decide (Task.due t<Task.due m)) t m) x=m at hlt;simp only[bh,gV,iL,aa,rr,EM (show 3<k by omega)];rw[ab,if_pos (by simp;omega),aD,SB,ai hi,aa,aa,aH (by omega) (by omega),HR hlt];simp only[RQ,List.foldl_nil]
  cases decide (Task.due xs[i]<Task.due m)<;>rfl) (λnext=>by
  rw[RR];simp only[bh]
  rw[ab,if_neg (by simp)]) (k:=k) (by omega)
 exact this
theorem za {k:Nat} {xs:List Task} {s:aj} (hk:xs.length<k) (hN:xs.length<=aU):cc k xs s=some ((xs.findIdx? λt=>!dY s t).elim (-1) λi=>(i:Int)):=by
 have hM:=ao;unfold cc;simp only[decide_true,cond_true]
 rw[eR xs (λt=>!dY s t) (yes:=some (-1)) (no:=some) (λi hi next=>by
  simp only[bM,iH,cZ,decide_true,cond_true,aa];rw[ab,if_pos (by omega),ab,if_pos (by omega),QY,ai hi,aa,au hi (by omega)]
  rfl) (λnext=>by
  simp only[bM,decide_true,cond_true];rw[ab,if_neg (by omega)]) hk]
 exact cS _
theorem vW {k:Nat} {xs:List Task} {s:aj} (hk:xs.length<k) (hN:xs.length<=aU):bW k xs s=some (xs.filter λt=>!(!dY s t)):=by
  have hM:=ao;unfold bW;rw[za hk hN,aa]
  cases hf:xs.findIdx? λt=>!dY s t with
  | none =>
    rw[SF,filter_none hf]
    simp
  | some i =>
    obtain⟨hi,hfi⟩:=mC hf;rw[Q1,bJ,if_neg (by omega),au hi (by omega)];simp only[decide_true,cond_true]
    obtain⟨i',ys',h1,h2,h3,h4⟩:=jr xs (λt=>!dY s t) (R:=List Task) (g:=λu5 n5=>aY k (s.now,s.ag,s.age,s.tasks,s.run,s.left,s.turns,s.next) u5 n5 (λy4=>cond (decide (0<=y4.1/\y4.1<=(y4.2.length:Int))) (cond (decide (0<=y4.1/\y4.1<=(((y4.2).take y4.1.toNat++List.replicate (y4.2.length-y4.1.toNat) (⟨(0:Int),([]:List Int),(0:Int),(0:Int),(0:Int)⟩:Task)++(y4.2).drop (y4.1.toNat+(y4.2.length-y4.1.toNat))).length:Int))) (some (((y4.2).take y4.1.toNat++List.replicate (y4.2.length-y4.1.toNat) (⟨(0:Int),([]:List Int),(0:Int),(0:Int),(0:Int)⟩:Task)++(y4.2).drop (y4.1.toNat+(y4.2.length-y4.1.toNat))).take (y4.1.toNat-0))) none) none))
      (fin:=λy4=>cond (decide (0<=y4.1/\y4.1<=(y4.2.length:Int))) (cond (decide (0<=y4.1/\y4.1<=(((y4.2).take y4.1.toNat++List.replicate (y4.2.length-y4.1.toNat) (⟨(0:Int),([]:List Int),(0:Int),(0:Int),(0:Int)⟩:Task)++(y4.2).drop (y4.1.toNat+(y4.2.length-y4.1.toNat))).length:Int))) (some (((y4.2).take y4.1.toNat++List.replicate (y4.2.length-y4.1.toNat) (⟨(0:Int),([]:List Int),(0:Int),(0:Int),(0:Int)⟩:Task)++(y4.2).drop (y4.1.toNat+(y4.2.length-y4.1.toNat))).take (y4.1.toNat-0))) none) none)
      (λi j ys hj next hij hl hg=>by
        simp only[aY,gT,cZ,decide_true,cond_true,aa,hl];rw[ab,if_pos (by omega),ab,if_pos (by omega),QY,hg,aa,cond_not,ab,if_pos (by omega),au hj (by omega),au (show i<xs.length by omega) (by omega),QY]
        rfl)
      (λi ys next hl=>by simp only[aY,hl];rw[ab,if_neg (by omega)])
      (xs.length-(i+1)) i (i+1) xs k (by omega) (by omega) (by omega) rfl rfl hfi
    refine h4.trans ?_;obtain⟨c1,c2⟩:=qW ((⟨(0:Int),([]:List Int),(0:Int),(0:Int),(0:Int)⟩:Task)) h1 h2;simp only[QY,h2];rw[c2,c1,ab,if_pos (by omega),ab,if_pos (by omega),h3]
theorem zb {k:Nat} {xs:List Task} {s:aj} (hk:xs.length<k) (hN:xs.length<=aU):cd k xs s=some ((xs.findIdx? λt=>!(!dY s t)).elim (-1) λi=>(i:Int)):=by
 have hM:=ao;unfold cd;simp only[decide_true,cond_true]
 rw[eR xs (λt=>!(!dY s t)) (yes:=some (-1)) (no:=some) (λi hi next=>by
  simp only[bN,gU,dS,eZ,cZ,decide_true,cond_true,aa];rw[ab,if_pos (by omega),ab,if_pos (by omega),QY,ai hi,aa,au hi (by omega)]
  rfl) (λnext=>by
  simp only[bN,decide_true,cond_true];rw[ab,if_neg (by omega)]) hk]
 exact cS _
theorem vX {k:Nat} {xs:List Task} {s:aj} (hk:xs.length<k) (hN:xs.length<=aU):bX k xs s=some (xs.filter λt=>!(!(!dY s t))):=by
  have hM:=ao;unfold bX;rw[zb hk hN,aa]
  cases hf:xs.findIdx? λt=>!(!dY s t)with
  | none =>
    rw[SF,filter_none hf]
    simp
  | some i =>
    obtain⟨hi,hfi⟩:=mC hf;rw[Q1,bJ,if_neg (by omega),au hi (by omega)];simp only[decide_true,cond_true]
    obtain⟨i',ys',h1,h2,h3,h4⟩:=jr xs (λt=>!(!dY s t)) (R:=List Task) (g:=λu5 n5=>aZ k (s.now,s.ag,s.age,s.tasks,s.run,s.left,s.turns,s.next) u5 n5 (λy4=>cond (decide (0<=y4.1/\y4.1<=(y4.2.length:Int))) (cond (decide (0<=y4.1/\y4.1<=(((y4.2).take y4.1.toNat++List.replicate (y4.2.length-y4.1.toNat) (⟨(0:Int),([]:List Int),(0:Int),(0:Int),(0:Int)⟩:Task)++(y4.2).drop (y4.1.toNat+(y4.2.length-y4.1.toNat))).length:Int))) (some (((y4.2).take y4.1.toNat++List.replicate (y4.2.length-y4.1.toNat) (⟨(0:Int),([]:List Int),(0:Int),(0:Int),(0:Int)⟩:Task)++(y4.2).drop (y4.1.toNat+(y4.2.length-y4.1.toNat))).take (y4.1.toNat-0))) none) none))
      (fin:=λy4=>cond (decide (0<=y4.1/\y4.1<=(y4.2.length:Int))) (cond (decide (0<=y4.1/\y4.1<=(((y4.2).take y4.1.toNat++List.replicate (y4.2.length-y4.1.toNat) (⟨(0:Int),([]:List Int),(0:Int),(0:Int),(0:Int)⟩:Task)++(y4.2).drop (y4.1.toNat+(y4.2.length-y4.1.toNat))).length:Int))) (some (((y4.2).take y4.1.toNat++List.replicate (y4.2.length-y4.1.toNat) (⟨(0:Int),([]:List Int),(0:Int),(0:Int),(0:Int)⟩:Task)++(y4.2).drop (y4.1.toNat+(y4.2.length-y4.1.toNat))).take (y4.1.toNat-0))) none) none)
      (λi j ys hj next hij hl hg=>by
        simp only[aZ,dS,dS,eZ,cZ,decide_true,cond_true,aa,hl];rw[ab,if_pos (by omega),ab,if_pos (by omega),QY,hg,aa,cond_not,ab,if_pos (by omega),au hj (by omega),au (show i<xs.length by omega) (by omega),QY]
        rfl)
      (λi ys next hl=>by simp only[aZ,hl];rw[ab,if_neg (by omega)])
      (xs.length-(i+1)) i (i+1) xs k (by omega) (by omega) (by omega) rfl rfl hfi
    refine h4.trans ?_;obtain⟨c1,c2⟩:=qW ((⟨(0:Int),([]:List Int),(0:Int),(0:Int),(0:Int)⟩:Task)) h1 h2;simp only[QY,h2];rw[c2,c1,ab,if_pos (by omega),ab,if_pos (by omega),h3]
theorem ru {k:Nat} {xs:List Task} (hx:xs.length<=aU):cq k xs=some xs:=by
 unfold cq;rw[cy (by simpa using hx)]
 cases xs with
 |nil=>simp only[isNil,cond_true,RA];exact xS _
 |cons x l=>rfl
theorem CO {s:aj} (h:gv s=true):s.tasks.Pairwise λa b=>a.id<b.id:=by
 rw[List.pairwise_iff_getElem];intro i j hi hj hij;obtain⟨d,rfl⟩:∃d,j=i+d+1:=⟨j-i-1,by omega⟩;exact HO h d i hj
def zK (s:aj):Option Task:=EL Task.born (s.tasks.filter (dY s))
def nD (s:aj):Option Task:=EL Task.due (s.tasks.filter λt=>!dY s t)
theorem Jt {k:Nat} {s:aj} (hk:s.tot+2<k) (hN:s.tot<aU) (h:gv s=true):iK k s s=some ((zK s).elim 0 Task.id):=by
 have hM:=ao;have hlen:=bw Task.tot s.tasks;have hst:s.tot=fJ Task.tot s.tasks+0:=rfl;have hf:=Ss (dY s) s.tasks;unfold iK zK;rw[ru (by omega),aa,vW (by omega) (by omega),aa];simp only[Ti]
 cases hq:s.tasks.filter (dY s)with
 |nil=>rfl
 |cons x xs=>
  rw[hq]at hf;have hp:=(CO h).filter (dY s);rw[hq]at hp;rw[bJ,if_neg (by simp;omega),EN (by simp at hf;omega) (by simp at hf;omega) hp,aa];rfl
theorem GG {k:Nat} {s:aj} (hk:s.tot+2<k) (hN:s.tot<aU) (h:gv s=true):fB k s s=some ((nD s).elim 0 Task.id):=by
 have hM:=ao;have hlen:=bw Task.tot s.tasks;have hst:s.tot=fJ Task.tot s.tasks+0:=rfl;have hf:=Ss (λt=>!dY s t) s.tasks;unfold fB nD;rw[ru (by omega),aa,vX (by omega) (by omega),aa];simp only[Ti,decide_true,cond_true]
 cases hq:s.tasks.filter λt=>!dY s t with
 |nil=>rfl
 |cons x xs=>
  rw[hq]at hf;have hp:=(CO h).filter λt=>!dY s t;rw[hq]at hp;rw[bJ,if_neg (by simp;omega),CN (by simp at hf;omega) (by simp at hf;omega) hp,aa];rfl
def kg (s:aj):Int:=
 cond ((zK s).isSome&&(!(nD s).isSome||(decide (s.age>0)&&(s.turns.tmod s.age==0)))) ((zK s).elim 0 Task.id) ((nD s).elim 0 Task.id)
theorem nE {key:Task->Int} {xs:List Task} {t:Task} (h:EL key xs=some t):t∈xs:=by
 cases xs with
 |nil=>exact nomatch h
 |cons x xs=>
  simp only[EL,It]at h;rw[<-h];exact wF key xs x
theorem LH {s:aj} (h:gv s=true) {t:Task} (ht:zK s=some t):1<=t.id:=by
 have:=(RM.1 (nE ht)).1;obtain⟨i,hi,rfl⟩:=Rz.1 this;exact(cf (cg h hi).1).1.1
theorem wG {s:aj} (h:gv s=true) {t:Task} (ht:nD s=some t):1<=t.id:=by
 have:=(RM.1 (nE ht)).1;obtain⟨i,hi,rfl⟩:=Rz.1 this;exact(cf (cg h hi).1).1.1
theorem LI {k:Nat} {s:aj} (hk:s.tot+2<k) (hN:s.tot<aU) (h:gv s=true):jZ k s=some (kg s):=by
 unfold jZ kg;rw[Jt hk hN h,aa,GG hk hN h,aa]
 have hage:∀X:Option Int,(cond (decide (s.age>0)) (cond (decide (s.age=0)) none X) X)=X:=λX=>by
  by_cases c:s.age>0
  ·rw[decide_eq_true c,decide_eq_false (by omega)];rfl
  ·rw[decide_eq_false c];rfl
 cases hl:zK s with
 |none=>
  cases he:nD s with
  |none=>
   simp only[SF,RW,RP,cond_false,bne_self_eq_false,beq_self_eq_true,cond_true];by_cases c:s.age>0
   ·rw[decide_eq_true c,decide_eq_false (by omega)];cases s.turns.tmod s.age==0<;>rfl
   ·rw[decide_eq_false c];rfl
  |some e=>
   have h2:=wG h he;simp only[SF,Q1,RW,RP,cond_false,bne_self_eq_false,show(e.id==0)=false by simp;omega];by_cases c:s.age>0
   ·rw[decide_eq_true c,decide_eq_false (by omega)];cases s.turns.tmod s.age==0<;>rfl
   ·rw[decide_eq_false c];rfl
 |some l=>
  have h1:=LH h hl
  cases he:nD s with
  |none=>
   simp only[SF,Q1,RW,SJ,Ro,Bool.true_or,Q6,cond_true,beq_self_eq_true,show(l.id !=0)=true by simp;omega];by_cases c:s.age>0
   ·rw[decide_eq_true c,decide_eq_false (by omega)];cases s.turns.tmod s.age==0<;>rfl
   ·rw[decide_eq_false c];rfl
  |some e=>
   have h2:=wG h he;simp only[Q1,SJ,Q3,Tr,Q6,show(l.id !=0)=true by simp;omega,show(e.id==0)=false by simp;omega,cond_true,cond_false];by_cases c:s.age>0
   ·rw[decide_eq_true c,decide_eq_false (by omega)];cases s.turns.tmod s.age==0<;>rfl
   ·rw[decide_eq_false c];rfl
def better (key:Task->Int) (m:Option Task) (t:Task):Option Task:=m.elim (some t) λu=>cond (decide (key t<key u)) (some t) (some u)
theorem zc (key:Task->Int):∀(xs:List Task) (m:Task),xs.foldl (better key) (some m)=some (xs.foldl (λm t=>cond (decide (key t<key m)) t m) m)
 |[],m=>rfl
 |x::xs,m=>by
  rw[RQ,RQ,<-zc key xs]
  congr 1
  show cond (decide (key x<key m)) (some x) (some m)=_;cases decide (key x<key m)<;>rfl
theorem Ju (key:Task->Int) (xs:List Task):xs.foldl (better key) none=EL key xs:=by
 cases xs with
 |nil=>rfl
 |cons x xs=>exact zc key xs x
def AtT (ts:List Task) (l:Int) (m:Option Task):Prop:=(m=none/\l=-1)\/∃(j:Nat) (hj:j<ts.length),l=(j:Int)/\m=some ts[j]
theorem EO {R:Type} {k:Nat} {s:aj} {fin:Int× Int->Option R} (hN:s.tasks.length<=aU):∀(d i:Nat) (l e:Int) (ml me:Option Task) (kf:Nat),i+d=s.tasks.length->d<kf->AtT s.tasks l ml->AtT s.tasks e me->
  ∃l' e',AtT s.tasks l' (((s.tasks.drop i).filter (dY s)).foldl (better Task.born) ml)/\AtT s.tasks e' (((s.tasks.drop i).filter λt=>!dY s t).foldl (better Task.due) me)/\
   iter (λu11 n11=>er k (s.now,s.ag,s.age,s.tasks,s.run,s.left,s.turns,s.next) u11 n11 fin) kf (l,e,(i:Int))=fin (l',e')
 |d,i,l,e,ml,me,0,_,h,_,_=>by omega
 |0,i,l,e,ml,me,kf+1,hi,_,hl,he=>by
  have:i=s.tasks.length:=by omega
  subst this;refine⟨l,e,by simpa using hl,by simpa using he,?_⟩;rw[aF];simp only[er]
  rw[ab,if_neg (by omega)]
 |d+1,i,l,e,ml,me,kf+1,hi,h,hl,he=>by
  have hM:=ao
  have hlt:i<s.tasks.length:=by omega
  have hself:AtT s.tasks (i:Int) (some s.tasks[i]):=.inr ⟨i,hlt,rfl,rfl⟩
  have hstep:∀(l2 e2:Int) (ml2 me2:Option Task),AtT s.tasks l2 ml2->AtT s.tasks e2 me2->ml2=cond (dY s s.tasks[i]) (better Task.born ml s.tasks[i]) ml->me2=cond (dY s s.tasks[i]) me (better Task.due me s.tasks[i])->
    (∀next:Int× Int× Int->Option R,er k (s.now,s.ag,s.age,s.tasks,s.run,s.left,s.turns,s.next) (l,e,(i:Int)) next fin=next (l2,e2,((i+1:Nat):Int)))->
    ∃l' e',AtT s.tasks l' (((s.tasks.drop i).filter (dY s)).foldl (better Task.born) ml)/\AtT s.tasks e' (((s.tasks.drop i).filter λt=>!dY s t).foldl (better Task.due) me)/\
     iter (λu11 n11=>er k (s.now,s.ag,s.age,s.tasks,s.run,s.left,s.turns,s.next) u11 n11 fin) (kf+1) (l,e,(i:Int))=fin (l',e'):=λl2 e2 ml2 me2 h1 h2 e1 e2' hg=>by
   obtain⟨l',e',g1,g2,g3⟩:=EO (k:=k) (fin:=fin) hN d (i+1) l2 e2 ml2 me2 kf (by omega) (by omega) h1 h2;refine⟨l',e',?_,?_,?_⟩
   ·rw[gF hlt,Sv];rw[e1]at g1;cases hb:dY s s.tasks[i]
    ·rw[hb]at g1;exact g1
    ·rw[hb]at g1;exact g1
   ·rw[gF hlt,Sv];rw[e2']at g2;cases hb:dY s s.tasks[i]
    ·rw[hb]at g2;exact g2
    ·rw[hb]at g2;exact g2
   ·rw[aF,hg];exact g3
  have e0:∀next:Int× Int× Int->Option R,er k (s.now,s.ag,s.age,s.tasks,s.run,s.left,s.turns,s.next) (l,e,(i:Int)) next fin=
    cond (dY s s.tasks[i]) (cond (decide (l<(0:Int))) (next ((i:Int),e,((i+1:Nat):Int))) ((idx s.tasks l).bind λe3=>cond (decide (s.tasks[i].born<e3.born)) (next ((i:Int),e,((i+1:Nat):Int))) (next (l,e,((i+1:Nat):Int)))))
     (cond (decide (e<(0:Int))) (next (l,(i:Int),((i+1:Nat):Int))) ((idx s.tasks e).bind λe4=>cond (decide (s.tasks[i].due<e4.due)) (next (l,(i:Int),((i+1:Nat):Int))) (next (l,e,((i+1:Nat):Int))))):=λnext=>by
   simp only[er];rw[ab,if_pos (by omega),aD,ai hlt,aa,au hlt (by omega)];rfl
  cases hb:dY s s.tasks[i]
  ·rcases he with⟨rfl,rfl⟩|⟨j,hj,rfl,rfl⟩
   ·exact hstep l (i:Int) ml (some s.tasks[i]) hl hself (by rw[hb];rfl) (by rw[hb];rfl) λnext=>by rw[e0,hb];rfl
   ·by_cases c:s.tasks[i].due<s.tasks[j].due
    ·exact hstep l (i:Int) ml (some s.tasks[i]) hl hself (by rw[hb];rfl) (by rw[hb];show _=cond (decide (s.tasks[i].due<s.tasks[j].due)) _ _;rw[decide_eq_true c];rfl) λnext=>by
      rw[e0,hb,cond_false,ab,if_neg (by omega),aD,ai hj,aa,decide_eq_true c];rfl
    ·exact hstep l (j:Int) ml (some s.tasks[j]) hl (.inr ⟨j,hj,rfl,rfl⟩) (by rw[hb];rfl) (by rw[hb];show _=cond (decide (s.tasks[i].due<s.tasks[j].due)) _ _;rw[decide_eq_false c];rfl) λnext=>by
      rw[e0,hb,cond_false,ab,if_neg (by omega),aD,ai hj,aa,decide_eq_false c];rfl
  ·rcases hl with⟨rfl,rfl⟩|⟨j,hj,rfl,rfl⟩
   ·exact hstep (i:Int) e (some s.tasks[i]) me hself he (by rw[hb];rfl) (by rw[hb];rfl) λnext=>by rw[e0,hb];rfl
   ·by_cases c:s.tasks[i].born<s.tasks[j].born
    ·exact hstep (i:Int) e (some s.tasks[i]) me hself he (by rw[hb];show _=cond (decide (s.tasks[i].born<s.tasks[j].born)) _ _;rw[decide_eq_true c];rfl) (by rw[hb];rfl) λnext=>by
      rw[e0,hb,cond_true,ab,if_neg (by omega),aD,ai hj,aa,decide_eq_true c];rfl
    ·exact hstep (j:Int) e (some s.tasks[j]) me (.inr ⟨j,hj,rfl,rfl⟩) he (by rw[hb];show _=cond (decide (s.tasks[i].born<s.tasks[j].born)) _ _;rw[decide_eq_false c];rfl) (by rw[hb];rfl) λnext=>by
      rw[e0,hb,cond_true,ab,if_neg (by omega),aD,ai hj,aa,decide_eq_false c];rfl
theorem CP {k:Nat} {s:aj} (hk:s.tot<k) (hN:s.tot<=aU) (h:bu s=true):qJ k s=some (kg s):=by
 have hM:=ao;have hs:=bF h;have hlen:=bw Task.tot s.tasks;have hst:s.tot=fJ Task.tot s.tasks+0:=rfl;unfold qJ;rw[dI hk hN,aa,h];simp only[Q3,cond_false];obtain⟨l,e,hl,he,hi⟩:=EO (R:=Int) (k:=k) (s:=s) (fin:=λy5=>cond (decide (y5.1>=(0:Int))) (cond (decide (y5.2<(0:Int))) ((idx s.tasks y5.1).bind λe6=>some e6.id) (cond (decide (s.age>(0:Int))) (cond (decide (s.age=0)) none (cond ((s.turns.tmod s.age)==(0:Int)) ((idx s.tasks y5.1).bind λe7=>some e7.id) (cond (decide (y5.2>=(0:Int))) ((idx s.tasks y5.2).bind λe8=>some e8.id) (some (0:Int))))) (cond (decide (y5.2>=(0:Int))) ((idx s.tasks y5.2).bind λe9=>some e9.id) (some (0:Int))))) (cond (decide (y5.2>=(0:Int))) ((idx s.tasks y5.2).bind λe10=>some e10.id) (some (0:Int)))) (by omega) s.tasks.length 0 (-1) (-1) none none k (by omega) (by omega) (.inl ⟨rfl,rfl⟩) (.inl ⟨rfl,rfl⟩);refine hi.trans ?_;rw[Tf,Ju]at hl he;unfold kg;have el:zK s=EL Task.born (s.tasks.filter (dY s)):=rfl;have ee:nD s=EL Task.due (s.tasks.filter λt=>!dY s t):=rfl;rw[<-el]at hl;rw[<-ee]at he
 rcases hl with⟨hl,rfl⟩|⟨j,hj,rfl,hl⟩
 ·rcases he with⟨he,rfl⟩|⟨j2,hj2,rfl,he⟩
  ·rw[hl,he];rfl
  ·rw[hl,he];simp only[RW,RP,cond_false,Q1];rw[decide_eq_false (show¬((-1:Int)>=0) by omega),decide_eq_true (show((j2:Int)>=0) by omega),aD,ai hj2];rfl
 ·rcases he with⟨he,rfl⟩|⟨j2,hj2,rfl,he⟩
  ·rw[hl,he];rw[decide_eq_true (show((j:Int)>=0) by omega),aD,ai hj];rfl
  ·rw[hl,he];simp only[SJ,Q3,Tr,Q6,Q1];rw[decide_eq_true (show((j:Int)>=0) by omega),decide_eq_false (show¬((j2:Int)<0) by omega),decide_eq_true (show((j2:Int)>=0) by omega),aD,ai hj,aD,ai hj2];by_cases c:s.age>0
   ·rw[decide_eq_true c,decide_eq_false (show¬s.age=0 by omega)];cases s.turns.tmod s.age==0<;>rfl
   ·rw[decide_eq_false c];rfl
def tQ (s:aj) (run left turns:Int):aj× Int× Bool:=
  cond (decide (left-1>0)) (⟨s.now+1,s.ag,s.age,s.tasks,run,left-1,turns,s.next⟩,0,false)
    ((s.tasks.findIdx? λt=>t.id==run).elim (s,0,false) λi=>(s.tasks[i]?).elim (s,0,false) λt=>
      cond (decide (t.at_+1<t.ar.length)) (⟨s.now+1,s.ag,s.age,s.tasks.set i ⟨t.id,t.ar,t.at_+1,t.due,t.born⟩,0,left-1,turns,s.next⟩,run,false)
        (⟨s.now+1,s.ag,s.age,JH (s.tasks.set i ⟨t.id,t.ar,t.at_+1,t.due,t.born⟩) run,0,left-1,turns,s.next⟩,run,true))
theorem zd {k:Nat} {s:aj} {run left turns:Int} (hk:s.tot<k) (hN:s.tot<=aU) (h:bu s=true) (hl:1<=left/\left<=1000) {i:Nat} (hf:(s.tasks.findIdx? λt=>t.id==run)=some i):
  (cond (decide ((IntKind.i64.wrap (left-(1:Int)))>(0:Int))) (some ((⟨(IntKind.i64.wrap (s.now+(1:Int))),s.ag,s.age,s.tasks,run,(IntKind.i64.wrap (left-(1:Int))),turns,s.next⟩:aj),(0:Int),false)) ((kt k (⟨(IntKind.i64.wrap (s.now+(1:Int))),s.ag,s.age,s.tasks,run,(IntKind.i64.wrap (left-(1:Int))),turns,s.next⟩:aj) run).bind λr23=>cond (decide (0<=r23/\r23<(s.tasks.length:Int))) ((s.tasks[r23.toNat]?).bind λe24=>cond (decide (0<=r23/\r23<(s.tasks.length:Int))) ((s.tasks[r23.toNat]?).bind λe25=>cond (decide (0<=r23/\r23<((s.tasks.set r23.toNat (⟨e25.id,e25.ar,(IntKind.i64.wrap (e24.at_+(1:Int))),e25.due,e25.born⟩:Task)).length:Int))) (((s.tasks.set r23.toNat (⟨e25.id,e25.ar,(IntKind.i64.wrap (e24.at_+(1:Int))),e25.due,e25.born⟩:Task))[r23.toNat]?).bind λe26=>cond (decide (0<=r23/\r23<((s.tasks.set r23.toNat (⟨e25.id,e25.ar,(IntKind.i64.wrap (e24.at_+(1:Int))),e25.due,e25.born⟩:Task)).length:Int))) (((s.tasks.set r23.toNat (⟨e25.id,e25.ar,(IntKind.i64.wrap (e24.at_+(1:Int))),e25.due,e25.born⟩:Task))[r23.toNat]?).bind λe27=>cond (decide (e26.at_<(e27.ar.length:Int))) (some ((⟨(IntKind.i64.wrap (s.now+(1:Int))),s.ag,s.age,(s.tasks.set r23.toNat (⟨e25.id,e25.ar,(IntKind.i64.wrap (e24.at_+(1:Int))),e25.due,e25.born⟩:Task)),(0:Int),(IntKind.i64.wrap (left-(1:Int))),turns,s.next⟩:aj),run,false)) ((kr (s.tasks.set r23.toNat (⟨e25.id,e25.ar,(IntKind.i64.wrap (e24.at_+(1:Int))),e25.due,e25.born⟩:Task))).bind λy28=>(fq k (IntKind.i64.wrap (s.now+(1:Int))) s.ag s.age y28 (0:Int) (IntKind.i64.wrap (left-(1:Int))) turns s.next run).bind λr29=>cond (ji r29) ((oQ (s.tasks.set r23.toNat (⟨e25.id,e25.ar,(IntKind.i64.wrap (e24.at_+(1:Int))),e25.due,e25.born⟩:Task)) r29).bind λz30=>some ((⟨(IntKind.i64.wrap (s.now+(1:Int))),s.ag,s.age,z30,(0:Int),(IntKind.i64.wrap (left-(1:Int))),turns,s.next⟩:aj),run,true)) none)) none) none) none) none))=some (tQ s run left turns):=by
 have hM:=ao;have hs:=bF h;have hlen:=bw Task.tot s.tasks;have hst:s.tot=fJ Task.tot s.tasks+0:=rfl;obtain⟨hi,hid⟩:=pX hf;have ht:=cf (cg hs.2.2.2.2.2.2.1 hi).1;unfold tQ;rw[aH (n:=left-1) (by omega) (by omega),aH (n:=s.now+1) (by omega) (by omega)];by_cases c:left-1>0
 ·rw[decide_eq_true c];rfl
 rw[decide_eq_false c,cond_false,cond_false];rw[lb (by show s.tasks.length<k;omega) (by show s.tasks.length<=aU;omega),aa];show(λr23:Int=>_) (ka s.tasks run)=_;rw[ik hf];simp only[QY,RG];rw[ab,if_pos (by omega),ai hi,aa,ab,if_pos (by omega),aa,ab,if_pos (by omega),RO hi,aa,ab,if_pos (by omega),aa,hf,Q1,ai hi,Q1,aH (n:=s.tasks[i].at_+1) (by omega) (by omega)];simp only;by_cases c2:s.tasks[i].at_+1<(s.tasks[i].ar.length:Int)
 ·rw[decide_eq_true c2];rfl
 rw[decide_eq_false c2,cond_false,cond_false,qV,aa,vG (by rw[ez,RG];omega) (by rw[ez,RG];omega),aa,mB,cond_true,oH _ (λt=>!(t.id==run)) (λz=>!(z.id==run)) (λn t=>rfl),aa];rfl
theorem EP {k:Nat} {s:aj} {run left turns:Int} (hk:s.tot<k) (hN:s.tot<=aU) (h:bu s=true) (hl:1<=left/\left<=1000) {i:Nat} (hf:(s.tasks.findIdx? λt=>t.id==run)=some i):
  (cond (decide ((IntKind.i64.wrap (left-(1:Int)))>(0:Int))) (cond (decide (s.ag=s.ag)) (cond (decide (s.age=s.age)) (cond (decide (s.next=s.next)) (some (((0:Int),false),IntKind.i64.wrap (s.now+(1:Int)),s.tasks,run,IntKind.i64.wrap (left-(1:Int)),turns)) none) none) none) ((de k (⟨(IntKind.i64.wrap (s.now+(1:Int))),s.ag,s.age,s.tasks,run,(IntKind.i64.wrap (left-(1:Int))),turns,s.next⟩:aj) run).bind λr1=>cond (decide (0<=r1/\r1<(s.tasks.length:Int))) ((s.tasks[r1.toNat]?).bind λe2=>(s.tasks[r1.toNat]?).bind λe3=>((s.tasks.set r1.toNat (⟨e3.id,e3.ar,(IntKind.i64.wrap (e2.at_+(1:Int))),e3.due,e3.born⟩:Task))[r1.toNat]?).bind λe4=>((s.tasks.set r1.toNat (⟨e3.id,e3.ar,(IntKind.i64.wrap (e2.at_+(1:Int))),e3.due,e3.born⟩:Task))[r1.toNat]?).bind λe5=>cond (decide (e4.at_<(e5.ar.length:Int))) (cond (decide (s.ag=s.ag)) (cond (decide (s.age=s.age)) (cond (decide (s.next=s.next)) (some ((run,false),IntKind.i64.wrap (s.now+(1:Int)),s.tasks.set r1.toNat (⟨e3.id,e3.ar,(IntKind.i64.wrap (e2.at_+(1:Int))),e3.due,e3.born⟩:Task),(0:Int),IntKind.i64.wrap (left-(1:Int)),turns)) none) none) none) ((kr (s.tasks.set r1.toNat (⟨e3.id,e3.ar,(IntKind.i64.wrap (e2.at_+(1:Int))),e3.due,e3.born⟩:Task))).bind λy6=>(du k (IntKind.i64.wrap (s.now+(1:Int))) s.ag s.age y6 (0:Int) (IntKind.i64.wrap (left-(1:Int))) turns s.next run).bind λr7=>cond (ji r7.1) ((oQ (s.tasks.set r1.toNat (⟨e3.id,e3.ar,(IntKind.i64.wrap (e2.at_+(1:Int))),e3.due,e3.born⟩:Task)) r7.1).bind λz8=>cond (decide (s.ag=s.ag)) (cond (decide (s.age=s.age)) (cond (decide (s.next=s.next)) (some ((run,true),IntKind.i64.wrap (s.now+(1:Int)),z8,r7.2.1,r7.2.2,turns)) none) none) none) none)) none))=some (((tQ s run left turns).2.1,(tQ s run left turns).2.2),(tQ s run left turns).1.now,(tQ s run left turns).1.tasks,(tQ s run left turns).1.run,(tQ s run left turns).1.left,(tQ s run left turns).1.turns):=by
 have hM:=ao;have hs:=bF h;have hlen:=bw Task.tot s.tasks;have hst:s.tot=fJ Task.tot s.tasks+0:=rfl;obtain⟨hi,hid⟩:=pX hf;have ht:=cf (cg hs.2.2.2.2.2.2.1 hi).1;unfold tQ;simp only[decide_true,cond_true];rw[aH (n:=left-1) (by omega) (by omega),aH (n:=s.now+1) (by omega) (by omega)];by_cases c:left-1>0
 ·rw[decide_eq_true c];rfl
 rw[decide_eq_false c,cond_false,cond_false];rw[tG (by show s.tasks.length<k;omega) (by show s.tasks.length<=aU;omega),aa];show(λr23:Int=>_) (ka s.tasks run)=_;rw[ik hf];simp only[QY,RG];rw[ab,if_pos (by omega),ai hi,aa,aa,RO hi,aa,aa,hf,Q1,ai hi,Q1,aH (n:=s.tasks[i].at_+1) (by omega) (by omega)];simp only;by_cases c2:s.tasks[i].at_+1<(s.tasks[i].ar.length:Int)
 ·rw[decide_eq_true c2];rfl
 rw[decide_eq_false c2,cond_false,cond_false,qV,aa,Js (by rw[ez,RG];omega) (by rw[ez,RG];omega),aa];simp only;rw[mB,cond_true,oH _ (λt=>!(t.id==run)) (λz=>!(z.id==run)) (λn t=>rfl),aa]
 have hne:((0:Int)==run)=false:=by simp;omega
 rw[hne];rfl
def hJ (s:aj) (iP:Bool):aj× Int× Bool:=
  cond (bu s&&!(s.now==1000000))
    (cond iP (⟨s.now+1,s.ag,s.age,s.tasks,s.run,s.left,s.turns,s.next⟩,0,false)
      (cond (s.run==0)
        (cond (kg s==0) (⟨s.now+1,s.ag,s.age,s.tasks,s.run,s.left,s.turns,s.next⟩,0,false)
          ((s.tasks.findIdx? λt=>t.id==kg s).elim (s,0,false) λi=>(s.tasks[i]?).elim (s,0,false) λt=>tQ s (kg s) (ff t) (cond (decide (s.turns+1>1000000)) 0 (s.turns+1))))
        (tQ s s.run s.left s.turns))) (s,0,false)
theorem ze {s:aj} (h:bu s=true) (hp:kg s≠0):∃(i:Nat) (hi:i<s.tasks.length),(s.tasks.findIdx? λt=>t.id==kg s)=some i/\s.tasks[i].id=kg s:=by
 have hs:=bF h
 have:∃t∈s.tasks,kg s=t.id:=by
  unfold kg at hp⊢
  cases hl:zK s with
  |none=>
   cases he:nD s with
   |none=>rw[hl,he]at hp;exact(hp rfl).elim
   |some e=>exact⟨e,(RM.1 (nE he)).1,rfl⟩
  |some l=>
   cases he:nD s with
   |none=>exact⟨l,(RM.1 (nE hl)).1,rfl⟩
   |some e=>
    simp only[SJ,Q3,Tr,Q6,Q1];cases(decide (s.age>0)&&(s.turns.tmod s.age==0))
    ·exact⟨e,(RM.1 (nE he)).1,rfl⟩
    ·exact⟨l,(RM.1 (nE hl)).1,rfl⟩
 obtain⟨t,ht,e⟩:=this;obtain⟨i,hi,rfl⟩:=Rz.1 ht;exact⟨i,hi,by rw[e];exact CI hs.2.2.2.2.2.2.1 hi,e.symm⟩
theorem CQ {s:aj} (h:bu s=true) (hr:(s.run==0)=false):(1<=s.left/\s.left<=1000)/\∃i,(s.tasks.findIdx? λt=>t.id==s.run)=some i:=by
 have hs:=bF h;have hrun:=hs.2.2.2.2.2.2.2;unfold JG at hrun;rw[hr,cond_false]at hrun
 cases hf:s.tasks.findIdx? λt=>t.id==s.run with
 |none=>rw[hf]at hrun;exact nomatch hrun
 |some i=>
  obtain⟨hi,hid⟩:=pX hf;have h1:=qU h (Q7 hi) hid.symm;have h2:=fg (cg hs.2.2.2.2.2.2.1 hi).1;exact⟨by omega,i,rfl⟩
theorem zL {k:Nat} {s:aj} {st:Bool} (hk:s.tot<k) (hN:s.tot<=aU):ov k s st=some (hJ s st):=by
 have hM:=ao;have hlen:=bw Task.tot s.tasks;have hst:s.tot=fJ Task.tot s.tasks+0:=rfl;unfold ov hJ;rw[pY hk hN,aa,dI hk hN,aa];cases h:bu s
 ·rfl
 have hs:=bF h;simp only[Q3,cond_false,Q6];cases(s.now==(1000000:Int))
 case true=>rfl
 simp only[cond_false,Ro,cond_true];cases st
 case true=>rw[aH (n:=s.now+1) (by omega) (by omega)];rfl
 simp only[cond_false];cases hr:s.run==0
 ·simp only[cond_false];obtain⟨hl,i,hf⟩:=CQ h hr;exact zd hk hN h hl hf
 simp only[cond_true];rw[CP hk hN h,aa];by_cases hp:kg s=0
 ·rw[hp,aH (n:=s.now+1) (by omega) (by omega)];rfl
 rw[bJ,if_neg hp,bJ,if_neg hp];obtain⟨i,hi,hf,hid⟩:=ze h hp;have hc:=fg (cg hs.2.2.2.2.2.2.1 hi).1;rw[lb (by show s.tasks.length<k;omega) (by show s.tasks.length<=aU;omega),aa];show(λr4:Int=>_) (ka s.tasks (kg s))=_;rw[ik hf];simp only[QY];rw[ab,if_pos (by omega),ai hi,aa,hc.1,aa,hf,Q1,ai hi,Q1,aH (n:=s.turns+1) (by omega) (by omega)];by_cases ct:s.turns+1>1000000
 ·rw[decide_eq_true ct,cond_true,cond_true];exact zd hk hN h ⟨hc.2.1,hc.2.2⟩ hf
 ·rw[decide_eq_false ct,cond_false,cond_false];exact zd hk hN h ⟨hc.2.1,hc.2.2⟩ hf
theorem Jv {k:Nat} {s:aj} (hk:s.tot+2<k) (hN:s.tot<aU) (h:bu s=true):
  (kg s=0/\ed k s=some (false,s.run,s.left,s.turns))\/
  ∃(i:Nat) (hi:i<s.tasks.length),kg s≠0/\(s.tasks.findIdx? λt=>t.id==kg s)=some i/\ed k s=some (true,kg s,ff s.tasks[i],cond (decide (s.turns+1>1000000)) 0 (s.turns+1)):=by
 have hM:=ao;have hs:=bF h;have hlen:=bw Task.tot s.tasks;have hst:s.tot=fJ Task.tot s.tasks+0:=rfl;unfold ed;rw[LI hk hN hs.2.2.2.2.2.2.1,aa];simp only[decide_true,cond_true];by_cases hp:kg s=0
 ·exact .inl ⟨hp,by rw[hp];rfl⟩
 ·obtain⟨i,hi,hf,hid⟩:=ze h hp;have hc:=fg (cg hs.2.2.2.2.2.2.1 hi).1;refine .inr ⟨i,hi,hp,hf,?_⟩;rw[bJ,if_neg hp,tG (by omega) (by omega),aa,ik hf,QY,ab,if_pos (by omega),ai hi,aa,hc.1,aa,aH (n:=s.turns+1) (by omega) (by omega)];cases decide (s.turns+1>1000000)<;>rfl
theorem Nn (s:aj) (run left turns:Int) {i:Nat} (hf:(s.tasks.findIdx? λt=>t.id==run)=some i):(tQ s run left turns).1.ag=s.ag/\(tQ s run left turns).1.age=s.age/\(tQ s run left turns).1.next=s.next:=by
 obtain⟨hi,_⟩:=pX hf;unfold tQ;cases decide (left-1>0)
 ·rw[hf,cond_false,Q1,ai hi,Q1];cases decide (s.tasks[i].at_+1<(s.tasks[i].ar.length:Int))<;>exact⟨rfl,rfl,rfl⟩
 ·exact⟨rfl,rfl,rfl⟩
theorem zM {k:Nat} {s:aj} {st:Bool} (hk:s.tot+2<k) (hN:s.tot<aU):rR k s st=some (hJ s st):=by
 have hM:=ao;have hlen:=bw Task.tot s.tasks;have hst:s.tot=fJ Task.tot s.tasks+0:=rfl;unfold rR hJ;rw[jq (by omega) (by omega),aa,ke (by omega) (by omega),aa];cases h:bu s
 ·rfl
 have hs:=bF h;simp only[Q3,cond_false,Q6];cases(s.now==(1000000:Int))
 case true=>rfl
 simp only[cond_false,Ro,cond_true]
 have fin:∀(run left turns:Int) {i:Nat},(s.tasks.findIdx? λt=>t.id==run)=some i->(some (((tQ s run left turns).2.1,(tQ s run left turns).2.2),(tQ s run left turns).1.now,(tQ s run left turns).1.tasks,(tQ s run left turns).1.run,(tQ s run left turns).1.left,(tQ s run left turns).1.turns)).bind (λr3:((Int× Bool)× Int× List Task× Int× Int× Int)=>some ((⟨r3.2.1,s.ag,s.age,r3.2.2.1,r3.2.2.2.1,r3.2.2.2.2.1,r3.2.2.2.2.2,s.next⟩:aj),r3.1.1,r3.1.2))=some (tQ s run left turns):=λrun left turns i hf=>by
  obtain⟨g1,g2,g3⟩:=Nn s run left turns hf;generalize tQ s run left turns=q at g1 g2 g3⊢;obtain⟨⟨a1,a2,a3,a4,a5,a6,a7,a8⟩,b,c⟩:=q;simp only at g1 g2 g3;subst g1 g2 g3;rfl
 unfold fS;cases st
 case true=>rw[aH (n:=s.now+1) (by omega) (by omega)];simp only[decide_true,cond_true,Q3,cond_false,aa]
 simp only[Ro,cond_true,cond_false];cases hr:s.run==0
 ·rw[show(s.run !=0)=true by rw[bne,hr];rfl];simp only[cond_true,cond_false];obtain⟨hl,i,hf⟩:=CQ h hr;have e:=EP (k:=k) (turns:=s.turns) (by omega) (by omega) h hl hf;simp only[decide_true,cond_true]at e⊢;rw[e];exact fin _ _ _ hf
 rw[show(s.run !=0)=false by rw[bne,hr];rfl];simp only[cond_true,cond_false]
 rcases Jv hk hN h with⟨hp,e⟩|⟨i,hi,hp,hf,e⟩
 ·rw[e,hp,aa,aH (n:=s.now+1) (by omega) (by omega)];simp only[decide_true,cond_true,Ro,aa,beq_self_eq_true]
 ·have hc:=fg (cg hs.2.2.2.2.2.2.1 hi).1;rw[e,aa,bJ,if_neg hp];have e:=EP (k:=k) (turns:=cond (decide (s.turns+1>1000000)) 0 (s.turns+1)) (by omega) (by omega) h ⟨hc.2.1,hc.2.2⟩ hf;simp only[decide_true,cond_true,Q3,cond_false]at e⊢;rw[e,hf,Q1,ai hi,Q1];exact fin _ _ _ hf
end
section
def P4:aj:=⟨0,0,0,[],0,0,0,0⟩
def Bd (ag age:Int):aj:=⟨0,ag,age,[],0,0,0,1⟩
theorem Np {k:Nat} {a b:Int} (hk:0<k):qK k a b=some (cond (bu (Bd a b)) (Bd a b,true) (P4,false)):=by
 unfold qK;rw[dI (by exact hk) (by exact Rv _),aa];show cond (!(bu (Bd a b))) _ _=_;cases bu (Bd a b)<;>rfl
theorem Nq {k:Nat} {a b:Int} (hk:0<k):qL k a b=some (cond (bu (Bd a b)) (Bd a b,true) (P4,false)):=by
 unfold qL;rw[ke (by exact hk) (by exact Rv _),aa];show cond (!(bu (Bd a b))) _ _=_;cases bu (Bd a b)<;>rfl
end
section
def mR {α:Type} (o:Option α) (Q:α->Prop):Prop:=∃r,o=some r/\Q r
theorem mR.bind {α β:Type} {o:Option α} {P:α->Prop} {f:α->Option β} {Q:β->Prop} (h:mR o P) (hf:∀a,P a->mR (f a) Q):mR (o.bind f) Q:=by
 obtain⟨r,e,hp⟩:=h;rw[e];exact hf r hp
theorem mR.some {α:Type} {a:α} {Q:α->Prop} (h:Q a):mR (some a) Q:=⟨a,rfl,h⟩
theorem mR.cond {α:Type} {b:Bool} {x y:Option α} {Q:α->Prop} (h1:b=true->mR x Q) (h2:b=false->mR y Q):mR (cond b x y) Q:=by
 cases b
 ·exact h2 rfl
 ·exact h1 rfl
theorem mR.mono {α:Type} {o:Option α} {P Q:α->Prop} (h:mR o P) (hq:∀a,P a->Q a):mR o Q:=by
 obtain⟨r,e,hp⟩:=h;exact⟨r,e,hq r hp⟩
theorem mR.iter {V R:Type} {g:V->(V->Option R)->Option R} {Inv:V->Prop} {m:V->Nat} {Q:R->Prop}
  (h:∀(v:V) (next:V->Option R),Inv v->(∀u,Inv u->m u<m v->mR (next u) Q)->mR (g v next) Q):∀(k:Nat) (v:V),Inv v->m v<k->mR (iter g k v) Q
 |0,v,_,hk=>by omega
 |k+1,v,hv,hk=>by
  rw[aF];exact h v _ hv λu hu hm=>mR.iter h k u hu (by omega)
end
section
theorem mR.ble {α:Type} {a b:Nat} {x y:Option α} {Q:α->Prop} (h:a<=b) (hx:mR x Q):mR (bif (Nat.ble a b)then x else y) Q:=by
 rw[Sb h];exact hx
end
set_option maxRecDepth 100000
section
end
set_option maxRecDepth 100000
section
theorem zf (s:aj) (ar:List Int) (due:Int):
  ((fL s ar due).2.2=0/\0<(fL s ar due).2.1/\bu s=true/\yX (fL s ar due).1=true/\(fL s ar due).1=⟨s.now,s.ag,s.age,s.tasks++[⟨s.next,ar,0,due,s.now⟩],s.run,s.left,s.turns,s.next+1⟩)\/
  ((fL s ar due).2.2≠0/\(fL s ar due).2.1=0/\(fL s ar due).1=s):=by
 unfold fL;cases h:bu s&&im ⟨s.next,ar,0,due,s.now⟩
 ·right;simp
 have hb:=(SA.1 h).1;have hs:=bF hb;cases((s.tasks.length:Int)==12||s.next==1000000)
 ·cases hf:yX ⟨s.now,s.ag,s.age,s.tasks++[⟨s.next,ar,0,due,s.now⟩],s.run,s.left,s.turns,s.next+1⟩
  ·right;simp
  ·left;simp only[cond_true,cond_false];exact⟨trivial,by omega,hb,hf,trivial⟩
 ·right;simp
end
section
structure SOk (s:aj):Prop where
 now:0<=s.now/\s.now<=1000000
 ag:0<=s.ag/\s.ag<=1000
 age:0<=s.age/\s.age<=20
 len:s.tasks.length<=12
 turns:0<=s.turns/\s.turns<=1000000
 next:1<=s.next/\s.next<=1000000
 task:∀t∈s.tasks,im t=true/\t.id<s.next/\t.born<=s.now
 ids:s.tasks.Pairwise λa b=>a.id<b.id
 run:(s.run=0/\s.left=0)\/∃t∈s.tasks,t.id=s.run/\1<=s.left/\s.left<=ff t
theorem NV {s:aj} (h:bu s=true):SOk s:=by
 have hs:=bF h;have hT:=hs.2.2.2.2.2.2.1;refine⟨hs.1,hs.2.1,hs.2.2.1,hs.2.2.2.1,hs.2.2.2.2.1,hs.2.2.2.2.2.1,λt ht=>?_,CO hT,?_⟩
 ·obtain⟨i,hi,rfl⟩:=Rz.1 ht;have:=cg hT hi;exact⟨this.1,this.2.1,this.2.2.1⟩
 ·cases hr:s.run==0
  ·obtain⟨_,i,hf⟩:=CQ h hr;obtain⟨hi,hid⟩:=pX hf;exact .inr ⟨s.tasks[i],Q7 hi,hid,qU h (Q7 hi) hid.symm⟩
  ·have hrun:=hs.2.2.2.2.2.2.2;unfold JG at hrun;rw[hr,cond_true]at hrun;exact .inl ⟨by simpa using hr,by simpa using hrun⟩
theorem zg {s:aj} (h:SOk s):gv s=true:=by
 unfold gv;rw[Su];intro i hi;rw[List.mem_range]at hi;obtain⟨h1,h2,h3⟩:=h.task _ (Q7 hi);rw[ai hi,Q1];simp only[QX,decide_eq_true_eq];refine⟨h1,h2,h3,?_⟩;by_cases c:0<i
 ·rw[decide_eq_true c,cond_true,ai (show i-1<s.tasks.length by omega),Q1];exact decide_eq_true (List.pairwise_iff_getElem.1 h.ids (i-1) i (by omega) hi (by omega))
 ·rw[decide_eq_false c];rfl
theorem wH {s:aj} (h:SOk s):bu s=true:=by
 have hT:=zg h;unfold bu inB;simp only[QX,decide_eq_true_eq];refine⟨h.now,h.ag,h.age,by have:=h.len;omega,h.turns,h.next,hT,?_⟩
 rcases h.run with⟨h1,h2⟩|⟨t,ht,e,l1,l2⟩
 ·unfold JG;rw[h1,h2];rfl
 ·have hb:=(h.task t ht).1;have hid:=(cf hb).1;obtain⟨i,hi,rfl⟩:=Rz.1 ht
  have h0:(s.run==0)=false:=by rw[<-e];simp;omega
  unfold JG;rw[h0,cond_false,<-e,CI hT hi,Q1,ai hi,Q1,(fg hb).1,Q1];exact cn.2 ⟨l1,l2⟩
theorem HS {ts:List Task} (hp:ts.Pairwise λa b=>a.id<b.id) {t:Task} (ht:t∈ts):∃pre post,ts=pre++t::post/\(∀u∈pre,u.id<t.id)/\(∀u∈post,t.id<u.id)/\(∀u∈pre,∀v∈post,u.id<v.id)/\(pre.Pairwise λa b=>a.id<b.id)/\post.Pairwise λa b=>a.id<b.id:=by
 obtain⟨pre,post,rfl⟩:=List.append_of_mem ht;rw[List.pairwise_append,Td]at hp;obtain⟨h1,⟨h2,h3⟩,h4⟩:=hp;exact⟨pre,post,rfl,λu hu=>h4 u hu t (by simp),h2,λu hu v hv=>h4 u hu v (by simp[hv]),h1,h3⟩
theorem Jw {pre post:List Task} {t:Task} (h:∀u∈pre,u.id≠t.id):((pre++t::post).findIdx? λu=>u.id==t.id)=some pre.length:=by
 rw[List.findIdx?_append]
 have h1:(pre.findIdx? λu=>u.id==t.id)=none:=by
  rw[Sr];intro u hu;simpa using h u hu
 rw[h1,Tc];simp
theorem LJ {pre post:List Task} {t:Task} {id:Int} (h1:∀u∈pre,u.id≠id) (h2:∀u∈post,u.id≠id) (ht:t.id=id):JH (pre++t::post) id=pre++post:=by
 unfold JH;rw[SI,Sv]
 have e1:pre.filter (λu=>!(u.id==id))=pre:=R8.2 λu hu=>by simpa using h1 u hu
 have e2:post.filter (λu=>!(u.id==id))=post:=R8.2 λu hu=>by simpa using h2 u hu
 rw[e1,e2,ht];simp
def p8 (t:Task):Task:=⟨t.id,t.ar,t.at_+1,t.due,t.born⟩
theorem Be {s:aj} {pre post:List Task} {t:Task} {L tr:Int} (e:s.tasks=pre++t::post) (h1:∀u∈pre,u.id≠t.id) (h2:∀u∈post,u.id≠t.id):
  tQ s t.id L tr=if L-1>0 then(⟨s.now+1,s.ag,s.age,s.tasks,t.id,L-1,tr,s.next⟩,0,false)else
   if t.at_+1<t.ar.length then(⟨s.now+1,s.ag,s.age,pre++p8 t::post,0,L-1,tr,s.next⟩,t.id,false)
   else(⟨s.now+1,s.ag,s.age,pre++post,0,L-1,tr,s.next⟩,t.id,true):=by
 unfold tQ
 have hf:(s.tasks.findIdx? λu=>u.id==t.id)=some pre.length:=by rw[e];exact Jw h1
 have hg:s.tasks[pre.length]? =some t:=by rw[e];simp
 have hset:s.tasks.set pre.length (p8 t)=pre++p8 t::post:=by rw[e];simp
 rw[ab,hf,Q1,hg,Q1,ab];show(if L-1>0 then _ else if t.at_+1<(t.ar.length:Int)then(⟨s.now+1,s.ag,s.age,s.tasks.set pre.length (p8 t),0,L-1,tr,s.next⟩,t.id,false)else(⟨s.now+1,s.ag,s.age,JH (s.tasks.set pre.length (p8 t)) t.id,0,L-1,tr,s.next⟩,t.id,true):aj× Int× Bool)=_;rw[hset,LJ (t:=p8 t) h1 h2 rfl]
structure QP (s:aj) (t:Task) (L tr:Int):Prop where
 mem:t∈s.tasks
 lo:1<=L
 hi:L<=ff t
 rem:∀u∈s.tasks,dV s u=cond (t.id==u.id) (gw u-ff u+L) (gw u)
 trn:0<=tr/\tr<=1000000
 eq:hJ s false=tQ s t.id L tr
theorem P5 {s:aj} (h:SOk s) {t u:Task} (ht:t∈s.tasks) (hu:u∈s.tasks) (e:t.id=u.id):t=u:=by
 obtain⟨i,hi,rfl⟩:=Rz.1 ht;obtain⟨j,hj,rfl⟩:=Rz.1 hu;have:=LB (zg h) hi hj e;subst this;rfl
theorem Bf {key:Task->Int} {xs:List Task} (h:EL key xs=none):xs=[]:=by
 cases xs with
 |nil=>rfl
 |cons x l=>exact nomatch h
theorem LK {s:aj} (h:SOk s) (hp:kg s=0):s.tasks=[]:=by
 have hT:=zg h
 have hl:zK s=none:=by
  cases hl:zK s with
  |none=>rfl
  |some t=>
   have h1:=LH hT hl
   cases he:nD s with
   |none=>
    unfold kg at hp;rw[hl,he]at hp;simp only[SJ,RW,Ro,Bool.true_or,Q6,cond_true,Q1]at hp
    omega
   |some e=>
    have h2:=wG hT he;unfold kg at hp;rw[hl,he]at hp;simp only[SJ,Q3,Tr,Q6,Q1]at hp;cases hc:(decide (s.age>0)&&(s.turns.tmod s.age==0))<;>rw[hc]at hp
    ·simp only[cond_false]at hp;omega
    ·simp only[cond_true]at hp;omega
 have he:nD s=none:=by
  cases he:nD s with
  |none=>rfl
  |some e=>
   have h2:=wG hT he;unfold kg at hp;rw[hl,he]at hp;simp only[RW,RP,cond_false,Q1]at hp;omega
 have f1:=Bf hl;have f2:=Bf he
 cases ht:s.tasks with
 |nil=>rfl
 |cons x l=>
  have hx:x∈s.tasks:=by rw[ht];simp
  cases hq:dY s x
  ·have:x∈s.tasks.filter λt=>!dY s t:=RM.2 ⟨hx,by rw[hq];rfl⟩;rw[f2]at this;exact nomatch this
  ·have:x∈s.tasks.filter (dY s):=RM.2 ⟨hx,hq⟩;rw[f1]at this;exact nomatch this
theorem ER {s:aj} (h:SOk s) (hn:s.now≠1000000):
  (s.tasks=[]/\s.run=0/\s.left=0/\hJ s false=(⟨s.now+1,s.ag,s.age,s.tasks,s.run,s.left,s.turns,s.next⟩,0,false))\/∃t L tr,QP s t L tr/\(s.run=t.id\/(s.run=0/\kg s=t.id)):=by
 have hb:=wH h
 have hnow:(bu s&&!(s.now==1000000))=true:=by rw[hb];simpa using hn
 rcases h.run with⟨h1,h2⟩|⟨t,ht,e,l1,l2⟩
 ·by_cases hp:kg s=0
  ·left;refine⟨LK h hp,h1,h2,?_⟩;unfold hJ;rw[hnow,h1,hp];rfl
  ·right;obtain⟨i,hi,hf,hid⟩:=ze hb hp;have ht:=Q7 hi;have hc:=fg (h.task _ ht).1;refine⟨s.tasks[i],ff s.tasks[i],cond (decide (s.turns+1>1000000)) 0 (s.turns+1),⟨ht,hc.2.1,Int.le_refl _,λu hu=>?_,?_,?_⟩,.inr ⟨h1,hid.symm⟩⟩
   ·have hu0:=(cf (h.task u hu).1).1
    have:(s.run==u.id)=false:=by rw[h1];simp;omega
    unfold dV;rw[this,cond_false];cases hq:s.tasks[i].id==u.id
    ·rfl
    ·have:=P5 h ht hu (by simpa using hq);rw[cond_true,this];omega
   ·have:=h.turns;rw[ab];split<;>omega
   ·have hp':(kg s==0)=false:=by simpa using hp
    unfold hJ;rw[hnow,h1,hp',hf];simp only[cond_true,cond_false,Q1];rw[ai hi,Q1,hid];rfl
 ·right;have ht0:=(cf (h.task t ht).1).1;refine⟨t,s.left,s.turns,⟨ht,l1,l2,λu hu=>?_,h.turns,?_⟩,.inl e.symm⟩
  ·unfold dV;rw[e]
  ·have:(s.run==0)=false:=by rw[<-e];simp;omega
   unfold hJ;rw[hnow,this,e];rfl
def O5 (p:Int->Bool) (s:aj):Int:=(s.tasks.map λt=>cond (p t.due) (dV s t) 0).sum
theorem ES {t:Task} (h:im t=true):gw (p8 t)=gw t-ff t:=by
 have ht:=cf h
 have hlt:t.at_.toNat<t.ar.length:=by omega
 have e:idx t.ar t.at_=some t.ar[t.at_.toNat]:=by rw[rN _ ht.2.2.1.1];exact ai hlt
 have hc:ff t=t.ar[t.at_.toNat]:=by unfold ff;rw[e];rfl
 unfold gw p8
 have e2:(t.at_+1).toNat=t.at_.toNat+1:=by omega
 simp only;rw[e2,gF hlt,Sy,hc];omega
theorem LM {t:Task} (h:im t=true) (hl:¬t.at_+1<t.ar.length):gw t-ff t=0:=by
 rw[<-ES h];unfold gw p8;simp only;rw[List.drop_eq_nil_of_le (by omega)];rfl
structure P6 (s:aj) (t:Task) (r:aj× Int× Bool):Prop where
 ok:SOk r.1
 now:r.1.now=s.now+1
 ag:r.1.ag=s.ag
 age:r.1.age=s.age
 next:r.1.next=s.next
 sum:∀p:Int->Bool,O5 p r.1=O5 p s-cond (p t.due) 1 0
 from_:∀u∈r.1.tasks,∃v∈s.tasks,v.id=u.id/\v.due=u.due
 told:(r.2.1=0/\r.2.2=false/\r.1.run=t.id/\r.1.tasks=s.tasks)\/(r.2.1=t.id/\r.1.run=0/\r.1.left=0)
 goes:r.2.2=true->r.2.1=t.id/\∀u∈r.1.tasks,u.id≠t.id
theorem worked {s:aj} {t:Task} {L tr:Int} (h:SOk s) (hn:s.now≠1000000) (T:QP s t L tr):P6 s t (hJ s false):=by
  obtain⟨pre,post,e,h1,h2,h3,h4,h5⟩:=HS h.ids T.mem;have hb:=(h.task t T.mem).1;have htb:=cf hb
  have n1:∀u∈pre,u.id≠t.id:=λu hu=>by have:=h1 u hu;omega
  have n2:∀u∈post,u.id≠t.id:=λu hu=>by have:=h2 u hu;omega
  have m1:∀u∈pre,u∈s.tasks:=λu hu=>by rw[e];simp[hu]
  have m2:∀u∈post,u∈s.tasks:=λu hu=>by rw[e];simp[hu]
  have hlen:=h.len;rw[e,Q5,Q4]at hlen;have hnow:=h.now
  have part:∀(p:Int->Bool) (s':aj) (l:List Task),(∀u∈l,u∈s.tasks/\u.id≠t.id)->(∀u∈l,s'.run≠u.id)->(l.map λu=>cond (p u.due) (dV s' u) 0)=l.map λu=>cond (p u.due) (dV s u) 0:=λp s' l hl hr=>List.map_congr_left λu hu=>by
    have r1:dV s' u=gw u:=by unfold dV;rw[show(s'.run==u.id)=false by simpa using hr u hu];rfl
    have r2:dV s u=gw u:=by rw[T.rem u (hl u hu).1,show(t.id==u.id)=false by simpa usingλq=>(hl u hu).2 q.symm];rfl
    rw[r1,r2]
  have q1:∀u∈pre,u∈s.tasks/\u.id≠t.id:=λu hu=>⟨m1 u hu,n1 u hu⟩;have q2:∀u∈post,u∈s.tasks/\u.id≠t.id:=λu hu=>⟨m2 u hu,n2 u hu⟩
  have z1:∀u∈s.tasks,(0:Int)≠u.id:=λu hu=>by have:=(cf (h.task u hu).1).1;omega
  have rt:dV s t=gw t-ff t+L:=by rw[T.rem t T.mem];simp
  have old:∀p:Int->Bool,O5 p s=(pre.map λu=>cond (p u.due) (dV s u) 0).sum+(cond (p t.due) (gw t-ff t+L) 0+(post.map λu=>cond (p u.due) (dV s u) 0).sum):=λp=>by
    unfold O5;rw[<-rt];conv=>lhs;rw[e,R2,SM,RB,Sy]
  rw[T.eq,Be e n1 n2];have hlo:=T.lo;by_cases c1:L-1>0
  · rw[if_pos c1];refine⟨⟨by simp only;omega,h.ag,h.age,h.len,T.trn,h.next,λu hu=>?_,h.ids,.inr ⟨t,T.mem,rfl,?_⟩⟩,rfl,rfl,rfl,rfl,λp=>?_,λu hu=>⟨u,hu,rfl,rfl⟩,.inl ⟨rfl,rfl,rfl,rfl⟩,λhg=>nomatch hg⟩
    · have:=h.task u hu;exact⟨this.1,this.2.1,by simp only;omega⟩
    · have:=T.hi;simp only;omega
    · rw[old p];unfold O5;simp only
      conv=>lhs;rw[show List.map (λu:Task=>cond (p u.due) (dV ⟨s.now+1,s.ag,s.age,s.tasks,t.id,L-1,tr,s.next⟩ u) 0) s.tasks=List.map (λu:Task=>cond (p u.due) (dV ⟨s.now+1,s.ag,s.age,s.tasks,t.id,L-1,tr,s.next⟩ u) 0) (pre++t::post)from by rw[<-e],R2,SM,RB,Sy]
      rw[part p _ pre q1 (λu hu=>(n1 u hu).symm),part p _ post q2 (λu hu=>(n2 u hu).symm)]
      have:dV ⟨s.now+1,s.ag,s.age,s.tasks,t.id,L-1,tr,s.next⟩ t=gw t-ff t+(L-1):=by unfold dV;simp
      rw[this];cases p t.due<;>simp only[cond_true,cond_false]<;>omega
  · have hL:L=1:=by omega
    subst hL;rw[if_neg c1];by_cases c2:t.at_+1<t.ar.length
    · rw [if_pos c2]
      have hnb:im (p8 t)=true:=by
        unfold im inB p8;unfold im inB at hb;simp only[QX,decide_eq_true_eq]at hb⊢;exact⟨hb.1,hb.2.1,⟨by omega,by omega⟩,hb.2.2.2.1,hb.2.2.2.2.1,hb.2.2.2.2.2⟩
      refine⟨⟨by simp only;omega,h.ag,h.age,by simp only[Q5,Q4];omega,T.trn,h.next,λu hu=>?_,?_,.inl ⟨rfl,rfl⟩⟩,rfl,rfl,rfl,rfl,λp=>?_,λu hu=>?_,.inr ⟨rfl,rfl,rfl⟩,λhg=>nomatch hg⟩
      · simp only at hu⊢
        rcases Sg.1 hu with hu|hu
        · have:=h.task u (m1 u hu);exact⟨this.1,this.2.1,by omega⟩
        · rcases Rk.1 hu with rfl|hu
          · have:=h.task t T.mem;exact⟨hnb,this.2.1,by show t.born<=_;omega⟩
          · have:=h.task u (m2 u hu);exact⟨this.1,this.2.1,by omega⟩
      · simp only;rw[List.pairwise_append,Td];refine⟨h4,⟨h2,h5⟩,λu hu v hv=>?_⟩
        rcases Rk.1 hv with rfl|hv
        · exact h1 u hu
        · exact h3 u hu v hv
      · rw[old p];unfold O5;simp only;rw[R2,SM,RB,Sy];rw[part p _ pre q1 (λu hu=>z1 u (m1 u hu)),part p _ post q2 (λu hu=>z1 u (m2 u hu))];have hd:(p8 t).due=t.due:=rfl
        have:dV ⟨s.now+1,s.ag,s.age,pre++p8 t::post,0,1-1,tr,s.next⟩ (p8 t)=gw t-ff t:=by
          unfold dV;rw[show((0:Int)==(p8 t).id)=false by show((0:Int)==t.id)=false;simp;omega,cond_false,ES hb]
        rw[this,hd];cases p t.due<;>simp only[cond_true,cond_false]<;>omega
      · simp only at hu
        rcases Sg.1 hu with hu|hu
        · exact⟨u,m1 u hu,rfl,rfl⟩
        · rcases Rk.1 hu with rfl|hu
          · exact⟨t,T.mem,rfl,rfl⟩
          · exact⟨u,m2 u hu,rfl,rfl⟩
    · rw[if_neg c2];have hr:=LM hb c2;refine⟨⟨by simp only;omega,h.ag,h.age,by simp only[Q5];omega,T.trn,h.next,λu hu=>?_,?_,.inl ⟨rfl,rfl⟩⟩,rfl,rfl,rfl,rfl,λp=>?_,λu hu=>?_,.inr ⟨rfl,rfl,rfl⟩,λ_=>⟨rfl,λu hu=>?_⟩⟩
      · simp only at hu⊢
        rcases Sg.1 hu with hu|hu
        · have:=h.task u (m1 u hu);exact⟨this.1,this.2.1,by omega⟩
        · have:=h.task u (m2 u hu);exact⟨this.1,this.2.1,by omega⟩
      · simp only;rw[List.pairwise_append];exact⟨h4,h5,h3⟩
      · rw[old p];unfold O5;simp only;rw[R2,SM];rw[part p _ pre q1 (λu hu=>z1 u (m1 u hu)),part p _ post q2 (λu hu=>z1 u (m2 u hu)),hr];cases p t.due<;>simp only[cond_true,cond_false]<;>omega
      · simp only at hu
        rcases Sg.1 hu with hu|hu
        · exact⟨u,m1 u hu,rfl,rfl⟩
        · exact⟨u,m2 u hu,rfl,rfl⟩
      · simp only at hu
        rcases Sg.1 hu with hu|hu
        · exact n1 u hu
        · exact n2 u hu
theorem vH {s:aj} (h:SOk s) (hn:s.now≠1000000):hJ s true=(⟨s.now+1,s.ag,s.age,s.tasks,s.run,s.left,s.turns,s.next⟩,0,false):=by
 have hnow:(bu s&&!(s.now==1000000))=true:=by rw[wH h];simpa using hn
 unfold hJ;rw[hnow];rfl
theorem wI {s:aj} (hn:s.now=1000000) (st:Bool):hJ s st=(s,0,false):=by
 unfold hJ;rw[hn];simp
theorem HT {s:aj} (h:SOk s) (hn:s.now≠1000000):SOk ⟨s.now+1,s.ag,s.age,s.tasks,s.run,s.left,s.turns,s.next⟩:=by
 have:=h.now;exact⟨by simp only;omega,h.ag,h.age,h.len,h.turns,h.next,λu hu=>by have:=h.task u hu;exact⟨this.1,this.2.1,by simp only;omega⟩,h.ids,h.run⟩
theorem O6 {s:aj} (h:SOk s) (st:Bool):SOk (hJ s st).1:=by
 by_cases hn:s.now=1000000
 ·rw[wI hn];exact h
 cases st
 ·rcases ER h hn with⟨_,_,_,e⟩|⟨t,L,tr,T,_⟩
  ·rw[e];exact HT h hn
  ·exact(worked h hn T).ok
 ·rw[vH h hn];exact HT h hn
theorem LN {s:aj} (h:SOk s) (id:Int):SOk (p6 s id).1:=by
 unfold p6;cases hc:(bu s&&decide (0<=ka s.tasks id))
 ·exact h
 rw[cond_true]
 have hm:∀u∈JH s.tasks id,u∈s.tasks/\u.id≠id:=λu hu=>by
  have:=RM.1 hu;exact⟨this.1,by simpa using this.2⟩
 refine⟨h.now,h.ag,h.age,Se (Ss _ _) h.len,h.turns,h.next,λu hu=>h.task u (hm u hu).1,h.ids.filter _,?_⟩;cases hr:s.run==id
 ·simp only[cond_false]
  rcases h.run with h1|⟨t,ht,e,l⟩
  ·exact .inl h1
  ·refine .inr ⟨t,RM.2 ⟨ht,?_⟩,e,l⟩;rw[e,hr];rfl
 ·exact .inl ⟨rfl,rfl⟩
theorem Nr {s:aj} (h:SOk s) (ar:List Int) (due:Int):SOk (fL s ar due).1:=by
 rcases zf s ar due with⟨_,_,_,g,_⟩|⟨_,_,g⟩
 ·unfold yX at g;exact NV (SA.1 g).1
 ·rw[g];exact h
end
set_option maxRecDepth 100000
section
end
set_option maxRecDepth 100000
set_option maxHeartbeats 4000000
section
theorem Jx {b:List Int} (h:(eH b).2=0):ey (eH b).1=true:=by
  unfold eH at h⊢;by_cases c:(b.length:Int)>6000
  · rw[decide_eq_true c]at h;exact absurd (show(5:Int)=0 from h) (by decide)
  rw[decide_eq_false c]at h⊢;simp only[cond_false]at h⊢;cases c1:decide (b.take 3=[80,77,49])
  · rw[c1]at h;exact absurd (show(1:Int)=0 from h) (by decide)
  rw[c1]at h;simp only[Q3,cond_false]at h⊢;generalize aV b 3 false=r2 at h⊢;generalize aV b r2.2.1 r2.2.2=r3 at h⊢;generalize aV b r3.2.1 r3.2.2=r4 at h⊢;generalize b9 b r4.2.1 r4.2.2 2000=r5 at h⊢;generalize pT b r5.1.toNat r5.2.1 r5.2.2 []=y at h⊢;generalize aV b y.1 y.2.1=r6 at h⊢;cases c2:r6.2.2
  · rw [c2] at h;simp only[cond_false]at h⊢;cases c3:(r6.1 !=Gu ((b.take y.1.toNat).drop 0))
    · rw[c3]at h;simp only[cond_false]at h⊢;cases c4:(r6.2.1 !=(b.length:Int))
      · rw[c4]at h;simp only[cond_false]at h⊢;cases c5:ey ⟨⟨r2.1,r3.1,r4.1⟩,y.2.2⟩
        · rw[c5]at h;exact absurd (show(4:Int)=0 from h) (by decide)
        · simp only[Q3,cond_false];exact c5
      · rw[c4]at h;exact absurd (show(3:Int)=0 from h) (by decide)
    · rw[c3]at h;exact absurd (show(3:Int)=0 from h) (by decide)
  · rw[c2]at h;exact absurd (show(2:Int)=0 from h) (by decide)
theorem sb (b:List Int):(eH b).1.tot<=8002000:=by
  have h0:dt.tot=0:=rfl;unfold eH;generalize aV b 3 false=r2;simp only;generalize aV b r2.2.1 r2.2.2=r3;generalize aV b r3.2.1 r3.2.2=r4;have hc:=qR b r4.2.1 r4.2.2;generalize b9 b r4.2.1 r4.2.2 2000=r5 at hc;have ht:=qS b r5.1.toNat r5.2.1 r5.2.2 [];rw[show fJ av.tot []=0 from rfl]at ht;generalize pT b r5.1.toNat r5.2.1 r5.2.2 []=y at ht;generalize aV b y.1 y.2.1=r6
  have hy:(⟨⟨r2.1,r3.1,r4.1⟩,y.2.2⟩:Model).tot<=8002000:=by show fJ av.tot y.2.2+0<=_;omega
  cases decide ((b.length:Int)>6000)<;>simp only[cond_true,cond_false]
  · cases (!decide (b.take 3 = [80, 77, 49])) <;> simp only [cond_true, cond_false]
    · cases r6.2.2<;>simp only[cond_true,cond_false]
      · cases(r6.1 !=Gu ((b.take y.1.toNat).drop 0))<;>simp only[cond_true,cond_false]
        · cases(r6.2.1 !=(b.length:Int))<;>simp only[cond_true,cond_false]
          · generalize (!ey _)=q;cases q<;>simp only[cond_true,cond_false]
            · exact hy
            · omega
          · omega
        · omega
      · omega
    · omega
  · omega
def tI (m:Model):Bool:=(bC m).all λc=>decide (c<=1000)
theorem CS {k:Nat} {m:Model} (hk:m.tot<k) (hN:m.tot<=aU):qM k m=some (tI m&&ey m):=by
 have hM:=ao;have hc:=jo m;have hl:=bw av.tot m.aB;have ht:m.tot=fJ av.tot m.aB+0:=rfl;unfold qM tI;rw[j7 hk hN,aa,vx hk hN]
 rw[ky (bC m) (λc=>decide (c<=1000)) (no:=some false) (yes:=some (ey m)) (λi hi next=>by
  unfold kM;simp only;rw[decide_eq_true (by omega),cond_true,decide_eq_true (by omega),cond_true,QY,ai hi,aa,au hi (by omega)];by_cases c:(bC m)[i]<=1000
  ·rw[decide_eq_false (by omega),decide_eq_true c];rfl
  ·rw[decide_eq_true (by omega),decide_eq_false c];rfl) (λnext=>by
  unfold kM;simp only
  rw[decide_eq_false (by omega)];rfl) (by omega)]
 cases(bC m).all λc=>decide (c<=1000)<;>rfl
theorem ET {k:Nat} {m:Model} (hk:m.tot+1<k) (hN:m.tot<aU):tq k m=some (tI m):=by
 have hM:=ao;have hc:=jo m;have hl:=bw av.tot m.aB;have ht:m.tot=fJ av.tot m.aB+0:=rfl;unfold tq tI bf bD;rw[j8 hk hN,aa]
 rw[eR (bC m) (λx=>decide (x>1000)) (λi hi next=>by
  simp only[aL,ab,pM,aa]
  rw[if_pos (by omega),aD,ai hi,aa,au hi (by omega)]) (λnext=>by
  simp only[aL,ab];rw[if_neg (by omega)]) (by omega)]
 rw[cS];simp only[aa,nw];rw[SC,Ti]
 congr 2
 funext c
 rw[<-decide_not]
 congr 1
 exact propext Int.not_lt
def zi:aA:=⟨⟨0,0,0⟩,[]⟩
def dG (kind code:Int):List Event:=[⟨5,kind,code,zi⟩]
def JI (r:Runtime) (a:Int):Bool:=inB a 0 3&&r.al.getD a.toNat false
def uZ (r:Runtime) (x:Step):List Event× List Model× List Bool:=
 cond (inB x.a 0 3&&!r.al.getD x.a.toNat false) (cond (decide ((eH x.data).2=0)&&tI (eH x.data).1) ([⟨0,x.a,xV (eH x.data).1,zi⟩],r.ak.set x.a.toNat (eH x.data).1,r.al.set x.a.toNat true) (dG x.kind 2,r.ak,r.al)) (dG x.kind 1,r.ak,r.al)
section
variable {k:Nat} {r:Runtime} {x:Step} (hk:9000000<=k) (hb:∀y∈x.data,okB y) (hl:x.data.length<=aU) (hlo:r.al.length=4) (hmo:r.ak.length=4)
include hk hb hl hlo hmo
theorem LO:lJ k r x=some (uZ r x):=by
 have hM:=ao;have hd:=sb x.data;unfold lJ uZ bE;rw[cw,aa];cases c1:inB x.a 0 3
 ·simp only[Ro,cond_true,aa,decide_true,RP,cond_false];rfl
 have c1':=of_decide_eq_true c1
 have hi:x.a.toNat<r.al.length:=by omega
 simp only[Q3,cond_false,Q6];rw[decide_eq_true (by omega),cond_true,ai hi,aa,b8 hi];cases c2:r.al[x.a.toNat]
 ·simp only[cond_false,Ro,cond_true];rw[vT hk hb hl,aa,ny];by_cases c3:(eH x.data).2=0
  ·rw[decide_eq_true c3];simp only[cond_true,Q6];rw[CS (by omega) (by omega),aa,Jx c3,S8];cases tI (eH x.data).1
   ·simp only[Ro,cond_true,aa,decide_true,cond_false];rfl
   ·simp only[Q3,cond_false,cond_true];rw[decide_eq_true (by omega),cond_true,zI (by omega) (by omega),aa];simp only[decide_true,cond_true];rfl
  ·rw[decide_eq_false c3];simp only[cond_true,aa,decide_true,RP,cond_false];rfl
 ·simp only[cond_true,aa,decide_true,Q3,cond_false];rfl
theorem LQ:fa k r x=some (uZ r x):=by
 have hM:=ao;have hd:=sb x.data;unfold fa uZ dE;rw[fw,aa];cases c1:inB x.a 0 3
 ·simp only[Ro,cond_true,aa,decide_true,RP,cond_false];rfl
 have c1':=of_decide_eq_true c1
 have hi:x.a.toNat<r.al.length:=by omega
 simp only[Q3,cond_false,Q6];rw[decide_eq_true (by omega),cond_true,ai hi,aa,b8 hi];cases c2:r.al[x.a.toNat]
 ·simp only[cond_false,Ro,cond_true];rw[vU hk hb hl,aa,ny];by_cases c3:(eH x.data).2=0
  ·rw[decide_eq_true c3];simp only[cond_true,Q6];rw[ET (by omega) (by omega),aa];cases tI (eH x.data).1
   ·simp only[Ro,cond_true,aa,decide_true,cond_false];rfl
   ·simp only[Q3,cond_false,cond_true];rw[decide_eq_true (by omega),cond_true,zJ (by omega) (by omega),aa];simp only[decide_true,cond_true];rfl
  ·rw[decide_eq_false c3];simp only[cond_true,aa,decide_true,RP,cond_false];rfl
 ·simp only[cond_true,aa,decide_true,Q3,cond_false];rfl
end
theorem tJ {k:Nat} {r:Runtime} {a:Int} (hlo:r.al.length=4):eu k r a=some (JI r a):=by
 unfold eu JI;rw[fw,aa];cases c:inB a 0 3
 ·rfl
 have c':=of_decide_eq_true c;simp only[cond_true,Q6];rw[rN _ (by omega),ai (show a.toNat<r.al.length by omega),b8 (show a.toNat<r.al.length by omega)];rfl
end
set_option maxRecDepth 100000
set_option maxHeartbeats 4000000
section
def tK (rs:List Request) (id:Int):Int:=(rs.findIdx? λq=>q.id==id).elim (-1) λi=>(i:Int)
def wJ (rs:List Request) (id:Int):List Request:=rs.filter λq=>!(q.id==id)
section
variable {k:Nat} {rs:List Request} {id:Int} (hk:rs.length<k) (hN:rs.length<=aU)
include hk hN
theorem zj:bA k rs id=some (tK rs id):=by
 have hM:=ao;unfold bA tK
 rw[eR rs (λt=>t.id==id) (yes:=some (-1)) (no:=some) (λi hi next=>by
  simp only[bc,gz,decide_true,cond_true,aa]
  rw[ab,if_pos (by omega),ab,if_pos (by omega),QY,ai hi,aa,au hi (by omega)]) (λnext=>by
  simp only[bc,decide_true,cond_true];rw[ab,if_neg (by omega)]) hk]
 exact cS _
theorem zk:bB k rs id=some (tK rs id):=by
 have hM:=ao;unfold bB tK
 rw[eR rs (λt=>t.id==id) (yes:=some (-1)) (no:=some) (λi hi next=>by
  simp only[bd,gW,decide_true,cond_true,aa]
  rw[ab,if_pos (by omega),aD,ai hi,aa,au hi (by omega)]) (λnext=>by
  simp only[bd,decide_true,cond_true];rw[ab,if_neg (by omega)]) hk]
 exact cS _
theorem zl:bn k rs id=some (wJ rs id):=by
  have hM:=ao;unfold bn wJ;rw[zj hk hN,aa];unfold tK
  cases hf:rs.findIdx? λz=>z.id==id with
  | none =>
    rw[SF,filter_none hf]
    simp
  | some i =>
    obtain⟨hi,hfi⟩:=mC hf;rw[Q1,bJ,if_neg (by omega),au hi (by omega)]
    obtain⟨i',ys',h1,h2,h3,h4⟩:=jr rs (λz=>z.id==id) (R:=List Request) (g:=(λu5 n5=>aQ k id u5 n5 (λy4=>cond (decide (0<=y4.1/\y4.1<=(y4.2.length:Int))) (cond (decide (0<=y4.1/\y4.1<=(((y4.2).take y4.1.toNat++List.replicate (y4.2.length-y4.1.toNat) (⟨(0:Int),(0:Int),(⟨(⟨(⟨(0:Int),(0:Int),(0:Int)⟩:Shape),([]:List av)⟩:Model),(0:Int),(⟨(⟨(0:Int),(0:Int),(0:Int)⟩:Shape),([]:List Int)⟩:aA),(0:Int)⟩:Job),(0:Int)⟩:Request)++(y4.2).drop (y4.1.toNat+(y4.2.length-y4.1.toNat))).length:Int))) (cond (decide (id=id)) (some (((y4.2).take y4.1.toNat++List.replicate (y4.2.length-y4.1.toNat) (⟨(0:Int),(0:Int),(⟨(⟨(⟨(0:Int),(0:Int),(0:Int)⟩:Shape),([]:List av)⟩:Model),(0:Int),(⟨(⟨(0:Int),(0:Int),(0:Int)⟩:Shape),([]:List Int)⟩:aA),(0:Int)⟩:Job),(0:Int)⟩:Request)++(y4.2).drop (y4.1.toNat+(y4.2.length-y4.1.toNat))).take (y4.1.toNat-0))) none) none) none)))
      (fin:=(λy4=>cond (decide (0<=y4.1/\y4.1<=(y4.2.length:Int))) (cond (decide (0<=y4.1/\y4.1<=(((y4.2).take y4.1.toNat++List.replicate (y4.2.length-y4.1.toNat) (⟨(0:Int),(0:Int),(⟨(⟨(⟨(0:Int),(0:Int),(0:Int)⟩:Shape),([]:List av)⟩:Model),(0:Int),(⟨(⟨(0:Int),(0:Int),(0:Int)⟩:Shape),([]:List Int)⟩:aA),(0:Int)⟩:Job),(0:Int)⟩:Request)++(y4.2).drop (y4.1.toNat+(y4.2.length-y4.1.toNat))).length:Int))) (cond (decide (id=id)) (some (((y4.2).take y4.1.toNat++List.replicate (y4.2.length-y4.1.toNat) (⟨(0:Int),(0:Int),(⟨(⟨(⟨(0:Int),(0:Int),(0:Int)⟩:Shape),([]:List av)⟩:Model),(0:Int),(⟨(⟨(0:Int),(0:Int),(0:Int)⟩:Shape),([]:List Int)⟩:aA),(0:Int)⟩:Job),(0:Int)⟩:Request)++(y4.2).drop (y4.1.toNat+(y4.2.length-y4.1.toNat))).take (y4.1.toNat-0))) none) none) none))
      (λi j ys hj next hij hl hg=>by
        simp only[aQ,fT,decide_true,cond_true,aa,hl]
        rw[ab,if_pos (by omega),ab,if_pos (by omega),QY,hg,aa,cond_not,ab,if_pos (by omega),au hj (by omega),au (show i<rs.length by omega) (by omega),QY])
      (λi ys next hl=>by simp only[aQ,hl];rw[ab,if_neg (by omega)])
      (rs.length-(i+1)) i (i+1) rs k (by omega) (by omega) (by omega) rfl rfl hfi
    refine h4.trans ?_;obtain⟨c1,c2⟩:=qW (⟨(0:Int),(0:Int),(⟨(⟨(⟨(0:Int),(0:Int),(0:Int)⟩:Shape),([]:List av)⟩:Model),(0:Int),(⟨(⟨(0:Int),(0:Int),(0:Int)⟩:Shape),([]:List Int)⟩:aA),(0:Int)⟩:Job),(0:Int)⟩:Request) h1 h2;simp only[QY,h2,decide_true,cond_true];rw[c2,c1,ab,if_pos (by omega),ab,if_pos (by omega),h3]
end
theorem va {k:Nat} {r:Runtime} {id:Int} (hk:r.ae.length<k) (hN:r.ae.length<=aU):gM k r id=some (tK r.ae id):=by
 unfold gM;rw[zk hk hN];rfl
theorem qX {k:Nat} {r:Runtime} {id:Int} (hk:r.ae.length<k) (hN:r.ae.length<=aU):uN k r id=some (tK r.ae id):=by
 have hM:=ao;unfold uN tK
 rw[eR r.ae (λt=>t.id==id) (yes:=some (-1)) (no:=some) (λi hi next=>by
  simp only[qN]
  rw[ab,if_pos (by omega),aD,ai hi,aa,au hi (by omega)]) (λnext=>by
  simp only[qN];rw[ab,if_neg (by omega)]) hk]
 exact cS _
def vI (s:aj) (id:Int):aj:=⟨s.now,s.ag,s.age,JH s.tasks id,cond (s.run==id) 0 s.run,cond (s.run==id) 0 s.left,s.turns,s.next⟩
theorem vb {s:aj} (h:SOk s) {id:Int} (hid:1<=id):(p6 s id).1=vI s id:=by
 unfold p6;rw[wH h,Q6];by_cases c:0<=ka s.tasks id
 ·rw[decide_eq_true c];rfl
 rw[decide_eq_false c,cond_false]
 have hn:∀t∈s.tasks,t.id≠id:=λt ht e=>by
  unfold ka at c
  cases hf:s.tasks.findIdx? λt=>t.id==id with
  |none=>rw[Sr]at hf;have:=hf t ht;simp[e]at this
  |some i=>rw[hf,Q1]at c;omega
 have ht:JH s.tasks id=s.tasks:=R8.2 λt ht=>by simpa using hn t ht
 have hr:(s.run==id)=false:=by
  rcases h.run with⟨h1,_⟩|⟨t,g1,g2,_⟩
  ·rw[h1];simp;omega
  ·rw[<-g2];simpa using hn t g1
 unfold vI;rw[ht,hr];rfl
def P7 (r:Runtime) (id:Int):Runtime:=⟨vI r.sched id,r.ak,r.al,wJ r.ae id⟩
section
variable {k:Nat} {r:Runtime} {id:Int} (hk:r.sched.tot+r.ae.length<k) (hN:r.sched.tot+r.ae.length<=aU)
include hk hN
theorem LR (h:SOk r.sched) (hid:1<=id):ow k r id=some (let s:=vI r.sched id;(s.now,s.ag,s.age,s.tasks,s.run,s.left,s.turns,s.next,wJ r.ae id)):=by
 have hM:=ao;unfold ow
 refine(lL r.ae (λq=>!(q.id==id)) (λq=>q) (g:=λu5 n5=>gL k (id,r.sched.now,r.sched.ag,r.sched.age,r.sched.run,r.sched.left,r.sched.turns,r.sched.next,r.ae,r.sched.tasks,r.ak,r.al) u5 n5 _) (fin:=_) (λi ys hi next hl=>by
  simp only[gL];rw[ab,if_pos (by omega),aD,ai hi,aa,aa,cy (by omega),au hi (by omega)]
  rfl) (λys next=>by
  simp only[gL];rw[ab,if_neg (by omega)]) (by omega)).trans ?_
 simp only[Tk,p7 (show r.sched.tot<k by omega) (show r.sched.tot<=aU by omega),aa,decide_true,cond_true];have:=vb h hid;rw[<-this];unfold p6 wJ;cases(bu r.sched&&decide (0<=ka r.sched.tasks id))<;>rfl
theorem Bg (h:SOk r.sched) (hid:1<=id):ie k r id=some (let s:=vI r.sched id;(s.now,s.ag,s.age,s.tasks,s.run,s.left,s.turns,s.next,wJ r.ae id)):=by
 have hM:=ao;unfold ie
 refine(lL r.ae (λq=>!(q.id==id)) (λq=>q) (g:=λu5 n5=>dT k (id,r.sched.now,r.sched.ag,r.sched.age,r.sched.run,r.sched.left,r.sched.turns,r.sched.next,r.sched.tasks,r.ak,r.al,r.ae) u5 n5 _) (fin:=_) (λi ys hi next hl=>by
  simp only[dT];rw[ab,if_pos (by omega),ab,if_pos (by omega),QY,ai hi,aa,ab,if_pos (by omega),aa,cy (by omega),au hi (by omega)]
  rfl) (λys next=>by
  simp only[dT];rw[ab,if_neg (by omega)]) (by omega)).trans ?_
 simp only[Tk,p7 (show r.sched.tot<k by omega) (show r.sched.tot<=aU by omega),aa,decide_true,cond_true];have:=vb h hid;rw[<-this];unfold p6 wJ;cases(bu r.sched&&decide (0<=ka r.sched.tasks id))<;>rfl
omit hk hN in
theorem Jy {zs:List bZ} {a b c d e f g:Int} {ms:List Model} {ls:List Bool} {rs:List Request} (hk:zs.length<k) (hN:zs.length<=aU):cI k a b c zs d e f g ms ls rs id=some (zs.filter λz=>!(z.id==id),cond (d==id) 0 d,cond (d==id) 0 e):=by
 unfold cI;rw[oS hk hN,aa];simp only[decide_true,cond_true];cases d==id<;>rfl
theorem EU:dL k r id=some (let s:=vI r.sched id;(⟨4,id,0,zi⟩,s.tasks,s.run,s.left,wJ r.ae id)):=by
 have hlen:=bw Task.tot r.sched.tasks;have hst:r.sched.tot=fJ Task.tot r.sched.tasks+0:=rfl;unfold dL;rw[qV,aa,Jy (by rw[ez];omega) (by rw[ez];omega),aa];simp only;rw[mB,cond_true,oH r.sched.tasks (λt=>!(t.id==id)) (λz=>!(z.id==id)) (λn t=>rfl),aa,zl (by omega) (by omega),aa];simp only[decide_true,cond_true];rfl
end
end
set_option maxRecDepth 100000
set_option maxHeartbeats 4000000
section
structure Ns (q:Request) (t:Task):Prop where
 id:q.id=t.id
 job:tP q.job=true
 at_:q.job.at_=t.at_
 ar:bC q.job.model=t.ar
 tot:q.job.model.tot<=8002000
inductive Lk:List Request->List Task->Prop
 |nil:Lk [] []
 |cons {q:Request} {t:Task} {qs:List Request} {ts:List Task}:Ns q t->Lk qs ts->Lk (q::qs) (t::ts)
theorem Lk.len:∀{qs:List Request} {ts:List Task},Lk qs ts->qs.length=ts.length
 |_,_,.nil=>rfl
 |_,_,.cons _ h=>by simp[h.len]
theorem Lk.off {id:Int}:∀{qs:List Request} {ts:List Task},Lk qs ts->Lk (wJ qs id) (JH ts id)
 |_,_,.nil=>.nil
 |_,_,.cons (q:=q) (t:=t) (qs:=qs) (ts:=ts) h g=>by
  have e:(q.id==id)=(t.id==id):=by rw[h.id]
  have:=g.off (id:=id);unfold wJ JH at this⊢;rw[Sv,Sv,e];cases(t.id==id)
  ·exact .cons h this
  ·exact this
theorem Lk.app {q:Request} {t:Task} (l:Ns q t):∀{qs:List Request} {ts:List Task},Lk qs ts->Lk (qs++[q]) (ts++[t])
 |_,_,.nil=>.cons l .nil
 |_,_,.cons h g=>.cons h (g.app l)
theorem Lk.get:∀{qs:List Request} {ts:List Task},Lk qs ts->∀{i:Nat} (h1:i<qs.length) (h2:i<ts.length),Ns qs[i] ts[i]
 |_,_,.nil,_,h,_=>absurd h (by simp)
 |_,_,.cons h _,0,_,_=>h
 |_,_,.cons _ g,i+1,h1,h2=>g.get (by simpa using h1) (by simpa using h2)
theorem Lk.set {q:Request} {t:Task} (l:Ns q t):∀{qs:List Request} {ts:List Task},Lk qs ts->∀(i:Nat),Lk (qs.set i q) (ts.set i t)
 |_,_,.nil,_=>.nil
 |_,_,.cons _ g,0=>.cons l g
 |_,_,.cons h g,i+1=>.cons h (g.set l i)
theorem Lk.ids {qs:List Request} {ts:List Task} (h:Lk qs ts):∀q∈qs,∃t∈ts,q.id=t.id:=by
 induction h with
 |nil=>exactλq hq=>nomatch hq
 |cons l _ ih=>
  intro q hq
  rcases Rk.1 hq with rfl|hq
  ·exact⟨_,Rr,l.id⟩
  ·obtain⟨t,h1,h2⟩:=ih q hq;exact⟨t,Rh _ h1,h2⟩
structure qY (r:Runtime):Prop where
 s:SOk r.sched
 ml:r.ak.length=4
 ll:r.al.length=4
 mod:∀m∈r.ak,m.tot<=8002000
 req:Lk r.ae r.sched.tasks
theorem qY.NW {r:Runtime} (h:qY r):r.ae.length<=12:=by rw[h.req.len];exact h.s.len
theorem HU {t:Task} (h:im t=true):t.tot<=6:=by
 have:=(cf h).2.1.2;unfold Task.tot;omega
theorem GH {α:Type} {t:α->Nat} {B:Nat}:∀{xs:List α},(∀x∈xs,t x<=B)->fJ t xs<=xs.length*(B+1)
 |[],_=>by simp[fJ]
 |x::xs,h=>by
  have h1:=h x Rr;have h2:=GH (t:=t) (B:=B) (xs:=xs) λy hy=>h y (Rh _ hy);rw[xH,Q4,Rp];omega
theorem qY.tot {r:Runtime} (h:qY r):r.sched.tot<=84:=by
 have h1:=GH (t:=Task.tot) (B:=6) (xs:=r.sched.tasks) λt ht=>HU (h.s.task t ht).1;have h2:=h.s.len;show fJ Task.tot r.sched.tasks+0<=84;omega
theorem Bh {r:Runtime} (h:qY r):∀q∈r.ae,1<=q.id:=λq hq=>by
 obtain⟨t,h1,h2⟩:=h.req.ids q hq;have:=(cf (h.s.task t h1).1).1.1;omega
theorem LS {s:aj} (h:SOk s) {id:Int} (hid:1<=id):SOk (vI s id):=by rw[<-vb h hid];exact LN h id
theorem HV {r:Runtime} (h:qY r) {id:Int} (hid:1<=id):qY (P7 r id):=⟨LS h.s hid,h.ml,h.ll,h.mod,h.req.off⟩
def hY (r:Runtime) (x:Step):List Event× aj× List Request:=
  cond (JI r x.a) (cond (dF (r.ak.getD x.a.toNat dt) x.input).2 (cond (inB x.b 0 1000000)
    (let ad:=fL r.sched (bC (dF (r.ak.getD x.a.toNat dt) x.input).1.model) (r.sched.now+x.b);
      cond (decide (ad.2.2=0)) ([⟨2,ad.2.1,r.sched.now+x.b,zi⟩],ad.1,r.ae++[⟨ad.2.1,x.a,(dF (r.ak.getD x.a.toNat dt) x.input).1,r.sched.now+x.b⟩]) (dG x.kind (IntKind.i64.wrap (3+ad.2.2)),r.sched,r.ae))
    (dG x.kind 8,r.sched,r.ae)) (dG x.kind 3,r.sched,r.ae)) (dG x.kind 1,r.sched,r.ae)
def QQ (e:List Event× aj× List Request):List Event× Int× Int× Int× List Task× Int× Int× Int× Int× List Request:=(e.1,e.2.1.now,e.2.1.ag,e.2.1.age,e.2.1.tasks,e.2.1.run,e.2.1.left,e.2.1.turns,e.2.1.next,e.2.2)
section
variable {k:Nat} {r:Runtime} {x:Step} (h:qY r) (hk:20000000<=k) (hx:x.input.tot<=2000000)
include h hk hx
theorem GI:kO k r x=some (QQ (hY r x)):=by
 have hM:=ao;have hq:=h.NW;have ht:=h.tot;have hnow:=h.s.now;unfold kO hY bE JI;rw[cw,aa];cases c1:inB x.a 0 3
 ·simp only[Ro,cond_true,aa,decide_true,RP,cond_false];rfl
 have c1':=of_decide_eq_true c1;have hlo:=h.ll;have hmo:=h.ml
 have hi:x.a.toNat<r.al.length:=by omega
 have hi2:x.a.toNat<r.ak.length:=by omega
 simp only[Q3,cond_false,Q6];rw[decide_eq_true (by omega),cond_true,ai hi,aa,b8 hi];cases c2:r.al[x.a.toNat]
 ·simp only[Ro,cond_true,aa,decide_true,cond_false];rfl
 simp only[Q3,cond_false,cond_true];rw[decide_eq_true (by omega),cond_true,ai hi2,aa,b8 hi2];have hmt:=h.mod _ (Q7 hi2);generalize hm:r.ak[x.a.toNat]=m at hmt;have hjt:=vy m x.input;rw[Cq (by omega) (by omega),aa];cases c3:(dF m x.input).2
 ·simp only[Ro,cond_true,aa,decide_true,cond_false];rfl
 simp only[Q3,cond_false,cond_true];rw[pW,aa];cases c4:inB x.b 0 1000000
 ·simp only[Ro,cond_true,aa,decide_true,cond_false];rfl
 have c4':=of_decide_eq_true c4;simp only[Q3,cond_false,cond_true];rw[aH (n:=r.sched.now+x.b) (by omega) (by omega)];generalize hj:(dF m x.input).1=j at hjt
 have hjm:j.model.tot<=j.tot:=by unfold Job.tot;omega
 have hcl:=jo j.model;have hcl2:=bw av.tot j.model.aB;have hcl3:j.model.tot=fJ av.tot j.model.aB+0:=rfl;rw[j7 (by omega) (by omega),aa,Jp (by omega) (by omega),aa,ny];generalize fL r.sched (bC j.model) (r.sched.now+x.b)=ad;by_cases c5:ad.2.2=0
 ·rw[decide_eq_true c5];simp only[cond_true]
  have hlen:(r.ae++[(⟨ad.2.1,x.a,j,r.sched.now+x.b⟩:Request)]).length=r.ae.length+1:=by simp
  rw[cy (by omega),hlen,aH (by omega) (by omega),decide_eq_true (by omega),cond_true,show(((r.ae.length+1:Nat):Int)-1).toNat=r.ae.length from by omega,QZ (Rd _),Nat.sub_self];simp only[SN,aa,decide_true,cond_true];rfl
 ·rw[decide_eq_false c5];simp only[cond_true,aa,decide_true,cond_false];rfl
theorem GJ:fu k r x=some (QQ (hY r x)):=by
 have hM:=ao;have hq:=h.NW;have ht:=h.tot;have hnow:=h.s.now;have hlo:=h.ll;have hmo:=h.ml;unfold fu hY dE;rw[tJ h.ll,aa];cases c0:JI r x.a
 ·simp only[Ro,cond_true,aa,decide_true,RP,cond_false];rfl
 have c1':=of_decide_eq_true (SA.1 c0).1
 have hi2:x.a.toNat<r.ak.length:=by omega
 simp only[Q3,cond_false,cond_true];rw[decide_eq_true (by omega),cond_true,ai hi2,aa,b8 hi2];have hmt:=h.mod _ (Q7 hi2);generalize hm:r.ak[x.a.toNat]=m at hmt;have hjt:=vy m x.input;rw[Cr (by omega) (by omega),aa];cases c3:(dF m x.input).2
 ·simp only[Ro,cond_true,aa,decide_true,cond_false];rfl
 simp only[Q3,cond_false,cond_true];rw[sa,aa];cases c4:inB x.b 0 1000000
 ·simp only[Ro,cond_true,aa,decide_true,cond_false];rfl
 have c4':=of_decide_eq_true c4;simp only[Q3,cond_false,cond_true];rw[aH (n:=r.sched.now+x.b) (by omega) (by omega)];generalize hj:(dF m x.input).1=j at hjt
 have hjm:j.model.tot<=j.tot:=by unfold Job.tot;omega
 have hcl:=jo j.model;have hcl2:=bw av.tot j.model.aB;have hcl3:j.model.tot=fJ av.tot j.model.aB+0:=rfl;rw[j8 (by omega) (by omega),aa,Jq (by omega) (by omega),aa,ny];generalize fL r.sched (bC j.model) (r.sched.now+x.b)=ad;by_cases c5:ad.2.2=0
 ·rw[decide_eq_true c5];simp only[cond_true];rw[cy (by omega)];simp only[aa,decide_true,cond_true];rfl
 ·rw[decide_eq_false c5];simp only[cond_true,aa,decide_true,cond_false];rfl
end
end
set_option maxRecDepth 100000
set_option maxHeartbeats 4000000
section
theorem SOk.tot {s:aj} (h:SOk s):s.tot<=84:=by
 have h1:=GH (t:=Task.tot) (B:=6) (xs:=s.tasks) λt ht=>HU (h.task t ht).1;have h2:=h.len;show fJ Task.tot s.tasks+0<=84;omega
theorem HW (rs:List Request) (id:Int):(wJ rs id).length<=rs.length:=Ss _ _
def zN (id:Int):Event:=⟨4,id,0,zi⟩
def zm (a:Int):List Request->List Event->aj->List Request->List Event× aj× List Request
 |[],e,s,rs=>(e,s,rs)
 |q::qs,e,s,rs=>cond (q.model==a) (zm a qs (e++[zN q.id]) (vI s q.id) (wJ rs q.id)) (zm a qs e s rs)
theorem zn (a:Int) (ms:List Model) (ls:List Bool):∀(qs:List Request) (e:List Event) (s:aj) (rs:List Request),(∀q∈qs,1<=q.id)->qY ⟨s,ms,ls,rs⟩->qY ⟨(zm a qs e s rs).2.1,ms,ls,(zm a qs e s rs).2.2⟩/\(zm a qs e s rs).1.length<=e.length+qs.length
 |[],e,s,rs,_,h=>⟨h,Rd _⟩
 |q::qs,e,s,rs,hq,h=>by
  unfold zm;cases q.model==a
  ·have:=zn a ms ls qs e s rs (λx hx=>hq x (Rh _ hx)) h;exact⟨this.1,Se this.2 (by simp)⟩
  ·have:=zn a ms ls qs (e++[zN q.id]) (vI s q.id) (wJ rs q.id) (λx hx=>hq x (Rh _ hx)) (HV h (hq q Rr));exact⟨this.1,Se this.2 (by simp;omega)⟩
inductive lM:List Int->List Event->List Int->Prop
 |nil {ids:List Int}:lM ids [] ids
 |other {ids ids':List Int} {e:Event} {es:List Event}:e.kind≠2->e.kind≠3->e.kind≠4->lM ids es ids'->lM ids (e::es) ids'
 |ends {ids ids':List Int} {e:Event} {es:List Event}:e.kind=3\/e.kind=4->e.a∈ids->lM (ids.filter λi=>!(i==e.a)) es ids'->lM ids (e::es) ids'
theorem lM.app {a b c:List Int} {e f:List Event} (h:lM a e b) (g:lM b f c):lM a (e++f) c:=by
 induction h with
 |nil=>exact g
 |other h1 h2 h3 _ ih=>exact .other h1 h2 h3 (ih g)
 |ends h1 h2 _ ih=>exact .ends h1 h2 (ih g)
def oV (rs:List Request):List Int:=rs.map λq=>q.id
theorem wK (rs:List Request) (id:Int):oV (wJ rs id)=(oV rs).filter λi=>!(i==id):=by
 unfold oV wJ;rw[List.filter_map];rfl
theorem Lk.QR {qs:List Request} {ts:List Task} (h:Lk qs ts):oV qs=ts.map λt=>t.id:=by
 induction h with
 |nil=>rfl
 |cons l _ ih=>unfold oV at ih⊢;rw[RB,RB,ih,l.id]
theorem qY.inc {r:Runtime} (h:qY r):(oV r.ae).Pairwise (·<·):=by
 rw[h.req.QR,List.pairwise_map];exact h.s.ids
theorem qY.lt {r:Runtime} (h:qY r):∀i∈oV r.ae,1<=i/\i<r.sched.next:=by
 rw[h.req.QR];intro i hi;obtain⟨t,ht,rfl⟩:=S1.1 hi;have:=h.s.task t ht;exact⟨(cf this.1).1.1,this.2.1⟩
theorem zo (a:Int):∀(qs:List Request) (e:List Event) (s:aj) (rs:List Request),(oV qs).Pairwise (·<·)->(∀i∈oV qs,i∈oV rs)->∃d,(zm a qs e s rs).1=e++d/\lM (oV rs) d (oV (zm a qs e s rs).2.2)
 |[],e,s,rs,_,_=>⟨[],by simp[zm],.nil⟩
 |q::qs,e,s,rs,hp,hm=>by
  unfold zm;have hp':=Td.1 hp;cases q.model==a
  ·exact zo a qs e s rs hp'.2 λi hi=>hm i (Rh _ hi)
  ·obtain⟨d,h1,h2⟩:=zo a qs (e++[zN q.id]) (vI s q.id) (wJ rs q.id) hp'.2 λi hi=>by
    rw[wK,RM];have:q.id<i:=hp'.1 i hi;exact⟨hm i (Rh _ hi),by simp;omega⟩
   refine⟨zN q.id::d,by rw[cond_true,h1,Rj];rfl,.ends (.inr rfl) (hm _ Rr) ?_⟩;rw[wK]at h2;exact h2
section
variable {k:Nat} (hk:20000000<=k)
include hk
theorem vc {R:Type} {orig:List Request} {a q1 q2 q4 q5 q6:Int} {q3 q7:List Int} {ms:List Model} {ls:List Bool} {fin:Int× Int× Int× Int× Int× Int× Int× List Event× List Task× List Request->Option R}:∀(qs pre:List Request) (e:List Event) (s:aj) (rs:List Request) (kf:Nat),qs.length<kf->orig=pre++qs->orig.length<=12->e.length+qs.length<=100->(∀q∈qs,1<=q.id)->SOk s->rs.length<=12->
  iter (λu10 n10=>cH k (orig,q1,a,q2,q3,q4,q5,q6,q7,ms,ls) u10 n10 fin) kf ((pre.length:Int),s.now,s.ag,s.age,s.run,s.left,s.turns,s.next,e,s.tasks,rs)=
   (let y:=zm a qs e s rs;fin (y.2.1.now,y.2.1.ag,y.2.1.age,y.2.1.run,y.2.1.left,y.2.1.turns,y.2.1.next,y.1,y.2.1.tasks,y.2.2))
 |_,_,_,_,_,0,h,_,_,_,_,_,_=>by omega
 |[],pre,e,s,rs,kf+1,_,ho,hl,_,_,_,_=>by
  rw[aF];show cH k _ _ _ fin=_;unfold cH;simp only
  rw[decide_eq_false (by rw[ho];simp)];rfl
 |q::qs,pre,e,s,rs,kf+1,hkf,ho,hl,he,hq,hs,hr=>by
  have hM:=ao;simp only[Q4]at hkf he
  have hol:orig.length=pre.length+(qs.length+1):=by rw[ho];simp
  have hat:idx orig (pre.length:Int)=some q:=by rw[aD,ho];simp
  have hst:=hs.tot;rw[aF];unfold zm;cases c:q.model==a
  ·have st:∀next,cH k (orig,q1,a,q2,q3,q4,q5,q6,q7,ms,ls) ((pre.length:Int),s.now,s.ag,s.age,s.run,s.left,s.turns,s.next,e,s.tasks,rs) next fin=next (((pre++[q]).length:Int),s.now,s.ag,s.age,s.run,s.left,s.turns,s.next,e,s.tasks,rs):=λnext=>by
    unfold cH;simp only;rw[decide_eq_true (by omega),cond_true,hat,aa,c,cond_false,aH (by omega) (by omega),Q5];rfl
   exact(st _).trans (vc qs (pre++[q]) e s rs kf (by omega) (by rw[ho];simp) hl (by omega) (λx hx=>hq x (Rh _ hx)) hs hr)
  ·have st:∀next,cH k (orig,q1,a,q2,q3,q4,q5,q6,q7,ms,ls) ((pre.length:Int),s.now,s.ag,s.age,s.run,s.left,s.turns,s.next,e,s.tasks,rs) next fin=next (((pre++[q]).length:Int),(vI s q.id).now,(vI s q.id).ag,(vI s q.id).age,(vI s q.id).run,(vI s q.id).left,(vI s q.id).turns,(vI s q.id).next,e++[zN q.id],(vI s q.id).tasks,wJ rs q.id):=λnext=>by
    unfold cH;simp only;rw[decide_eq_true (by omega),cond_true,hat,aa,c,cond_true,aa,LR (k:=k) (r:=⟨s,ms,ls,rs⟩) (by show s.tot+rs.length<k;omega) (by show s.tot+rs.length<=aU;omega) hs (hq q Rr),aa,aa,cy (by omega),aH (by omega) (by omega),Q5];rfl
   exact(st _).trans (vc qs (pre++[q]) (e++[zN q.id]) (vI s q.id) (wJ rs q.id) kf (by omega) (by rw[ho];simp) hl (by simp;omega) (λx hx=>hq x (Rh _ hx)) (LS hs (hq q Rr)) (Se (HW _ _) hr))
theorem vd {R:Type} {orig:List Request} {a n p1 p2 p3 p4 p5 q1 q2 q4 q5 q6:Int} {q3 q7:List Int} {ms:List Model} {ls:List Bool} {fin:Int× Int× List Event× List Task× List Request->Option R}:∀(qs pre:List Request) (e:List Event) (s:aj) (rs:List Request) (kf:Nat),qs.length<kf->orig=pre++qs->n=orig.length->orig.length<=12->e.length+qs.length<=100->(∀q∈qs,1<=q.id)->SOk s->rs.length<=12->s.now=p1->s.ag=p2->s.age=p3->s.turns=p4->s.next=p5->
  iter (λu7 n7=>bo k (n,p1,p2,p3,p4,p5,q1,a,q2,q3,q4,q5,q6,q7,orig,ms,ls) u7 n7 fin) kf ((pre.length:Int),s.run,s.left,e,s.tasks,rs)=
   (let y:=zm a qs e s rs;fin (y.2.1.run,y.2.1.left,y.1,y.2.1.tasks,y.2.2))
 |_,_,_,_,_,0,h,_,_,_,_,_,_,_,_,_,_,_,_=>by omega
 |[],pre,e,s,rs,kf+1,_,ho,hn,hl,_,_,_,_,_,_,_,_,_=>by
  rw[aF];show bo k _ _ _ fin=_;unfold bo;simp only
  rw[decide_eq_false (by rw[hn,ho];simp)];rfl
 |q::qs,pre,e,s,rs,kf+1,hkf,ho,hn,hl,he,hq,hs,hr,e1,e2,e3,e4,e5=>by
  have hM:=ao;simp only[Q4]at hkf he
  have hol:orig.length=pre.length+(qs.length+1):=by rw[ho];simp
  have hat:orig[(pre.length:Int).toNat]? =some q:=by rw[QY,ho];simp
  have hst:=hs.tot;rw[aF];unfold zm;cases c:q.model==a
  ·have st:∀next,bo k (n,p1,p2,p3,p4,p5,q1,a,q2,q3,q4,q5,q6,q7,orig,ms,ls) ((pre.length:Int),s.run,s.left,e,s.tasks,rs) next fin=next (((pre++[q]).length:Int),s.run,s.left,e,s.tasks,rs):=λnext=>by
    unfold bo;simp only;rw[decide_eq_true (by omega),cond_true,decide_eq_true (by omega),cond_true,hat,aa,c,cond_false,aH (by omega) (by omega),Q5];rfl
   exact(st _).trans (vd qs (pre++[q]) e s rs kf (by omega) (by rw[ho];simp) hn hl (by omega) (λx hx=>hq x (Rh _ hx)) hs hr e1 e2 e3 e4 e5)
  ·have st:∀next,bo k (n,p1,p2,p3,p4,p5,q1,a,q2,q3,q4,q5,q6,q7,orig,ms,ls) ((pre.length:Int),s.run,s.left,e,s.tasks,rs) next fin=next (((pre++[q]).length:Int),(vI s q.id).run,(vI s q.id).left,e++[zN q.id],(vI s q.id).tasks,wJ rs q.id):=λnext=>by
    subst e1 e2 e3 e4 e5;unfold bo;simp only;rw[decide_eq_true (by omega),cond_true,decide_eq_true (by omega),cond_true,hat,aa,c,cond_true,EU (k:=k) (r:=⟨s,ms,ls,rs⟩) (by show s.tot+rs.length<k;omega) (by show s.tot+rs.length<=aU;omega),aa,cy (by omega),aH (by omega) (by omega),Q5];rfl
   exact(st _).trans (vd qs (pre++[q]) (e++[zN q.id]) (vI s q.id) (wJ rs q.id) kf (by omega) (by rw[ho];simp) hn hl (by simp;omega) (λx hx=>hq x (Rh _ hx)) (LS hs (hq q Rr)) (Se (HW _ _) hr) e1 e2 e3 e4 e5)
end
def fV (r:Runtime) (x:Step):List Event× Runtime:=
 cond (JI r x.a) (let y:=zm x.a r.ae [] r.sched r.ae;(y.1++[⟨1,x.a,0,zi⟩],⟨y.2.1,r.ak.set x.a.toNat dt,r.al.set x.a.toNat false,y.2.2⟩)) (dG x.kind 1,r)
theorem ve (a:Int):∀(qs:List Request) (e:List Event) (s:aj) (rs:List Request),(zm a qs e s rs).2.1.now=s.now/\(zm a qs e s rs).2.1.ag=s.ag/\(zm a qs e s rs).2.1.age=s.age/\(zm a qs e s rs).2.1.turns=s.turns/\(zm a qs e s rs).2.1.next=s.next
 |[],e,s,rs=>⟨rfl,rfl,rfl,rfl,rfl⟩
 |q::qs,e,s,rs=>by
  unfold zm;cases q.model==a
  ·exact ve a qs e s rs
  ·exact ve a qs (e++[zN q.id]) (vI s q.id) (wJ rs q.id)
section
variable {k:Nat} {r:Runtime} {x:Step} (h:qY r) (hk:20000000<=k)
include h hk
theorem GK:kN k r x=some (let e:=fV r x;(e.1,e.2.sched.now,e.2.sched.ag,e.2.sched.age,e.2.sched.tasks,e.2.sched.run,e.2.sched.left,e.2.sched.turns,e.2.sched.next,e.2.ak,e.2.al,e.2.ae)):=by
 have hM:=ao;have hq:=h.NW;have hlo:=h.ll;have hmo:=h.ml;unfold kN fV bE JI;rw[cw,aa];cases c1:inB x.a 0 3
 ·rfl
 have c1':=of_decide_eq_true c1
 have hi:x.a.toNat<r.al.length:=by omega
 simp only[Q3,cond_false,Q6];rw[decide_eq_true (by omega),cond_true,ai hi,aa,b8 hi];cases c2:r.al[x.a.toNat]
 ·rfl
 simp only[Q3,cond_false,cond_true];have hu:=zn x.a r.ak r.al r.ae [] r.sched r.ae (Bh h) h;refine(vc hk r.ae [] [] r.sched r.ae k (by omega) rfl hq (by simp;omega) (Bh h) h.s hq).trans ?_;generalize zm x.a r.ae [] r.sched r.ae=y at hu;have:=hu.2;simp only[Rs]at this;simp only;rw[decide_eq_true (by omega),cond_true,cy (by omega)];rfl
theorem GL:ft k r x=some (let e:=fV r x;(e.1,e.2.sched.tasks,e.2.sched.run,e.2.sched.left,e.2.ak,e.2.al,e.2.ae))/\(fV r x).2.sched.now=r.sched.now/\(fV r x).2.sched.ag=r.sched.ag/\(fV r x).2.sched.age=r.sched.age/\(fV r x).2.sched.turns=r.sched.turns/\(fV r x).2.sched.next=r.sched.next:=by
 have hM:=ao;have hq:=h.NW;have hlo:=h.ll;have hmo:=h.ml;unfold ft fV dE;rw[tJ h.ll,aa];cases c0:JI r x.a
 ·simp only[Ro,cond_true,aa,decide_true,cond_false];exact⟨rfl,trivial,trivial,trivial,trivial,trivial⟩
 have c1':=of_decide_eq_true (SA.1 c0).1;simp only[Q3,cond_false,cond_true]
 have hc:bY k r.ae=some r.ae:=by
  unfold bY;rw[cy (by simp;omega)];simp only[decide_true,cond_true,Si]
  cases r.ae with
  |nil=>exact xS _
  |cons=>rfl
 have hkp:=ve x.a r.ae [] r.sched r.ae;refine⟨?_,hkp⟩;rw[hc,aa];have hu:=zn x.a r.ak r.al r.ae [] r.sched r.ae (Bh h) h;refine(vd hk r.ae [] [] r.sched r.ae k (by omega) rfl rfl hq (by simp;omega) (Bh h) h.s hq rfl rfl rfl rfl rfl).trans ?_;generalize zm x.a r.ae [] r.sched r.ae=y at hu;have:=hu.2;simp only[Rs]at this;simp only;rw[decide_eq_true (by omega),cond_true,decide_eq_true (by omega),cond_true,cy (by omega)];simp only[decide_true,cond_true];rfl
end
end
set_option maxRecDepth 100000
set_option maxHeartbeats 4000000
section
section
variable {k:Nat}
theorem Nt (s:aj) (ms:List Model) (ls:List Bool) (rs:List Request):fb k s.now s.ag s.age s.tasks s.run s.left s.turns s.next ms ls rs=ed k s:=by
 unfold fb ed;simp only[decide_true,cond_true]
theorem O7 (a b c d e f g id:Int) (zs:List bZ) (ms:List Model) (ls:List Bool) (rs:List Request):cI k a b c zs d e f g ms ls rs id=du k a b c zs d e f g id:=by
 unfold cI du;simp only[decide_true,cond_true]
theorem O8 (s:aj) (ms:List Model) (ls:List Bool) (rs:List Request) (st:Bool):fC k s.now s.ag s.age s.tasks s.run s.left s.turns s.next ms ls rs st=fS k s st:=by
 unfold fC fS;rw[Nt];simp only[O7,decide_true,cond_true]
theorem O9 {s:aj} (h:SOk s) (hn:s.now≠1000000) (hk:1000<k) (st:Bool) (ms:List Model) (ls:List Bool) (rs:List Request):
  fC k s.now s.ag s.age s.tasks s.run s.left s.turns s.next ms ls rs st=some (((hJ s st).2.1,(hJ s st).2.2),(hJ s st).1.now,(hJ s st).1.tasks,(hJ s st).1.run,(hJ s st).1.left,(hJ s st).1.turns)/\
   (hJ s st).1.ag=s.ag/\(hJ s st).1.age=s.age/\(hJ s st).1.next=s.next:=by
 have hM:=ao;have ht:=h.tot;have e:=zM (k:=k) (s:=s) (st:=st) (by omega) (by omega);unfold rR at e;rw[jq (by omega) (by omega),aa,ke (by omega) (by omega),aa,wH h,bJ,if_neg hn]at e;simp only[Q3,cond_false]at e;rw[O8]
 cases hm:fS k s st with
 |none=>rw[hm]at e;exact nomatch e
 |some r3=>
  rw[hm]at e;have e:=Sf e;rw[<-e];exact⟨rfl,rfl,rfl,rfl⟩
inductive HX (s:aj):aj× Int× Bool->Prop
 |rest {u:aj}:u.tasks=s.tasks->HX s (u,0,false)
 |next {u:aj} {pre post:List Task} {t:Task}:s.tasks=pre++t::post->(∀v∈pre,v.id≠t.id)->1<=t.id->t.at_+1<t.ar.length->u.tasks=pre++p8 t::post->HX s (u,t.id,false)
 |done {u:aj} {pre post:List Task} {t:Task}:s.tasks=pre++t::post->(∀v∈pre,v.id≠t.id)->(∀v∈post,v.id≠t.id)->1<=t.id->t.at_<t.ar.length->u.tasks=pre++post->u.run=0->HX s (u,t.id,true)
theorem P8 {s:aj} (h:SOk s) (st:Bool):HX s (hJ s st):=by
 by_cases hn:s.now=1000000
 ·rw[wI hn];exact .rest rfl
 cases st
 ·rcases ER h hn with⟨_,_,_,e⟩|⟨t,L,tr,T,_⟩
  ·rw[e];exact .rest rfl
  ·obtain⟨pre,post,e,h1,h2,h3,h4,h5⟩:=HS h.ids T.mem;have hb:=cf (h.task t T.mem).1
   have n1:∀u∈pre,u.id≠t.id:=λu hu=>by have:=h1 u hu;omega
   have n2:∀u∈post,u.id≠t.id:=λu hu=>by have:=h2 u hu;omega
   rw[T.eq,Be e n1 n2];by_cases c1:L-1>0
   ·rw[if_pos c1];exact .rest rfl
   rw[if_neg c1];by_cases c2:t.at_+1<t.ar.length
   ·rw[if_pos c2];exact .next e n1 hb.1.1 c2 rfl
   ·rw[if_neg c2];exact .done e n1 n2 hb.1.1 hb.2.2.1.2 rfl rfl
 ·rw[vH h hn];exact .rest rfl
end
theorem Lk.split {t:Task}:∀{pre post:List Task} {qs:List Request},Lk qs (pre++t::post)->∃qp q qo,qs=qp++q::qo/\Lk qp pre/\Ns q t/\Lk qo post
 |[],post,_,.cons (q:=q) (qs:=qs) h g=>⟨[],q,qs,rfl,.nil,h,g⟩
 |p::pre,post,_,.cons (q:=q) (qs:=qs) h g=>by
  obtain⟨qp,q',qo,e,h1,h2,h3⟩:=g.split (pre:=pre);exact⟨q::qp,q',qo,by rw[e];rfl,.cons h h1,h2,h3⟩
theorem Lk.join {ts:List Task} {ro:List Request} (g:Lk ro ts):∀{rs:List Request} {us:List Task},Lk rs us->Lk (rs++ro) (us++ts)
 |_,_,.nil=>g
 |_,_,.cons h f=>.cons h (g.join f)
theorem Lk.ne {id:Int}:∀{qs:List Request} {ts:List Task},Lk qs ts->(∀v∈ts,v.id≠id)->∀q∈qs,q.id≠id:=λ{qs ts} h hn q hq=>by
 obtain⟨t,h1,h2⟩:=h.ids q hq;rw[h2];exact hn t h1
theorem HY {id:Int} {q:Request} (hq:q.id=id):∀{qp qo:List Request},(∀v∈qp,v.id≠id)->((qp++q::qo).findIdx? λq=>q.id==id)=some qp.length
 |[],qo,_=>by rw[Si,Tc,hq];simp
 |p::qp,qo,h=>by
  have h1:=h p Rr;rw[Sl,Tc,show(p.id==id)=false from by simpa using h1,HY hq λv hv=>h v (Rh _ hv)];simp
theorem LU {id:Int} {q:Request} (hq:q.id=id) {qp qo:List Request} (h1:∀v∈qp,v.id≠id) (h2:∀v∈qo,v.id≠id):wJ (qp++q::qo) id=qp++qo:=by
 unfold wJ;rw[SI,Sv,hq];simp only[beq_self_eq_true,Q3,Sj,if_false];rw[R8.2 λv hv=>by simpa using h1 v hv,R8.2 λv hv=>by simpa using h2 v hv]
theorem sd {q:Request} {t:Task} (l:Ns q t) (hc:t.at_<t.ar.length):tP (vV q.job)=true/\q.job.at_≠(q.job.model.aB.length:Int)/\Ns ⟨q.id,q.model,vV q.job,q.due⟩ (p8 t):=by
 have hl:=ig (j9 l.job).1;rw[l.ar]at hl
 have hne:q.job.at_≠(q.job.model.aB.length:Int):=by rw[l.at_];omega
 have hs:=Ly l.job hne;refine⟨hs,hne,⟨l.id,hs,?_,l.ar,l.tot⟩⟩;show(vV q.job).at_=t.at_+1;rw[<-l.at_];rfl
end
set_option maxRecDepth 100000
set_option maxHeartbeats 4000000
section
def oI (q:Request):Request:=⟨q.id,q.model,vV q.job,q.due⟩
def Nu (id now:Int) (t:aA):Event:=⟨3,id,now,t⟩
theorem GM {q:Request} {t:Task} (l:Ns q t):q.job.tot<=8003000:=by
 have:=(Lx l.job).2;have:=l.tot;omega
theorem tL {k:Nat} {qp qo:List Request} {q:Request} {t:Task} (l:Ns q t) (hc:t.at_<t.ar.length) (hk:20000000<=k):jA k qp.length (qp++q::qo)=some (qp++oI q::qo):=by
 have hM:=ao;have htt:=GM l;obtain⟨hs,hne,_⟩:=sd l hc;generalize hj:q.job=j at*;have ht:j.tot=j.model.tot+(j.act.data.length+0+0):=rfl;have h:tP j=true:=hj▸l.job;obtain⟨hm,hat,hok,hsh,hsp⟩:=j9 h;obtain⟨hlen,_⟩:=qT hm;obtain⟨hl,hlt⟩:=EG h hne
 have gm:∀(y:Request) (qs:List Request),(qp++y::qs)[qp.length]? =some y:=λy qs=>by simp
 have sm:∀(y z:Request) (qs:List Request),(qp++y::qs).set qp.length z=qp++z::qs:=λy z qs=>by simp
 unfold jA oI;simp only[gm,sm,aa,hj];rw[CH (by omega) (by omega) h,aa];rw[rN _ hat.1,hl,aa,CF (by omega) (by omega) (by omega) (by omega) (by omega),aa,aH (n:=j.at_+1) (by omega) (by omega)];rfl
theorem qa {q:Request} {qp qo:List Request} (h:∀v∈qp,v.id≠q.id):tK (qp++q::qo) q.id=(qp.length:Int):=by
 unfold tK;rw[HY rfl h];rfl
theorem Jz {k:Nat} {qp qo:List Request} {q:Request} (hl:qp.length+qo.length<=100):bO k (qp++q::qo) (qp.length:Int) (IntKind.i64.wrap ((qp.length:Int)+1))=some (qp++qo):=by
 have hlen:(qp++q::qo).length=qp.length+qo.length+1:=by simp;omega
 have t1:(qp.length:Int).toNat=qp.length:=QY _
 have t2:((qp.length:Int)+1).toNat=qp.length+1:=by omega
 have e1:(qp++q::qo).take (qp.length-0)=qp:=by simp
 have e2:((qp++q::qo).drop (qp.length+1)).take (qp.length+qo.length+1-(qp.length+1))=qo:=by
  rw[show qp++q::qo=(qp++[q])++qo from by simp,List.drop_left' (by simp),So (by omega)]
 have e3:((qp++q::qo).drop (qp.length-0+(qp.length+qo.length+1-(qp.length+1)))).length=1:=by rw[R5,hlen];omega
 have e4:qp.length-0+(qp.length+qo.length+1-(qp.length+1))=qp.length+qo.length:=by omega
 unfold bO;rw[aH (by omega) (by omega)];simp only[t1,t2,hlen,e1,e2,QY];generalize (qp++q::qo).drop (qp.length-0+(qp.length+qo.length+1-(qp.length+1)))=z at e3;rw[e4]
 have hT:(qp++qo++z).length=qp.length+qo.length+1:=by simp[e3];omega
 rw[hT]
 rw[decide_eq_true (show(0:Int)<=((qp.length+qo.length+1:Nat):Int)/\((qp.length+qo.length+1:Nat):Int)<=((qp.length+qo.length+1:Nat):Int) by omega),cond_true,
  decide_eq_true (show(0:Int)<=(qp.length:Int)+1/\(qp.length:Int)+1<=((qp.length+qo.length+1:Nat):Int) by omega),cond_true,
  decide_eq_true (show(0:Int)<=(qp.length:Int)/\(qp.length:Int)<=((qp.length+1:Nat):Int) by omega),cond_true,bJ,if_neg (by omega),
  decide_eq_true (show(0:Int)<=(qp.length:Int)/\(qp.length:Int)<=((qp.length+qo.length+1:Nat):Int) by omega),cond_true,cond_true]
 have hb:((qp.length+qo.length).ble (qp.length+qo.length+1)&&((qp.length+1+(qp.length+qo.length+1-(qp.length+1))).ble (qp.length+qo.length+1)&&Nat.ble 1 (qp.length+qo.length+1)))=true:=by
  rw[QX,QX,Nat.ble_eq,Nat.ble_eq,Nat.ble_eq];omega
 rw[hb,cond_true,decide_eq_true (show(0:Int)<=((qp.length+qo.length+1:Nat):Int)/\((qp.length+qo.length+1:Nat):Int)<=((qp.length+qo.length+1-0:Nat):Int) by omega),cond_true,
  decide_eq_true (show(0:Int)<=((qp.length+qo.length:Nat):Int)/\((qp.length+qo.length:Nat):Int)<=((qp.length+qo.length+1:Nat):Int) by omega),cond_true]
 congr 1
 rw[Q8,Rj,R9 (by rw[RC,hT];omega),List.take_take,Nat.min_self,R9 (by simp),So (by simp)]
theorem LV {k:Nat} (hk:20000000<=k) {st:Bool} {s:aj} {ms:List Model} {ls:List Bool} {rs:List Request} {e:List Event} (h:qY ⟨s,ms,ls,rs⟩) (he:e.length<=1000) {i a:Int} (hi:0<=i) (hia:i<a) (ha:a<=200) {q1 q2 q4 q5 q6 kd p9:Int} {q3 q7:List Int} (hkd:(kd==5)=st):
  ∃(e':List Event) (s':aj) (rs':List Request),qY ⟨s',ms,ls,rs'⟩/\e'.length<=e.length+1/\(∃d,e'=e++d/\lM (oV rs) d (oV rs'))/\(s'.ag=s.ag/\s'.age=s.age/\s'.next=s.next)/\
   (∀(R:Type) (next:_->Option R) fin,db k (st,q1,a,q2,q3,q4,q5,q6,q7,ms,ls) (i,s.now,s.ag,s.age,s.run,s.left,s.turns,s.next,e,s.tasks,rs) next fin=next (i+1,s'.now,s'.ag,s'.age,s'.run,s'.left,s'.turns,s'.next,e',s'.tasks,rs'))/\
   (s.now=1000000->e'=e/\s'=s/\rs'=rs)/\
   (s.now≠1000000->∀(R:Type) (next:_->Option R) fin,bj k (a,s.ag,s.age,s.next,kd,p9,q2,q3,q4,q5,q6,q7,ms,ls) (i,s.now,s.run,s.left,s.turns,e,s.tasks,rs) next fin=next (i+1,s'.now,s'.run,s'.left,s'.turns,e',s'.tasks,rs')):=by
 have hM:=ao;have ht:s.tot<=84:=SOk.tot h.s;have hq:rs.length<=12:=h.NW;have hTK:=P8 h.s st;have hok:=O6 h.s st;have hS:=zL (k:=k) (s:=s) (st:=st) (by omega) (by omega);have hI:=λhn:s.now≠1000000=>O9 (k:=k) h.s hn (by omega) st ms ls rs
 have hfix:(hJ s st).1.ag=s.ag/\(hJ s st).1.age=s.age/\(hJ s st).1.next=s.next:=by
  by_cases hn:s.now=1000000
  ·rw[wI hn];exact⟨rfl,rfl,rfl⟩
  ·exact(hI hn).2
 have hend:s.now=1000000->hJ s st=(s,0,false):=λhn=>wI hn st;generalize hJ s st=T at*;have hw:IntKind.i64.wrap (i+1)=i+1:=aH (by omega) (by omega);have hreq:Lk rs s.tasks:=h.req
 cases hTK with
 |rest hu=>
  rename_i u;refine⟨e,u,rs,⟨hok,h.ml,h.ll,h.mod,by show Lk rs u.tasks;rw[hu];exact hreq⟩,by omega,⟨[],by simp,.nil⟩,hfix,λR next fin=>?_,λhn=>?_,λhn R next fin=>?_⟩
  ·unfold db;simp only;rw[decide_eq_true hia,cond_true,hS,aa,hw];rfl
  ·have:=congrArg Prod.fst (hend hn);exact⟨rfl,this,rfl⟩
  ·unfold bj;simp only
   rw[decide_eq_true hia,cond_true,bJ,if_neg hn,hkd,(hI hn).1,aa,hw];rfl
 |next e1 n1 p1 c1 hu=>
  rename_i u pre post t;obtain⟨qp,q,qo,rfl,l1,l,l2⟩:=(e1▸hreq:Lk rs (pre++t::post)).split;have hqp:=l1.ne n1;rw[<-l.id]at hqp;obtain⟨hs,hne,l'⟩:=sd l (by omega)
  have hlen:(qp++q::qo).length=qp.length+qo.length+1:=by simp;omega
  have hq:(qp++q::qo).length<=12:=hq;have hjt:=GM l
  have gm:∀(y:Request) (qs:List Request),(qp++y::qs)[qp.length]? =some y:=λy qs=>by simp
  have sm:∀(y z:Request) (qs:List Request),(qp++y::qs).set qp.length z=qp++z::qs:=λy z qs=>by simp
  have hz:(t.id==(0:Int))=false:=by simp;omega
  refine⟨e,u,qp++oI q::qo,⟨hok,h.ml,h.ll,h.mod,by show Lk (qp++oI q::qo) u.tasks;rw[hu];exact(Lk.cons l' l2).join l1⟩,by omega,⟨[],by simp,by unfold oV;rw[R2,R2];exact .nil⟩,hfix,λR next fin=>?_,λhn=>absurd (congrArg (λx=>x.2.1) (hend hn)) (by show¬t.id=0;omega),λhn R next fin=>?_⟩
  ·unfold db;simp only;rw[decide_eq_true hia,cond_true,hS,aa,hz,cond_false,qX (by show(qp++q::qo).length<k;omega) (by show(qp++q::qo).length<=aU;omega),aa];simp only;rw[<-l.id,qa hqp,decide_eq_true (by omega),cond_true,QY,gm,aa,vF (by omega) (by omega),aa,cond_true,aa,cond_false,hw,sm];unfold Nl;rw[l.job,show(q.job.at_==(q.job.model.aB.length:Int))=false from by simpa using hne];rfl
  ·unfold bj;simp only;rw[decide_eq_true hia,cond_true,bJ,if_neg hn,hkd,(hI hn).1,aa];simp only;rw[hz,cond_false,va (by show(qp++q::qo).length<k;omega) (by show(qp++q::qo).length<=aU;omega),aa];simp only
   rw[<-l.id,qa hqp,decide_eq_true (by omega),cond_true,QY,tL l (by omega) hk,aa,cond_false,hw]
 |done e1 n1 n2 p1 c1 hu hr=>
  rename_i u pre post t;obtain⟨qp,q,qo,rfl,l1,l,l2⟩:=(e1▸hreq:Lk rs (pre++t::post)).split;have hqp:=l1.ne n1;have hqo:=l2.ne n2;rw[<-l.id]at hqp hqo;obtain⟨hs,hne,l'⟩:=sd l c1
  have hlen:(qp++q::qo).length=qp.length+qo.length+1:=by simp;omega
  have hlen2:(qp++oI q::qo).length=qp.length+qo.length+1:=by simp;omega
  have hq:(qp++q::qo).length<=12:=hq;have hjt:=GM l
  have gm:∀(y:Request) (qs:List Request),(qp++y::qs)[qp.length]? =some y:=λy qs=>by simp
  have sm:∀(y z:Request) (qs:List Request),(qp++y::qs).set qp.length z=qp++z::qs:=λy z qs=>by simp
  have hz:(t.id==(0:Int))=false:=by simp;omega
  have hut:u.tot<=84:=SOk.tot hok
  have hoff:vI u q.id=u:=by
   unfold vI;rw[hr,show((0:Int)==q.id)=false from by rw[l.id];simp;omega]
   have:JH u.tasks q.id=u.tasks:=R8.2 λv hv=>by
    rw[hu]at hv;rw[l.id]
    rcases Sg.1 hv with hv|hv
    ·simpa using n1 v hv
    ·simpa using n2 v hv
   rw[this,<-hr];rfl
  refine⟨e++[Nu q.id u.now (vV q.job).act],u,qp++qo,⟨hok,h.ml,h.ll,h.mod,by show Lk (qp++qo) u.tasks;rw[hu];exact l2.join l1⟩,by simp,⟨[Nu q.id u.now (vV q.job).act],rfl,.ends (.inl rfl) (by unfold oV;simp[Nu]) (by rw[show(Nu q.id u.now (vV q.job).act).a=q.id from rfl,<-wK,LU rfl hqp hqo];exact .nil)⟩,hfix,λR next fin=>?_,λhn=>absurd (congrArg (λx=>x.2.1) (hend hn)) (by show¬t.id=0;omega),λhn R next fin=>?_⟩
  ·unfold db;simp only;rw[decide_eq_true hia,cond_true,hS,aa,hz,cond_false,qX (by show(qp++q::qo).length<k;omega) (by show(qp++q::qo).length<=aU;omega),aa];simp only;rw[<-l.id,qa hqp,decide_eq_true (by omega),cond_true,QY,gm,aa,vF (by omega) (by omega),aa,cond_true,aa,cond_true,hw,sm];unfold Nl;rw[l.job,show(q.job.at_==(q.job.model.aB.length:Int))=false from by simpa using hne];simp only[Ro,Q6,cond_true];rw[Bg (k:=k) (r:=⟨u,ms,ls,qp++(⟨q.id,q.model,vV q.job,q.due⟩:Request)::qo⟩) (by show u.tot+(qp++oI q::qo).length<k;omega) (by show u.tot+(qp++oI q::qo).length<=aU;omega) hok (by rw[l.id];exact p1),aa,cy (by omega)];simp only;rw[hoff,LU (q:=(⟨q.id,q.model,vV q.job,q.due⟩:Request)) rfl hqp hqo];rfl
  ·unfold bj;simp only;rw[decide_eq_true hia,cond_true,bJ,if_neg hn,hkd,(hI hn).1,aa];simp only;rw[hz,cond_false,va (by show(qp++q::qo).length<k;omega) (by show(qp++q::qo).length<=aU;omega),aa];simp only;rw[<-l.id,qa hqp,decide_eq_true (by omega),cond_true,QY,tL l c1 hk,aa,cond_true,decide_eq_true (by omega),cond_true,gm,aa,cy (by omega),Jz (by omega),aa,hw];rfl
end
end Go.Proofs.Ev
