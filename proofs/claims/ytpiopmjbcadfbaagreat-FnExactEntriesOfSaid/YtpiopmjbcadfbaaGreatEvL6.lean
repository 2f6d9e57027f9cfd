/- Typed functions and what holds of them: part 6. -/
import Derived.Test.YtpiopmjbcadfbaaGreatEvL5
set_option linter.unusedVariables false
set_option linter.unusedSimpArgs false
set_option linter.unusedSectionVars false
namespace Go.Proofs.Ev
section
def E7 (key:Task->Int):List Task->Option Task
 |[]=>none
 |x::xs=>some (xs.foldl (λm t=>cond (decide (key t<key m)) t m) x)
theorem rE (k:Nat) (a b:Int):dM k a b=some (cond (decide (a<b)) (-1) (cond (decide (a>b)) 1 0)):=by
 unfold dM kI;simp only[aa,bne_self_eq_false,cond_false];cases decide (a<b)<;>cases decide (a>b)<;>rfl
theorem E8 {k:Nat} {a b:Int} (hk:3<k):nz k [a,b]=some (cond (a !=0) a b):=by
 obtain⟨k,rfl⟩:∃k',k=k'+3:=⟨k-3,by omega⟩;unfold nz;show cond (a !=0) (some a) (iter (λu4 n4=>kJ (k+3) ((0:Int),[a,b],(([a,b]:List Int).length:Int)) u4 n4 (λy2=>some (0:Int)) (λy3=>some y3)) (k+2) (IntKind.i64.wrap (0+1)))=_;cases h:a !=0
 ·rw[aG (n:=0+1) (by omega) (by omega)];show cond (b !=0) (some b) (iter (λu4 n4=>kJ (k+3) ((0:Int),[a,b],(([a,b]:List Int).length:Int)) u4 n4 (λy2=>some (0:Int)) (λy3=>some y3)) (k+1) (IntKind.i64.wrap (1+1)))=_;cases hb:b !=0
  ·have:b=0:=by simpa using hb
   subst this;rw[aG (n:=1+1) (by omega) (by omega)];rfl
  ·rfl
 ·rfl
theorem Ij {a b i j:Int} (h:j<i):decide (cond (cond (decide (a<b)) (-1) (cond (decide (a>b)) 1 0) !=(0:Int)) (cond (decide (a<b)) (-1) (cond (decide (a>b)) 1 0)) (cond (decide (i<j)) (-1) (cond (decide (i>j)) 1 0))<(0:Int))=decide (a<b):=by
 by_cases h1:a<b
 ·simp[h1]
 ·by_cases h2:a>b
  ·simp[h1,h2]
  ·simp[h1,h2,show¬i<j by omega,h]
theorem wT (key:Task->Int):∀(xs:List Task) (x:Task),xs.foldl (λm t=>cond (decide (key t<key m)) t m) x∈x::xs
 |[],x=>by simp
 |y::xs,x=>by
  rw[Sq];have:=wT key xs (cond (decide (key y<key x)) y x);cases h:decide (key y<key x)
  ·rw[h]at this;simp only[cond_false]at this⊢
   rcases RN.1 this with h|h
   ·rw[h];simp
   ·simp[h]
  ·rw[h]at this;simp only[cond_true]at this⊢
   rcases RN.1 this with h|h
   ·rw[h];simp
   ·simp[h]
theorem L9 {x:Task} {xs:List Task} (hp:(x::xs).Pairwise λa b=>a.id<b.id) {i:Nat} (hi:i<xs.length) {m:Task} (hm:m∈x::xs.take i):m.id<xs[i].id:=by
 rw[TJ]at hp
 rcases RN.1 hm with rfl|hm
 ·exact hp.1 _ (Rx hi)
 ·obtain⟨j,hj,rfl⟩:=R5.1 hm
  have hj':j<i:=by simp at hj;omega
  rw[List.getElem_take];exact(List.pairwise_iff_getElem.1 hp.2) j i (by omega) hi hj'
theorem E9 {k:Nat} {x:Task} {xs:List Task} (hk:xs.length+2<k) (hN:xs.length<aN) (hp:(x::xs).Pairwise λa b=>a.id<b.id):cn k (x::xs)=some (xs.foldl (λm t=>cond (decide (Task.born t<Task.born m)) t m) x):=by
 have hM:=aq;unfold cn;rw[ab,if_neg (by simp;omega),wG,ag (by simp),aa]
 have:=fb (g:=λu6 n6=>bp k (x::xs,(0:Int),(0:Int),(0:Int),(0:Int)) u6 n6 (λy5=>some (⟨y5.1,y5.2.1,y5.2.2.1,y5.2.2.2.1,y5.2.2.2.2⟩:Task)))
  (st:=λi=>let m:=(xs.take i).foldl (λm t=>cond (decide (Task.born t<Task.born m)) t m) x;(((i+1:Nat):Int),m.id,m.av,m.at_,m.due,m.born)) (n:=xs.length) (r:=some (xs.foldl (λm t=>cond (decide (Task.born t<Task.born m)) t m) x)) (λi hi next=>by
  have hmem:=wT Task.born (xs.take i) x;have hlt:=L9 hp hi hmem;rw[dy hi,So];generalize (xs.take i).foldl (λm t=>cond (decide (Task.born t<Task.born m)) t m) x=m at hlt;simp only[bp,iH,iG,aa,rE,E8 (show 3<k by omega)];rw[ab,if_pos (by simp;omega),aC,S7,ag hi,aa,aa,aG (by omega) (by omega),Ij hlt];simp only[Sq,List.foldl_nil]
  cases decide (Task.born xs[i]<Task.born m)<;>rfl) (λnext=>by
  rw[Sr];simp only[bp]
  rw[ab,if_neg (by simp)]) (k:=k) (by omega)
 exact this
theorem C0 {k:Nat} {x:Task} {xs:List Task} (hk:xs.length+2<k) (hN:xs.length<aN) (hp:(x::xs).Pairwise λa b=>a.id<b.id):cc k (x::xs)=some (xs.foldl (λm t=>cond (decide (Task.due t<Task.due m)) t m) x):=by
 have hM:=aq;unfold cc;rw[ab,if_neg (by simp;omega),wG,ag (by simp),aa]
 have:=fb (g:=λu6 n6=>bf k (x::xs,(0:Int),(0:Int),(0:Int),(0:Int)) u6 n6 (λy5=>some (⟨y5.1,y5.2.1,y5.2.2.1,y5.2.2.2.1,y5.2.2.2.2⟩:Task)))
  (st:=λi=>let m:=(xs.take i).foldl (λm t=>cond (decide (Task.due t<Task.due m)) t m) x;(((i+1:Nat):Int),m.id,m.av,m.at_,m.due,m.born)) (n:=xs.length) (r:=some (xs.foldl (λm t=>cond (decide (Task.due t<Task.due m)) t m) x)) (λi hi next=>by
  have hmem:=wT Task.due (xs.take i) x;have hlt:=L9 hp hi hmem;rw[dy hi,So];generalize (xs.take i).foldl (λm t=>cond (decide (Task.due t<Task.due m)) t m) x=m at hlt;simp only[bf,gS,iJ,aa,rE,E8 (show 3<k by omega)];rw[ab,if_pos (by simp;omega),aC,S7,ag hi,aa,aa,aG (by omega) (by omega),Ij hlt];simp only[Sq,List.foldl_nil]
  cases decide (Task.due xs[i]<Task.due m)<;>rfl) (λnext=>by
  rw[Sr];simp only[bf]
  rw[ab,if_neg (by simp)]) (k:=k) (by omega)
 exact this
theorem zv {k:Nat} {xs:List Task} {s:ak} (hk:xs.length<k) (hN:xs.length<=aN):bU k xs s=some ((xs.findIdx? λt=>!dU s t).elim (-1) λi=>(i:Int)):=by
 have hM:=aq;unfold bU;simp only[decide_true,cond_true]
 rw[eM xs (λt=>!dU s t) (yes:=some (-1)) (no:=some) (λi hi next=>by
  simp only[bE,iF,cR,decide_true,cond_true,aa];rw[ab,if_pos (by omega),ab,if_pos (by omega),Rr,ag hi,aa,ay hi (by omega)]
  rfl) (λnext=>by
  simp only[bE,decide_true,cond_true];rw[ab,if_neg (by omega)]) hk]
 exact cK _
theorem wv {k:Nat} {xs:List Task} {s:ak} (hk:xs.length<k) (hN:xs.length<=aN):bO k xs s=some (xs.filter λt=>!(!dU s t)):=by
  have hM:=aq;unfold bO;rw[zv hk hN,aa]
  cases hf:xs.findIdx? λt=>!dU s t with
  | none =>
    rw[Tb,filter_none hf]
    simp
  | some i =>
    obtain⟨hi,hfi⟩:=mE hf;rw[Ru,bH,if_neg (by omega),ay hi (by omega)];simp only[decide_true,cond_true]
    obtain⟨i',ys',h1,h2,h3,h4⟩:=jq xs (λt=>!dU s t) (R:=List Task) (g:=λu5 n5=>aU k (s.now,s.ai,s.age,s.tasks,s.run,s.left,s.turns,s.next) u5 n5 (λy4=>cond (decide (0<=y4.1/\y4.1<=(y4.2.length:Int))) (cond (decide (0<=y4.1/\y4.1<=(((y4.2).take y4.1.toNat++List.replicate (y4.2.length-y4.1.toNat) (⟨(0:Int),([]:List Int),(0:Int),(0:Int),(0:Int)⟩:Task)++(y4.2).drop (y4.1.toNat+(y4.2.length-y4.1.toNat))).length:Int))) (some (((y4.2).take y4.1.toNat++List.replicate (y4.2.length-y4.1.toNat) (⟨(0:Int),([]:List Int),(0:Int),(0:Int),(0:Int)⟩:Task)++(y4.2).drop (y4.1.toNat+(y4.2.length-y4.1.toNat))).take (y4.1.toNat-0))) none) none))
      (fin:=λy4=>cond (decide (0<=y4.1/\y4.1<=(y4.2.length:Int))) (cond (decide (0<=y4.1/\y4.1<=(((y4.2).take y4.1.toNat++List.replicate (y4.2.length-y4.1.toNat) (⟨(0:Int),([]:List Int),(0:Int),(0:Int),(0:Int)⟩:Task)++(y4.2).drop (y4.1.toNat+(y4.2.length-y4.1.toNat))).length:Int))) (some (((y4.2).take y4.1.toNat++List.replicate (y4.2.length-y4.1.toNat) (⟨(0:Int),([]:List Int),(0:Int),(0:Int),(0:Int)⟩:Task)++(y4.2).drop (y4.1.toNat+(y4.2.length-y4.1.toNat))).take (y4.1.toNat-0))) none) none)
      (λi j ys hj next hij hl hg=>by
        simp only[aU,gP,cR,decide_true,cond_true,aa,hl];rw[ab,if_pos (by omega),ab,if_pos (by omega),Rr,hg,aa,cond_not,ab,if_pos (by omega),ay hj (by omega),ay (show i<xs.length by omega) (by omega),Rr]
        rfl)
      (λi ys next hl=>by simp only[aU,hl];rw[ab,if_neg (by omega)])
      (xs.length-(i+1)) i (i+1) xs k (by omega) (by omega) (by omega) rfl rfl hfi
    refine h4.trans ?_;obtain⟨c1,c2⟩:=rh ((⟨(0:Int),([]:List Int),(0:Int),(0:Int),(0:Int)⟩:Task)) h1 h2;simp only[Rr,h2];rw[c2,c1,ab,if_pos (by omega),ab,if_pos (by omega),h3]
theorem zx {k:Nat} {xs:List Task} {s:ak} (hk:xs.length<k) (hN:xs.length<=aN):bV k xs s=some ((xs.findIdx? λt=>!(!dU s t)).elim (-1) λi=>(i:Int)):=by
 have hM:=aq;unfold bV;simp only[decide_true,cond_true]
 rw[eM xs (λt=>!(!dU s t)) (yes:=some (-1)) (no:=some) (λi hi next=>by
  simp only[bF,gR,dN,eW,cR,decide_true,cond_true,aa];rw[ab,if_pos (by omega),ab,if_pos (by omega),Rr,ag hi,aa,ay hi (by omega)]
  rfl) (λnext=>by
  simp only[bF,decide_true,cond_true];rw[ab,if_neg (by omega)]) hk]
 exact cK _
theorem wx {k:Nat} {xs:List Task} {s:ak} (hk:xs.length<k) (hN:xs.length<=aN):bP k xs s=some (xs.filter λt=>!(!(!dU s t))):=by
  have hM:=aq;unfold bP;rw[zx hk hN,aa]
  cases hf:xs.findIdx? λt=>!(!dU s t)with
  | none =>
    rw[Tb,filter_none hf]
    simp
  | some i =>
    obtain⟨hi,hfi⟩:=mE hf;rw[Ru,bH,if_neg (by omega),ay hi (by omega)];simp only[decide_true,cond_true]
    obtain⟨i',ys',h1,h2,h3,h4⟩:=jq xs (λt=>!(!dU s t)) (R:=List Task) (g:=λu5 n5=>aV k (s.now,s.ai,s.age,s.tasks,s.run,s.left,s.turns,s.next) u5 n5 (λy4=>cond (decide (0<=y4.1/\y4.1<=(y4.2.length:Int))) (cond (decide (0<=y4.1/\y4.1<=(((y4.2).take y4.1.toNat++List.replicate (y4.2.length-y4.1.toNat) (⟨(0:Int),([]:List Int),(0:Int),(0:Int),(0:Int)⟩:Task)++(y4.2).drop (y4.1.toNat+(y4.2.length-y4.1.toNat))).length:Int))) (some (((y4.2).take y4.1.toNat++List.replicate (y4.2.length-y4.1.toNat) (⟨(0:Int),([]:List Int),(0:Int),(0:Int),(0:Int)⟩:Task)++(y4.2).drop (y4.1.toNat+(y4.2.length-y4.1.toNat))).take (y4.1.toNat-0))) none) none))
      (fin:=λy4=>cond (decide (0<=y4.1/\y4.1<=(y4.2.length:Int))) (cond (decide (0<=y4.1/\y4.1<=(((y4.2).take y4.1.toNat++List.replicate (y4.2.length-y4.1.toNat) (⟨(0:Int),([]:List Int),(0:Int),(0:Int),(0:Int)⟩:Task)++(y4.2).drop (y4.1.toNat+(y4.2.length-y4.1.toNat))).length:Int))) (some (((y4.2).take y4.1.toNat++List.replicate (y4.2.length-y4.1.toNat) (⟨(0:Int),([]:List Int),(0:Int),(0:Int),(0:Int)⟩:Task)++(y4.2).drop (y4.1.toNat+(y4.2.length-y4.1.toNat))).take (y4.1.toNat-0))) none) none)
      (λi j ys hj next hij hl hg=>by
        simp only[aV,dN,dN,eW,cR,decide_true,cond_true,aa,hl];rw[ab,if_pos (by omega),ab,if_pos (by omega),Rr,hg,aa,cond_not,ab,if_pos (by omega),ay hj (by omega),ay (show i<xs.length by omega) (by omega),Rr]
        rfl)
      (λi ys next hl=>by simp only[aV,hl];rw[ab,if_neg (by omega)])
      (xs.length-(i+1)) i (i+1) xs k (by omega) (by omega) (by omega) rfl rfl hfi
    refine h4.trans ?_;obtain⟨c1,c2⟩:=rh ((⟨(0:Int),([]:List Int),(0:Int),(0:Int),(0:Int)⟩:Task)) h1 h2;simp only[Rr,h2];rw[c2,c1,ab,if_pos (by omega),ab,if_pos (by omega),h3]
theorem rF {k:Nat} {xs:List Task} (hx:xs.length<=aN):cg k xs=some xs:=by
 unfold cg;rw[cw (by simpa using hx)]
 cases xs with
 |nil=>simp only[isNil,cond_true,RV];exact yJ _
 |cons x l=>rfl
theorem C3 {s:ak} (h:gi s=true):s.tasks.Pairwise λa b=>a.id<b.id:=by
 rw[List.pairwise_iff_getElem];intro i j hi hj hij;obtain⟨d,rfl⟩:∃d,j=i+d+1:=⟨j-i-1,by omega⟩;exact Ig h d i hj
def Ab (s:ak):Option Task:=E7 Task.born (s.tasks.filter (dU s))
def nH (s:ak):Option Task:=E7 Task.due (s.tasks.filter λt=>!dU s t)
theorem JQ {k:Nat} {s:ak} (hk:s.tot+2<k) (hN:s.tot<aN) (h:gi s=true):iI k s s=some ((Ab s).elim 0 Task.id):=by
 have hM:=aq;have hlen:=aS Task.tot s.tasks;have hst:s.tot=dj Task.tot s.tasks+0:=rfl;have hf:=Tg (dU s) s.tasks;unfold iI Ab;rw[rF (by omega),aa,wv (by omega) (by omega),aa];simp only[TP]
 cases hq:s.tasks.filter (dU s)with
 |nil=>rfl
 |cons x xs=>
  rw[hq]at hf;have hp:=(C3 h).filter (dU s);rw[hq]at hp;rw[bH,if_neg (by simp;omega),E9 (by simp at hf;omega) (by simp at hf;omega) hp,aa];rfl
theorem G5 {k:Nat} {s:ak} (hk:s.tot+2<k) (hN:s.tot<aN) (h:gi s=true):gI k s s=some ((nH s).elim 0 Task.id):=by
 have hM:=aq;have hlen:=aS Task.tot s.tasks;have hst:s.tot=dj Task.tot s.tasks+0:=rfl;have hf:=Tg (λt=>!dU s t) s.tasks;unfold gI nH;rw[rF (by omega),aa,wx (by omega) (by omega),aa];simp only[TP,decide_true,cond_true]
 cases hq:s.tasks.filter λt=>!dU s t with
 |nil=>rfl
 |cons x xs=>
  rw[hq]at hf;have hp:=(C3 h).filter λt=>!dU s t;rw[hq]at hp;rw[bH,if_neg (by simp;omega),C0 (by simp at hf;omega) (by simp at hf;omega) hp,aa];rfl
def kg (s:ak):Int:=
 cond ((Ab s).isSome&&(!(nH s).isSome||(decide (s.age>0)&&(s.turns.tmod s.age==0)))) ((Ab s).elim 0 Task.id) ((nH s).elim 0 Task.id)
theorem nI {key:Task->Int} {xs:List Task} {t:Task} (h:E7 key xs=some t):t∈xs:=by
 cases xs with
 |nil=>exact nomatch h
 |cons x xs=>
  simp only[E7,It]at h;rw[<-h];exact wT key xs x
theorem Ma {s:ak} (h:gi s=true) {t:Task} (ht:Ab s=some t):1<=t.id:=by
 have:=(Sg.1 (nI ht)).1;obtain⟨i,hi,rfl⟩:=R5.1 this;exact(bW (bZ h hi).1).1.1
theorem wU {s:ak} (h:gi s=true) {t:Task} (ht:nH s=some t):1<=t.id:=by
 have:=(Sg.1 (nI ht)).1;obtain⟨i,hi,rfl⟩:=R5.1 this;exact(bW (bZ h hi).1).1.1
theorem Mb {k:Nat} {s:ak} (hk:s.tot+2<k) (hN:s.tot<aN) (h:gi s=true):jZ k s=some (kg s):=by
 unfold jZ kg;rw[JQ hk hN h,aa,G5 hk hN h,aa]
 have hage:∀X:Option Int,(cond (decide (s.age>0)) (cond (decide (s.age=0)) none X) X)=X:=λX=>by
  by_cases c:s.age>0
  ·rw[decide_eq_true c,decide_eq_false (by omega)];rfl
  ·rw[decide_eq_false c];rfl
 cases hl:Ab s with
 |none=>
  cases he:nH s with
  |none=>
   simp only[Tb,Sw,Sp,cond_false,bne_self_eq_false,beq_self_eq_true,cond_true];by_cases c:s.age>0
   ·rw[decide_eq_true c,decide_eq_false (by omega)];cases s.turns.tmod s.age==0<;>rfl
   ·rw[decide_eq_false c];rfl
  |some e=>
   have h2:=wU h he;simp only[Tb,Ru,Sw,Sp,cond_false,bne_self_eq_false,show(e.id==0)=false by simp;omega];by_cases c:s.age>0
   ·rw[decide_eq_true c,decide_eq_false (by omega)];cases s.turns.tmod s.age==0<;>rfl
   ·rw[decide_eq_false c];rfl
 |some l=>
  have h1:=Ma h hl
  cases he:nH s with
  |none=>
   simp only[Tb,Ru,Sw,Te,RP,Bool.true_or,Ry,cond_true,beq_self_eq_true,show(l.id !=0)=true by simp;omega];by_cases c:s.age>0
   ·rw[decide_eq_true c,decide_eq_false (by omega)];cases s.turns.tmod s.age==0<;>rfl
   ·rw[decide_eq_false c];rfl
  |some e=>
   have h2:=wU h he;simp only[Ru,Te,Rw,TZ,Ry,show(l.id !=0)=true by simp;omega,show(e.id==0)=false by simp;omega,cond_true,cond_false];by_cases c:s.age>0
   ·rw[decide_eq_true c,decide_eq_false (by omega)];cases s.turns.tmod s.age==0<;>rfl
   ·rw[decide_eq_false c];rfl
def better (key:Task->Int) (m:Option Task) (t:Task):Option Task:=m.elim (some t) λu=>cond (decide (key t<key u)) (some t) (some u)
theorem zy (key:Task->Int):∀(xs:List Task) (m:Task),xs.foldl (better key) (some m)=some (xs.foldl (λm t=>cond (decide (key t<key m)) t m) m)
 |[],m=>rfl
 |x::xs,m=>by
  rw[Sq,Sq,<-zy key xs]
  congr 1
  show cond (decide (key x<key m)) (some x) (some m)=_;cases decide (key x<key m)<;>rfl
theorem JR (key:Task->Int) (xs:List Task):xs.foldl (better key) none=E7 key xs:=by
 cases xs with
 |nil=>rfl
 |cons x xs=>exact zy key xs x
def AtT (ts:List Task) (l:Int) (m:Option Task):Prop:=(m=none/\l=-1)\/∃(j:Nat) (hj:j<ts.length),l=(j:Int)/\m=some ts[j]
theorem Fa {R:Type} {k:Nat} {s:ak} {fin:Int× Int->Option R} (hN:s.tasks.length<=aN):∀(d i:Nat) (l e:Int) (ml me:Option Task) (kf:Nat),i+d=s.tasks.length->d<kf->AtT s.tasks l ml->AtT s.tasks e me->
  ∃l' e',AtT s.tasks l' (((s.tasks.drop i).filter (dU s)).foldl (better Task.born) ml)/\AtT s.tasks e' (((s.tasks.drop i).filter λt=>!dU s t).foldl (better Task.due) me)/\
   iter (λu11 n11=>en k (s.now,s.ai,s.age,s.tasks,s.run,s.left,s.turns,s.next) u11 n11 fin) kf (l,e,(i:Int))=fin (l',e')
 |d,i,l,e,ml,me,0,_,h,_,_=>by omega
 |0,i,l,e,ml,me,kf+1,hi,_,hl,he=>by
  have:i=s.tasks.length:=by omega
  subst this;refine⟨l,e,by simpa using hl,by simpa using he,?_⟩;rw[aF];simp only[en]
  rw[ab,if_neg (by omega)]
 |d+1,i,l,e,ml,me,kf+1,hi,h,hl,he=>by
  have hM:=aq
  have hlt:i<s.tasks.length:=by omega
  have hself:AtT s.tasks (i:Int) (some s.tasks[i]):=.inr ⟨i,hlt,rfl,rfl⟩
  have hstep:∀(l2 e2:Int) (ml2 me2:Option Task),AtT s.tasks l2 ml2->AtT s.tasks e2 me2->ml2=cond (dU s s.tasks[i]) (better Task.born ml s.tasks[i]) ml->me2=cond (dU s s.tasks[i]) me (better Task.due me s.tasks[i])->
    (∀next:Int× Int× Int->Option R,en k (s.now,s.ai,s.age,s.tasks,s.run,s.left,s.turns,s.next) (l,e,(i:Int)) next fin=next (l2,e2,((i+1:Nat):Int)))->
    ∃l' e',AtT s.tasks l' (((s.tasks.drop i).filter (dU s)).foldl (better Task.born) ml)/\AtT s.tasks e' (((s.tasks.drop i).filter λt=>!dU s t).foldl (better Task.due) me)/\
     iter (λu11 n11=>en k (s.now,s.ai,s.age,s.tasks,s.run,s.left,s.turns,s.next) u11 n11 fin) (kf+1) (l,e,(i:Int))=fin (l',e'):=λl2 e2 ml2 me2 h1 h2 e1 e2' hg=>by
   obtain⟨l',e',g1,g2,g3⟩:=Fa (k:=k) (fin:=fin) hN d (i+1) l2 e2 ml2 me2 kf (by omega) (by omega) h1 h2;refine⟨l',e',?_,?_,?_⟩
   ·rw[gx hlt,S4];rw[e1]at g1;cases hb:dU s s.tasks[i]
    ·rw[hb]at g1;exact g1
    ·rw[hb]at g1;exact g1
   ·rw[gx hlt,S4];rw[e2']at g2;cases hb:dU s s.tasks[i]
    ·rw[hb]at g2;exact g2
    ·rw[hb]at g2;exact g2
   ·rw[aF,hg];exact g3
  have e0:∀next:Int× Int× Int->Option R,en k (s.now,s.ai,s.age,s.tasks,s.run,s.left,s.turns,s.next) (l,e,(i:Int)) next fin=
    cond (dU s s.tasks[i]) (cond (decide (l<(0:Int))) (next ((i:Int),e,((i+1:Nat):Int))) ((idx s.tasks l).bind λe3=>cond (decide (s.tasks[i].born<e3.born)) (next ((i:Int),e,((i+1:Nat):Int))) (next (l,e,((i+1:Nat):Int)))))
     (cond (decide (e<(0:Int))) (next (l,(i:Int),((i+1:Nat):Int))) ((idx s.tasks e).bind λe4=>cond (decide (s.tasks[i].due<e4.due)) (next (l,(i:Int),((i+1:Nat):Int))) (next (l,e,((i+1:Nat):Int))))):=λnext=>by
   simp only[en];rw[ab,if_pos (by omega),aC,ag hlt,aa,ay hlt (by omega)];rfl
  cases hb:dU s s.tasks[i]
  ·rcases he with⟨rfl,rfl⟩|⟨j,hj,rfl,rfl⟩
   ·exact hstep l (i:Int) ml (some s.tasks[i]) hl hself (by rw[hb];rfl) (by rw[hb];rfl) λnext=>by rw[e0,hb];rfl
   ·by_cases c:s.tasks[i].due<s.tasks[j].due
    ·exact hstep l (i:Int) ml (some s.tasks[i]) hl hself (by rw[hb];rfl) (by rw[hb];show _=cond (decide (s.tasks[i].due<s.tasks[j].due)) _ _;rw[decide_eq_true c];rfl) λnext=>by
      rw[e0,hb,cond_false,ab,if_neg (by omega),aC,ag hj,aa,decide_eq_true c];rfl
    ·exact hstep l (j:Int) ml (some s.tasks[j]) hl (.inr ⟨j,hj,rfl,rfl⟩) (by rw[hb];rfl) (by rw[hb];show _=cond (decide (s.tasks[i].due<s.tasks[j].due)) _ _;rw[decide_eq_false c];rfl) λnext=>by
      rw[e0,hb,cond_false,ab,if_neg (by omega),aC,ag hj,aa,decide_eq_false c];rfl
  ·rcases hl with⟨rfl,rfl⟩|⟨j,hj,rfl,rfl⟩
   ·exact hstep (i:Int) e (some s.tasks[i]) me hself he (by rw[hb];rfl) (by rw[hb];rfl) λnext=>by rw[e0,hb];rfl
   ·by_cases c:s.tasks[i].born<s.tasks[j].born
    ·exact hstep (i:Int) e (some s.tasks[i]) me hself he (by rw[hb];show _=cond (decide (s.tasks[i].born<s.tasks[j].born)) _ _;rw[decide_eq_true c];rfl) (by rw[hb];rfl) λnext=>by
      rw[e0,hb,cond_true,ab,if_neg (by omega),aC,ag hj,aa,decide_eq_true c];rfl
    ·exact hstep (j:Int) e (some s.tasks[j]) me (.inr ⟨j,hj,rfl,rfl⟩) he (by rw[hb];show _=cond (decide (s.tasks[i].born<s.tasks[j].born)) _ _;rw[decide_eq_false c];rfl) (by rw[hb];rfl) λnext=>by
      rw[e0,hb,cond_true,ab,if_neg (by omega),aC,ag hj,aa,decide_eq_false c];rfl
theorem C4 {k:Nat} {s:ak} (hk:s.tot<k) (hN:s.tot<=aN) (h:bc s=true):qR k s=some (kg s):=by
 have hM:=aq;have hs:=bw h;have hlen:=aS Task.tot s.tasks;have hst:s.tot=dj Task.tot s.tasks+0:=rfl;unfold qR;rw[dE hk hN,aa,h];simp only[Rw,cond_false];obtain⟨l,e,hl,he,hi⟩:=Fa (R:=Int) (k:=k) (s:=s) (fin:=λy5=>cond (decide (y5.1>=(0:Int))) (cond (decide (y5.2<(0:Int))) ((idx s.tasks y5.1).bind λe6=>some e6.id) (cond (decide (s.age>(0:Int))) (cond (decide (s.age=0)) none (cond ((s.turns.tmod s.age)==(0:Int)) ((idx s.tasks y5.1).bind λe7=>some e7.id) (cond (decide (y5.2>=(0:Int))) ((idx s.tasks y5.2).bind λe8=>some e8.id) (some (0:Int))))) (cond (decide (y5.2>=(0:Int))) ((idx s.tasks y5.2).bind λe9=>some e9.id) (some (0:Int))))) (cond (decide (y5.2>=(0:Int))) ((idx s.tasks y5.2).bind λe10=>some e10.id) (some (0:Int)))) (by omega) s.tasks.length 0 (-1) (-1) none none k (by omega) (by omega) (.inl ⟨rfl,rfl⟩) (.inl ⟨rfl,rfl⟩);refine hi.trans ?_;rw[TL,JR]at hl he;unfold kg;have el:Ab s=E7 Task.born (s.tasks.filter (dU s)):=rfl;have ee:nH s=E7 Task.due (s.tasks.filter λt=>!dU s t):=rfl;rw[<-el]at hl;rw[<-ee]at he
 rcases hl with⟨hl,rfl⟩|⟨j,hj,rfl,hl⟩
 ·rcases he with⟨he,rfl⟩|⟨j2,hj2,rfl,he⟩
  ·rw[hl,he];rfl
  ·rw[hl,he];simp only[Sw,Sp,cond_false,Ru];rw[decide_eq_false (show¬((-1:Int)>=0) by omega),decide_eq_true (show((j2:Int)>=0) by omega),aC,ag hj2];rfl
 ·rcases he with⟨he,rfl⟩|⟨j2,hj2,rfl,he⟩
  ·rw[hl,he];rw[decide_eq_true (show((j:Int)>=0) by omega),aC,ag hj];rfl
  ·rw[hl,he];simp only[Te,Rw,TZ,Ry,Ru];rw[decide_eq_true (show((j:Int)>=0) by omega),decide_eq_false (show¬((j2:Int)<0) by omega),decide_eq_true (show((j2:Int)>=0) by omega),aC,ag hj,aC,ag hj2];by_cases c:s.age>0
   ·rw[decide_eq_true c,decide_eq_false (show¬s.age=0 by omega)];cases s.turns.tmod s.age==0<;>rfl
   ·rw[decide_eq_false c];rfl
def ug (s:ak) (run left turns:Int):ak× Int× Bool:=
  cond (decide (left-1>0)) (⟨s.now+1,s.ai,s.age,s.tasks,run,left-1,turns,s.next⟩,0,false)
    ((s.tasks.findIdx? λt=>t.id==run).elim (s,0,false) λi=>(s.tasks[i]?).elim (s,0,false) λt=>
      cond (decide (t.at_+1<t.av.length)) (⟨s.now+1,s.ai,s.age,s.tasks.set i ⟨t.id,t.av,t.at_+1,t.due,t.born⟩,0,left-1,turns,s.next⟩,run,false)
        (⟨s.now+1,s.ai,s.age,J6 (s.tasks.set i ⟨t.id,t.av,t.at_+1,t.due,t.born⟩) run,0,left-1,turns,s.next⟩,run,true))
theorem zz {k:Nat} {s:ak} {run left turns:Int} (hk:s.tot<k) (hN:s.tot<=aN) (h:bc s=true) (hl:1<=left/\left<=1000) {i:Nat} (hf:(s.tasks.findIdx? λt=>t.id==run)=some i):
  (cond (decide ((IntKind.i64.wrap (left-(1:Int)))>(0:Int))) (some ((⟨(IntKind.i64.wrap (s.now+(1:Int))),s.ai,s.age,s.tasks,run,(IntKind.i64.wrap (left-(1:Int))),turns,s.next⟩:ak),(0:Int),false)) ((ku k (⟨(IntKind.i64.wrap (s.now+(1:Int))),s.ai,s.age,s.tasks,run,(IntKind.i64.wrap (left-(1:Int))),turns,s.next⟩:ak) run).bind λr23=>cond (decide (0<=r23/\r23<(s.tasks.length:Int))) ((s.tasks[r23.toNat]?).bind λe24=>cond (decide (0<=r23/\r23<(s.tasks.length:Int))) ((s.tasks[r23.toNat]?).bind λe25=>cond (decide (0<=r23/\r23<((s.tasks.set r23.toNat (⟨e25.id,e25.av,(IntKind.i64.wrap (e24.at_+(1:Int))),e25.due,e25.born⟩:Task)).length:Int))) (((s.tasks.set r23.toNat (⟨e25.id,e25.av,(IntKind.i64.wrap (e24.at_+(1:Int))),e25.due,e25.born⟩:Task))[r23.toNat]?).bind λe26=>cond (decide (0<=r23/\r23<((s.tasks.set r23.toNat (⟨e25.id,e25.av,(IntKind.i64.wrap (e24.at_+(1:Int))),e25.due,e25.born⟩:Task)).length:Int))) (((s.tasks.set r23.toNat (⟨e25.id,e25.av,(IntKind.i64.wrap (e24.at_+(1:Int))),e25.due,e25.born⟩:Task))[r23.toNat]?).bind λe27=>cond (decide (e26.at_<(e27.av.length:Int))) (some ((⟨(IntKind.i64.wrap (s.now+(1:Int))),s.ai,s.age,(s.tasks.set r23.toNat (⟨e25.id,e25.av,(IntKind.i64.wrap (e24.at_+(1:Int))),e25.due,e25.born⟩:Task)),(0:Int),(IntKind.i64.wrap (left-(1:Int))),turns,s.next⟩:ak),run,false)) ((kt (s.tasks.set r23.toNat (⟨e25.id,e25.av,(IntKind.i64.wrap (e24.at_+(1:Int))),e25.due,e25.born⟩:Task))).bind λy28=>(fH k (IntKind.i64.wrap (s.now+(1:Int))) s.ai s.age y28 (0:Int) (IntKind.i64.wrap (left-(1:Int))) turns s.next run).bind λr29=>cond (jh r29) ((oW (s.tasks.set r23.toNat (⟨e25.id,e25.av,(IntKind.i64.wrap (e24.at_+(1:Int))),e25.due,e25.born⟩:Task)) r29).bind λz30=>some ((⟨(IntKind.i64.wrap (s.now+(1:Int))),s.ai,s.age,z30,(0:Int),(IntKind.i64.wrap (left-(1:Int))),turns,s.next⟩:ak),run,true)) none)) none) none) none) none))=some (ug s run left turns):=by
 have hM:=aq;have hs:=bw h;have hlen:=aS Task.tot s.tasks;have hst:s.tot=dj Task.tot s.tasks+0:=rfl;obtain⟨hi,hid⟩:=qb hf;have ht:=bW (bZ hs.2.2.2.2.2.2.1 hi).1;unfold ug;rw[aG (n:=left-1) (by omega) (by omega),aG (n:=s.now+1) (by omega) (by omega)];by_cases c:left-1>0
 ·rw[decide_eq_true c];rfl
 rw[decide_eq_false c,cond_false,cond_false];rw[la (by show s.tasks.length<k;omega) (by show s.tasks.length<=aN;omega),aa];show(λr23:Int=>_) (ka s.tasks run)=_;rw[ia hf];simp only[Rr,RW];rw[ab,if_pos (by omega),ag hi,aa,ab,if_pos (by omega),aa,ab,if_pos (by omega),R7 hi,aa,ab,if_pos (by omega),aa,hf,Ru,ag hi,Ru,aG (n:=s.tasks[i].at_+1) (by omega) (by omega)];simp only;by_cases c2:s.tasks[i].at_+1<(s.tasks[i].av.length:Int)
 ·rw[decide_eq_true c2];rfl
 rw[decide_eq_false c2,cond_false,cond_false,rf,aa,v9 (by rw[eu,RW];omega) (by rw[eu,RW];omega),aa,mD,cond_true,oQ _ (λt=>!(t.id==run)) (λz=>!(z.id==run)) (λn t=>rfl),aa];rfl
theorem Fb {k:Nat} {s:ak} {run left turns:Int} (hk:s.tot<k) (hN:s.tot<=aN) (h:bc s=true) (hl:1<=left/\left<=1000) {i:Nat} (hf:(s.tasks.findIdx? λt=>t.id==run)=some i):
  (cond (decide ((IntKind.i64.wrap (left-(1:Int)))>(0:Int))) (cond (decide (s.ai=s.ai)) (cond (decide (s.age=s.age)) (cond (decide (s.next=s.next)) (some (((0:Int),false),IntKind.i64.wrap (s.now+(1:Int)),s.tasks,run,IntKind.i64.wrap (left-(1:Int)),turns)) none) none) none) ((cZ k (⟨(IntKind.i64.wrap (s.now+(1:Int))),s.ai,s.age,s.tasks,run,(IntKind.i64.wrap (left-(1:Int))),turns,s.next⟩:ak) run).bind λr1=>cond (decide (0<=r1/\r1<(s.tasks.length:Int))) ((s.tasks[r1.toNat]?).bind λe2=>(s.tasks[r1.toNat]?).bind λe3=>((s.tasks.set r1.toNat (⟨e3.id,e3.av,(IntKind.i64.wrap (e2.at_+(1:Int))),e3.due,e3.born⟩:Task))[r1.toNat]?).bind λe4=>((s.tasks.set r1.toNat (⟨e3.id,e3.av,(IntKind.i64.wrap (e2.at_+(1:Int))),e3.due,e3.born⟩:Task))[r1.toNat]?).bind λe5=>cond (decide (e4.at_<(e5.av.length:Int))) (cond (decide (s.ai=s.ai)) (cond (decide (s.age=s.age)) (cond (decide (s.next=s.next)) (some ((run,false),IntKind.i64.wrap (s.now+(1:Int)),s.tasks.set r1.toNat (⟨e3.id,e3.av,(IntKind.i64.wrap (e2.at_+(1:Int))),e3.due,e3.born⟩:Task),(0:Int),IntKind.i64.wrap (left-(1:Int)),turns)) none) none) none) ((kt (s.tasks.set r1.toNat (⟨e3.id,e3.av,(IntKind.i64.wrap (e2.at_+(1:Int))),e3.due,e3.born⟩:Task))).bind λy6=>(dq k (IntKind.i64.wrap (s.now+(1:Int))) s.ai s.age y6 (0:Int) (IntKind.i64.wrap (left-(1:Int))) turns s.next run).bind λr7=>cond (jh r7.1) ((oW (s.tasks.set r1.toNat (⟨e3.id,e3.av,(IntKind.i64.wrap (e2.at_+(1:Int))),e3.due,e3.born⟩:Task)) r7.1).bind λz8=>cond (decide (s.ai=s.ai)) (cond (decide (s.age=s.age)) (cond (decide (s.next=s.next)) (some ((run,true),IntKind.i64.wrap (s.now+(1:Int)),z8,r7.2.1,r7.2.2,turns)) none) none) none) none)) none))=some (((ug s run left turns).2.1,(ug s run left turns).2.2),(ug s run left turns).1.now,(ug s run left turns).1.tasks,(ug s run left turns).1.run,(ug s run left turns).1.left,(ug s run left turns).1.turns):=by
 have hM:=aq;have hs:=bw h;have hlen:=aS Task.tot s.tasks;have hst:s.tot=dj Task.tot s.tasks+0:=rfl;obtain⟨hi,hid⟩:=qb hf;have ht:=bW (bZ hs.2.2.2.2.2.2.1 hi).1;unfold ug;simp only[decide_true,cond_true];rw[aG (n:=left-1) (by omega) (by omega),aG (n:=s.now+1) (by omega) (by omega)];by_cases c:left-1>0
 ·rw[decide_eq_true c];rfl
 rw[decide_eq_false c,cond_false,cond_false];rw[tX (by show s.tasks.length<k;omega) (by show s.tasks.length<=aN;omega),aa];show(λr23:Int=>_) (ka s.tasks run)=_;rw[ia hf];simp only[Rr,RW];rw[ab,if_pos (by omega),ag hi,aa,aa,R7 hi,aa,aa,hf,Ru,ag hi,Ru,aG (n:=s.tasks[i].at_+1) (by omega) (by omega)];simp only;by_cases c2:s.tasks[i].at_+1<(s.tasks[i].av.length:Int)
 ·rw[decide_eq_true c2];rfl
 rw[decide_eq_false c2,cond_false,cond_false,rf,aa,JP (by rw[eu,RW];omega) (by rw[eu,RW];omega),aa];simp only;rw[mD,cond_true,oQ _ (λt=>!(t.id==run)) (λz=>!(z.id==run)) (λn t=>rfl),aa]
 have hne:((0:Int)==run)=false:=by simp;omega
 rw[hne];rfl
def fi (s:ak) (stalled:Bool):ak× Int× Bool:=
  cond (bc s&&!(s.now==1000000))
    (cond stalled (⟨s.now+1,s.ai,s.age,s.tasks,s.run,s.left,s.turns,s.next⟩,0,false)
      (cond (s.run==0)
        (cond (kg s==0) (⟨s.now+1,s.ai,s.age,s.tasks,s.run,s.left,s.turns,s.next⟩,0,false)
          ((s.tasks.findIdx? λt=>t.id==kg s).elim (s,0,false) λi=>(s.tasks[i]?).elim (s,0,false) λt=>ug s (kg s) (eX t) (cond (decide (s.turns+1>1000000)) 0 (s.turns+1))))
        (ug s s.run s.left s.turns))) (s,0,false)
theorem zA {s:ak} (h:bc s=true) (hp:kg s≠0):∃(i:Nat) (hi:i<s.tasks.length),(s.tasks.findIdx? λt=>t.id==kg s)=some i/\s.tasks[i].id=kg s:=by
 have hs:=bw h
 have:∃t∈s.tasks,kg s=t.id:=by
  unfold kg at hp⊢
  cases hl:Ab s with
  |none=>
   cases he:nH s with
   |none=>rw[hl,he]at hp;exact(hp rfl).elim
   |some e=>exact⟨e,(Sg.1 (nI he)).1,rfl⟩
  |some l=>
   cases he:nH s with
   |none=>exact⟨l,(Sg.1 (nI hl)).1,rfl⟩
   |some e=>
    simp only[Te,Rw,TZ,Ry,Ru];cases(decide (s.age>0)&&(s.turns.tmod s.age==0))
    ·exact⟨e,(Sg.1 (nI he)).1,rfl⟩
    ·exact⟨l,(Sg.1 (nI hl)).1,rfl⟩
 obtain⟨t,ht,e⟩:=this;obtain⟨i,hi,rfl⟩:=R5.1 ht;exact⟨i,hi,by rw[e];exact CV hs.2.2.2.2.2.2.1 hi,e.symm⟩
theorem C5 {s:ak} (h:bc s=true) (hr:(s.run==0)=false):(1<=s.left/\s.left<=1000)/\∃i,(s.tasks.findIdx? λt=>t.id==s.run)=some i:=by
 have hs:=bw h;have hrun:=hs.2.2.2.2.2.2.2;unfold J5 at hrun;rw[hr,cond_false]at hrun
 cases hf:s.tasks.findIdx? λt=>t.id==s.run with
 |none=>rw[hf]at hrun;exact nomatch hrun
 |some i=>
  obtain⟨hi,hid⟩:=qb hf;have h1:=re h (Rx hi) hid.symm;have h2:=eY (bZ hs.2.2.2.2.2.2.1 hi).1;exact⟨by omega,i,rfl⟩
theorem Ac {k:Nat} {s:ak} {st:Bool} (hk:s.tot<k) (hN:s.tot<=aN):oC k s st=some (fi s st):=by
 have hM:=aq;have hlen:=aS Task.tot s.tasks;have hst:s.tot=dj Task.tot s.tasks+0:=rfl;unfold oC fi;rw[qc hk hN,aa,dE hk hN,aa];cases h:bc s
 ·rfl
 have hs:=bw h;simp only[Rw,cond_false,Ry];cases(s.now==(1000000:Int))
 case true=>rfl
 simp only[cond_false,RP,cond_true];cases st
 case true=>rw[aG (n:=s.now+1) (by omega) (by omega)];rfl
 simp only[cond_false];cases hr:s.run==0
 ·simp only[cond_false];obtain⟨hl,i,hf⟩:=C5 h hr;exact zz hk hN h hl hf
 simp only[cond_true];rw[C4 hk hN h,aa];by_cases hp:kg s=0
 ·rw[hp,aG (n:=s.now+1) (by omega) (by omega)];rfl
 rw[bH,if_neg hp,bH,if_neg hp];obtain⟨i,hi,hf,hid⟩:=zA h hp;have hc:=eY (bZ hs.2.2.2.2.2.2.1 hi).1;rw[la (by show s.tasks.length<k;omega) (by show s.tasks.length<=aN;omega),aa];show(λr4:Int=>_) (ka s.tasks (kg s))=_;rw[ia hf];simp only[Rr];rw[ab,if_pos (by omega),ag hi,aa,hc.1,aa,hf,Ru,ag hi,Ru,aG (n:=s.turns+1) (by omega) (by omega)];by_cases ct:s.turns+1>1000000
 ·rw[decide_eq_true ct,cond_true,cond_true];exact zz hk hN h ⟨hc.2.1,hc.2.2⟩ hf
 ·rw[decide_eq_false ct,cond_false,cond_false];exact zz hk hN h ⟨hc.2.1,hc.2.2⟩ hf
theorem JS {k:Nat} {s:ak} (hk:s.tot+2<k) (hN:s.tot<aN) (h:bc s=true):
  (kg s=0/\dW k s=some (false,s.run,s.left,s.turns))\/
  ∃(i:Nat) (hi:i<s.tasks.length),kg s≠0/\(s.tasks.findIdx? λt=>t.id==kg s)=some i/\dW k s=some (true,kg s,eX s.tasks[i],cond (decide (s.turns+1>1000000)) 0 (s.turns+1)):=by
 have hM:=aq;have hs:=bw h;have hlen:=aS Task.tot s.tasks;have hst:s.tot=dj Task.tot s.tasks+0:=rfl;unfold dW;rw[Mb hk hN hs.2.2.2.2.2.2.1,aa];simp only[decide_true,cond_true];by_cases hp:kg s=0
 ·exact .inl ⟨hp,by rw[hp];rfl⟩
 ·obtain⟨i,hi,hf,hid⟩:=zA h hp;have hc:=eY (bZ hs.2.2.2.2.2.2.1 hi).1;refine .inr ⟨i,hi,hp,hf,?_⟩;rw[bH,if_neg hp,tX (by omega) (by omega),aa,ia hf,Rr,ab,if_pos (by omega),ag hi,aa,hc.1,aa,aG (n:=s.turns+1) (by omega) (by omega)];cases decide (s.turns+1>1000000)<;>rfl
theorem NR (s:ak) (run left turns:Int) {i:Nat} (hf:(s.tasks.findIdx? λt=>t.id==run)=some i):(ug s run left turns).1.ai=s.ai/\(ug s run left turns).1.age=s.age/\(ug s run left turns).1.next=s.next:=by
 obtain⟨hi,_⟩:=qb hf;unfold ug;cases decide (left-1>0)
 ·rw[hf,cond_false,Ru,ag hi,Ru];cases decide (s.tasks[i].at_+1<(s.tasks[i].av.length:Int))<;>exact⟨rfl,rfl,rfl⟩
 ·exact⟨rfl,rfl,rfl⟩
theorem Ad {k:Nat} {s:ak} {st:Bool} (hk:s.tot+2<k) (hN:s.tot<aN):sf k s st=some (fi s st):=by
 have hM:=aq;have hlen:=aS Task.tot s.tasks;have hst:s.tot=dj Task.tot s.tasks+0:=rfl;unfold sf fi;rw[jo (by omega) (by omega),aa,ke (by omega) (by omega),aa];cases h:bc s
 ·rfl
 have hs:=bw h;simp only[Rw,cond_false,Ry];cases(s.now==(1000000:Int))
 case true=>rfl
 simp only[cond_false,RP,cond_true]
 have fin:∀(run left turns:Int) {i:Nat},(s.tasks.findIdx? λt=>t.id==run)=some i->(some (((ug s run left turns).2.1,(ug s run left turns).2.2),(ug s run left turns).1.now,(ug s run left turns).1.tasks,(ug s run left turns).1.run,(ug s run left turns).1.left,(ug s run left turns).1.turns)).bind (λr3:((Int× Bool)× Int× List Task× Int× Int× Int)=>some ((⟨r3.2.1,s.ai,s.age,r3.2.2.1,r3.2.2.2.1,r3.2.2.2.2.1,r3.2.2.2.2.2,s.next⟩:ak),r3.1.1,r3.1.2))=some (ug s run left turns):=λrun left turns i hf=>by
  obtain⟨g1,g2,g3⟩:=NR s run left turns hf;generalize ug s run left turns=q at g1 g2 g3⊢;obtain⟨⟨a1,a2,a3,a4,a5,a6,a7,a8⟩,b,c⟩:=q;simp only at g1 g2 g3;subst g1 g2 g3;rfl
 unfold fI;cases st
 case true=>rw[aG (n:=s.now+1) (by omega) (by omega)];simp only[decide_true,cond_true,Rw,cond_false,aa]
 simp only[RP,cond_true,cond_false];cases hr:s.run==0
 ·rw[show(s.run !=0)=true by rw[bne,hr];rfl];simp only[cond_true,cond_false];obtain⟨hl,i,hf⟩:=C5 h hr;have e:=Fb (k:=k) (turns:=s.turns) (by omega) (by omega) h hl hf;simp only[decide_true,cond_true]at e⊢;rw[e];exact fin _ _ _ hf
 rw[show(s.run !=0)=false by rw[bne,hr];rfl];simp only[cond_true,cond_false]
 rcases JS hk hN h with⟨hp,e⟩|⟨i,hi,hp,hf,e⟩
 ·rw[e,hp,aa,aG (n:=s.now+1) (by omega) (by omega)];simp only[decide_true,cond_true,RP,aa,beq_self_eq_true]
 ·have hc:=eY (bZ hs.2.2.2.2.2.2.1 hi).1;rw[e,aa,bH,if_neg hp];have e:=Fb (k:=k) (turns:=cond (decide (s.turns+1>1000000)) 0 (s.turns+1)) (by omega) (by omega) h ⟨hc.2.1,hc.2.2⟩ hf;simp only[decide_true,cond_true,Rw,cond_false]at e⊢;rw[e,hf,Ru,ag hi,Ru];exact fin _ _ _ hf
end
section
def Qs:ak:=⟨0,0,0,[],0,0,0,0⟩
def wV (ai age:Int):ak:=⟨0,ai,age,[],0,0,0,1⟩
theorem NS {k:Nat} {a b:Int} (hk:0<k):qS k a b=some (cond (bc (wV a b)) (wV a b,true) (Qs,false)):=by
 unfold qS;rw[dE (by exact hk) (by exact R9 _),aa];show cond (!(bc (wV a b))) _ _=_;cases bc (wV a b)<;>rfl
theorem NT {k:Nat} {a b:Int} (hk:0<k):qT k a b=some (cond (bc (wV a b)) (wV a b,true) (Qs,false)):=by
 unfold qT;rw[ke (by exact hk) (by exact R9 _),aa];show cond (!(bc (wV a b))) _ _=_;cases bc (wV a b)<;>rfl
end
section
def mW {α:Type} (o:Option α) (Q:α->Prop):Prop:=∃r,o=some r/\Q r
theorem mW.bind {α β:Type} {o:Option α} {P:α->Prop} {f:α->Option β} {Q:β->Prop} (h:mW o P) (hf:∀a,P a->mW (f a) Q):mW (o.bind f) Q:=by
 obtain⟨r,e,hp⟩:=h;rw[e];exact hf r hp
theorem mW.some {α:Type} {a:α} {Q:α->Prop} (h:Q a):mW (some a) Q:=⟨a,rfl,h⟩
theorem mW.cond {α:Type} {b:Bool} {x y:Option α} {Q:α->Prop} (h1:b=true->mW x Q) (h2:b=false->mW y Q):mW (cond b x y) Q:=by
 cases b
 ·exact h2 rfl
 ·exact h1 rfl
theorem mW.mono {α:Type} {o:Option α} {P Q:α->Prop} (h:mW o P) (hq:∀a,P a->Q a):mW o Q:=by
 obtain⟨r,e,hp⟩:=h;exact⟨r,e,hq r hp⟩
theorem mW.iter {V R:Type} {g:V->(V->Option R)->Option R} {Inv:V->Prop} {m:V->Nat} {Q:R->Prop}
  (h:∀(v:V) (next:V->Option R),Inv v->(∀u,Inv u->m u<m v->mW (next u) Q)->mW (g v next) Q):∀(k:Nat) (v:V),Inv v->m v<k->mW (iter g k v) Q
 |0,v,_,hk=>by omega
 |k+1,v,hv,hk=>by
  rw[aF];exact h v _ hv λu hu hm=>mW.iter h k u hu (by omega)
end
section
theorem mW.ble {α:Type} {a b:Nat} {x y:Option α} {Q:α->Prop} (h:a<=b) (hx:mW x Q):mW (bif (Nat.ble a b)then x else y) Q:=by
 rw[SK h];exact hx
end
set_option maxRecDepth 100000
section
end
set_option maxRecDepth 100000
section
theorem zB (s:ak) (av:List Int) (due:Int):
  ((eZ s av due).2.2=0/\0<(eZ s av due).2.1/\bc s=true/\zq (eZ s av due).1=true/\(eZ s av due).1=⟨s.now,s.ai,s.age,s.tasks++[⟨s.next,av,0,due,s.now⟩],s.run,s.left,s.turns,s.next+1⟩)\/
  ((eZ s av due).2.2≠0/\(eZ s av due).2.1=0/\(eZ s av due).1=s):=by
 unfold eZ;cases h:bc s&&ie ⟨s.next,av,0,due,s.now⟩
 ·right;simp
 have hb:=(Sn.1 h).1;have hs:=bw hb;cases((s.tasks.length:Int)==12||s.next==1000000)
 ·cases hf:zq ⟨s.now,s.ai,s.age,s.tasks++[⟨s.next,av,0,due,s.now⟩],s.run,s.left,s.turns,s.next+1⟩
  ·right;simp
  ·left;simp only[cond_true,cond_false];exact⟨trivial,by omega,hb,hf,trivial⟩
 ·right;simp
end
section
structure SOk (s:ak):Prop where
 now:0<=s.now/\s.now<=1000000
 ai:0<=s.ai/\s.ai<=1000
 age:0<=s.age/\s.age<=20
 len:s.tasks.length<=12
 turns:0<=s.turns/\s.turns<=1000000
 next:1<=s.next/\s.next<=1000000
 task:∀t∈s.tasks,ie t=true/\t.id<s.next/\t.born<=s.now
 ids:s.tasks.Pairwise λa b=>a.id<b.id
 run:(s.run=0/\s.left=0)\/∃t∈s.tasks,t.id=s.run/\1<=s.left/\s.left<=eX t
theorem Oo {s:ak} (h:bc s=true):SOk s:=by
 have hs:=bw h;have hT:=hs.2.2.2.2.2.2.1;refine⟨hs.1,hs.2.1,hs.2.2.1,hs.2.2.2.1,hs.2.2.2.2.1,hs.2.2.2.2.2.1,λt ht=>?_,C3 hT,?_⟩
 ·obtain⟨i,hi,rfl⟩:=R5.1 ht;have:=bZ hT hi;exact⟨this.1,this.2.1,this.2.2.1⟩
 ·cases hr:s.run==0
  ·obtain⟨_,i,hf⟩:=C5 h hr;obtain⟨hi,hid⟩:=qb hf;exact .inr ⟨s.tasks[i],Rx hi,hid,re h (Rx hi) hid.symm⟩
  ·have hrun:=hs.2.2.2.2.2.2.2;unfold J5 at hrun;rw[hr,cond_true]at hrun;exact .inl ⟨by simpa using hr,by simpa using hrun⟩
theorem zC {s:ak} (h:SOk s):gi s=true:=by
 unfold gi;rw[S3];intro i hi;rw[List.mem_range]at hi;obtain⟨h1,h2,h3⟩:=h.task _ (Rx hi);rw[ag hi,Ru];simp only[Rq,decide_eq_true_eq];refine⟨h1,h2,h3,?_⟩;by_cases c:0<i
 ·rw[decide_eq_true c,cond_true,ag (show i-1<s.tasks.length by omega),Ru];exact decide_eq_true (List.pairwise_iff_getElem.1 h.ids (i-1) i (by omega) hi (by omega))
 ·rw[decide_eq_false c];rfl
theorem wW {s:ak} (h:SOk s):bc s=true:=by
 have hT:=zC h;unfold bc inB;simp only[Rq,decide_eq_true_eq];refine⟨h.now,h.ai,h.age,by have:=h.len;omega,h.turns,h.next,hT,?_⟩
 rcases h.run with⟨h1,h2⟩|⟨t,ht,e,l1,l2⟩
 ·unfold J5;rw[h1,h2];rfl
 ·have hb:=(h.task t ht).1;have hid:=(bW hb).1;obtain⟨i,hi,rfl⟩:=R5.1 ht
  have h0:(s.run==0)=false:=by rw[<-e];simp;omega
  unfold J5;rw[h0,cond_false,<-e,CV hT hi,Ru,ag hi,Ru,(eY hb).1,Ru];exact cd.2 ⟨l1,l2⟩
theorem Ik {ts:List Task} (hp:ts.Pairwise λa b=>a.id<b.id) {t:Task} (ht:t∈ts):∃pre post,ts=pre++t::post/\(∀u∈pre,u.id<t.id)/\(∀u∈post,t.id<u.id)/\(∀u∈pre,∀v∈post,u.id<v.id)/\(pre.Pairwise λa b=>a.id<b.id)/\post.Pairwise λa b=>a.id<b.id:=by
 obtain⟨pre,post,rfl⟩:=List.append_of_mem ht;rw[List.pairwise_append,TJ]at hp;obtain⟨h1,⟨h2,h3⟩,h4⟩:=hp;exact⟨pre,post,rfl,λu hu=>h4 u hu t (by simp),h2,λu hu v hv=>h4 u hu v (by simp[hv]),h1,h3⟩
theorem JT {pre post:List Task} {t:Task} (h:∀u∈pre,u.id≠t.id):((pre++t::post).findIdx? λu=>u.id==t.id)=some pre.length:=by
 rw[List.findIdx?_append]
 have h1:(pre.findIdx? λu=>u.id==t.id)=none:=by
  rw[S2];intro u hu;simpa using h u hu
 rw[h1,TI];simp
theorem Mc {pre post:List Task} {t:Task} {id:Int} (h1:∀u∈pre,u.id≠id) (h2:∀u∈post,u.id≠id) (ht:t.id=id):J6 (pre++t::post) id=pre++post:=by
 unfold J6;rw[Td,S4]
 have e1:pre.filter (λu=>!(u.id==id))=pre:=SG.2 λu hu=>by simpa using h1 u hu
 have e2:post.filter (λu=>!(u.id==id))=post:=SG.2 λu hu=>by simpa using h2 u hu
 rw[e1,e2,ht];simp
def qg (t:Task):Task:=⟨t.id,t.av,t.at_+1,t.due,t.born⟩
theorem Bt {s:ak} {pre post:List Task} {t:Task} {L tr:Int} (e:s.tasks=pre++t::post) (h1:∀u∈pre,u.id≠t.id) (h2:∀u∈post,u.id≠t.id):
  ug s t.id L tr=if L-1>0 then(⟨s.now+1,s.ai,s.age,s.tasks,t.id,L-1,tr,s.next⟩,0,false)else
   if t.at_+1<t.av.length then(⟨s.now+1,s.ai,s.age,pre++qg t::post,0,L-1,tr,s.next⟩,t.id,false)
   else(⟨s.now+1,s.ai,s.age,pre++post,0,L-1,tr,s.next⟩,t.id,true):=by
 unfold ug
 have hf:(s.tasks.findIdx? λu=>u.id==t.id)=some pre.length:=by rw[e];exact JT h1
 have hg:s.tasks[pre.length]? =some t:=by rw[e];simp
 have hset:s.tasks.set pre.length (qg t)=pre++qg t::post:=by rw[e];simp
 rw[ab,hf,Ru,hg,Ru,ab];show(if L-1>0 then _ else if t.at_+1<(t.av.length:Int)then(⟨s.now+1,s.ai,s.age,s.tasks.set pre.length (qg t),0,L-1,tr,s.next⟩,t.id,false)else(⟨s.now+1,s.ai,s.age,J6 (s.tasks.set pre.length (qg t)) t.id,0,L-1,tr,s.next⟩,t.id,true):ak× Int× Bool)=_;rw[hset,Mc (t:=qg t) h1 h2 rfl]
structure Rf (s:ak) (t:Task) (L tr:Int):Prop where
 mem:t∈s.tasks
 lo:1<=L
 hi:L<=eX t
 rem:∀u∈s.tasks,dQ s u=cond (t.id==u.id) (gj u-eX u+L) (gj u)
 trn:0<=tr/\tr<=1000000
 eq:fi s false=ug s t.id L tr
theorem Qt {s:ak} (h:SOk s) {t u:Task} (ht:t∈s.tasks) (hu:u∈s.tasks) (e:t.id=u.id):t=u:=by
 obtain⟨i,hi,rfl⟩:=R5.1 ht;obtain⟨j,hj,rfl⟩:=R5.1 hu;have:=L5 (zC h) hi hj e;subst this;rfl
theorem Bu {key:Task->Int} {xs:List Task} (h:E7 key xs=none):xs=[]:=by
 cases xs with
 |nil=>rfl
 |cons x l=>exact nomatch h
theorem Md {s:ak} (h:SOk s) (hp:kg s=0):s.tasks=[]:=by
 have hT:=zC h
 have hl:Ab s=none:=by
  cases hl:Ab s with
  |none=>rfl
  |some t=>
   have h1:=Ma hT hl
   cases he:nH s with
   |none=>
    unfold kg at hp;rw[hl,he]at hp;simp only[Te,Sw,RP,Bool.true_or,Ry,cond_true,Ru]at hp
    omega
   |some e=>
    have h2:=wU hT he;unfold kg at hp;rw[hl,he]at hp;simp only[Te,Rw,TZ,Ry,Ru]at hp;cases hc:(decide (s.age>0)&&(s.turns.tmod s.age==0))<;>rw[hc]at hp
    ·simp only[cond_false]at hp;omega
    ·simp only[cond_true]at hp;omega
 have he:nH s=none:=by
  cases he:nH s with
  |none=>rfl
  |some e=>
   have h2:=wU hT he;unfold kg at hp;rw[hl,he]at hp;simp only[Sw,Sp,cond_false,Ru]at hp;omega
 have f1:=Bu hl;have f2:=Bu he
 cases ht:s.tasks with
 |nil=>rfl
 |cons x l=>
  have hx:x∈s.tasks:=by rw[ht];simp
  cases hq:dU s x
  ·have:x∈s.tasks.filter λt=>!dU s t:=Sg.2 ⟨hx,by rw[hq];rfl⟩;rw[f2]at this;exact nomatch this
  ·have:x∈s.tasks.filter (dU s):=Sg.2 ⟨hx,hq⟩;rw[f1]at this;exact nomatch this
theorem Fc {s:ak} (h:SOk s) (hn:s.now≠1000000):
  (s.tasks=[]/\s.run=0/\s.left=0/\fi s false=(⟨s.now+1,s.ai,s.age,s.tasks,s.run,s.left,s.turns,s.next⟩,0,false))\/∃t L tr,Rf s t L tr/\(s.run=t.id\/(s.run=0/\kg s=t.id)):=by
 have hb:=wW h
 have hnow:(bc s&&!(s.now==1000000))=true:=by rw[hb];simpa using hn
 rcases h.run with⟨h1,h2⟩|⟨t,ht,e,l1,l2⟩
 ·by_cases hp:kg s=0
  ·left;refine⟨Md h hp,h1,h2,?_⟩;unfold fi;rw[hnow,h1,hp];rfl
  ·right;obtain⟨i,hi,hf,hid⟩:=zA hb hp;have ht:=Rx hi;have hc:=eY (h.task _ ht).1;refine⟨s.tasks[i],eX s.tasks[i],cond (decide (s.turns+1>1000000)) 0 (s.turns+1),⟨ht,hc.2.1,Int.le_refl _,λu hu=>?_,?_,?_⟩,.inr ⟨h1,hid.symm⟩⟩
   ·have hu0:=(bW (h.task u hu).1).1
    have:(s.run==u.id)=false:=by rw[h1];simp;omega
    unfold dQ;rw[this,cond_false];cases hq:s.tasks[i].id==u.id
    ·rfl
    ·have:=Qt h ht hu (by simpa using hq);rw[cond_true,this];omega
   ·have:=h.turns;rw[ab];split<;>omega
   ·have hp':(kg s==0)=false:=by simpa using hp
    unfold fi;rw[hnow,h1,hp',hf];simp only[cond_true,cond_false,Ru];rw[ag hi,Ru,hid];rfl
 ·right;have ht0:=(bW (h.task t ht).1).1;refine⟨t,s.left,s.turns,⟨ht,l1,l2,λu hu=>?_,h.turns,?_⟩,.inl e.symm⟩
  ·unfold dQ;rw[e]
  ·have:(s.run==0)=false:=by rw[<-e];simp;omega
   unfold fi;rw[hnow,this,e];rfl
def Pz (p:Int->Bool) (s:ak):Int:=(s.tasks.map λt=>cond (p t.due) (dQ s t) 0).sum
theorem Fe {t:Task} (h:ie t=true):gj (qg t)=gj t-eX t:=by
 have ht:=bW h
 have hlt:t.at_.toNat<t.av.length:=by omega
 have e:idx t.av t.at_=some t.av[t.at_.toNat]:=by rw[sa _ ht.2.2.1.1];exact ag hlt
 have hc:eX t=t.av[t.at_.toNat]:=by unfold eX;rw[e];rfl
 unfold gj qg
 have e2:(t.at_+1).toNat=t.at_.toNat+1:=by omega
 simp only;rw[e2,gx hlt,SY,hc];omega
theorem Me {t:Task} (h:ie t=true) (hl:¬t.at_+1<t.av.length):gj t-eX t=0:=by
 rw[<-Fe h];unfold gj qg;simp only;rw[List.drop_eq_nil_of_le (by omega)];rfl
structure Qu (s:ak) (t:Task) (r:ak× Int× Bool):Prop where
 ok:SOk r.1
 now:r.1.now=s.now+1
 ai:r.1.ai=s.ai
 age:r.1.age=s.age
 next:r.1.next=s.next
 sum:∀p:Int->Bool,Pz p r.1=Pz p s-cond (p t.due) 1 0
 from_:∀u∈r.1.tasks,∃v∈s.tasks,v.id=u.id/\v.due=u.due
 told:(r.2.1=0/\r.2.2=false/\r.1.run=t.id/\r.1.tasks=s.tasks)\/(r.2.1=t.id/\r.1.run=0/\r.1.left=0)
 goes:r.2.2=true->r.2.1=t.id/\∀u∈r.1.tasks,u.id≠t.id
theorem worked {s:ak} {t:Task} {L tr:Int} (h:SOk s) (hn:s.now≠1000000) (T:Rf s t L tr):Qu s t (fi s false):=by
  obtain⟨pre,post,e,h1,h2,h3,h4,h5⟩:=Ik h.ids T.mem;have hb:=(h.task t T.mem).1;have htb:=bW hb
  have n1:∀u∈pre,u.id≠t.id:=λu hu=>by have:=h1 u hu;omega
  have n2:∀u∈post,u.id≠t.id:=λu hu=>by have:=h2 u hu;omega
  have m1:∀u∈pre,u∈s.tasks:=λu hu=>by rw[e];simp[hu]
  have m2:∀u∈post,u∈s.tasks:=λu hu=>by rw[e];simp[hu]
  have hlen:=h.len;rw[e,RD,RA]at hlen;have hnow:=h.now
  have part:∀(p:Int->Bool) (s':ak) (l:List Task),(∀u∈l,u∈s.tasks/\u.id≠t.id)->(∀u∈l,s'.run≠u.id)->(l.map λu=>cond (p u.due) (dQ s' u) 0)=l.map λu=>cond (p u.due) (dQ s u) 0:=λp s' l hl hr=>List.map_congr_left λu hu=>by
    have r1:dQ s' u=gj u:=by unfold dQ;rw[show(s'.run==u.id)=false by simpa using hr u hu];rfl
    have r2:dQ s u=gj u:=by rw[T.rem u (hl u hu).1,show(t.id==u.id)=false by simpa usingλq=>(hl u hu).2 q.symm];rfl
    rw[r1,r2]
  have q1:∀u∈pre,u∈s.tasks/\u.id≠t.id:=λu hu=>⟨m1 u hu,n1 u hu⟩;have q2:∀u∈post,u∈s.tasks/\u.id≠t.id:=λu hu=>⟨m2 u hu,n2 u hu⟩
  have z1:∀u∈s.tasks,(0:Int)≠u.id:=λu hu=>by have:=(bW (h.task u hu).1).1;omega
  have rt:dQ s t=gj t-eX t+L:=by rw[T.rem t T.mem];simp
  have old:∀p:Int->Bool,Pz p s=(pre.map λu=>cond (p u.due) (dQ s u) 0).sum+(cond (p t.due) (gj t-eX t+L) 0+(post.map λu=>cond (p u.due) (dQ s u) 0).sum):=λp=>by
    unfold Pz;rw[<-rt];conv=>lhs;rw[e,SB,Ti,R4,SY]
  rw[T.eq,Bt e n1 n2];have hlo:=T.lo;by_cases c1:L-1>0
  · rw[if_pos c1];refine⟨⟨by simp only;omega,h.ai,h.age,h.len,T.trn,h.next,λu hu=>?_,h.ids,.inr ⟨t,T.mem,rfl,?_⟩⟩,rfl,rfl,rfl,rfl,λp=>?_,λu hu=>⟨u,hu,rfl,rfl⟩,.inl ⟨rfl,rfl,rfl,rfl⟩,λhg=>nomatch hg⟩
    · have:=h.task u hu;exact⟨this.1,this.2.1,by simp only;omega⟩
    · have:=T.hi;simp only;omega
    · rw[old p];unfold Pz;simp only
      conv=>lhs;rw[show List.map (λu:Task=>cond (p u.due) (dQ ⟨s.now+1,s.ai,s.age,s.tasks,t.id,L-1,tr,s.next⟩ u) 0) s.tasks=List.map (λu:Task=>cond (p u.due) (dQ ⟨s.now+1,s.ai,s.age,s.tasks,t.id,L-1,tr,s.next⟩ u) 0) (pre++t::post)from by rw[<-e],SB,Ti,R4,SY]
      rw[part p _ pre q1 (λu hu=>(n1 u hu).symm),part p _ post q2 (λu hu=>(n2 u hu).symm)]
      have:dQ ⟨s.now+1,s.ai,s.age,s.tasks,t.id,L-1,tr,s.next⟩ t=gj t-eX t+(L-1):=by unfold dQ;simp
      rw[this];cases p t.due<;>simp only[cond_true,cond_false]<;>omega
  · have hL:L=1:=by omega
    subst hL;rw[if_neg c1];by_cases c2:t.at_+1<t.av.length
    · rw [if_pos c2]
      have hnb:ie (qg t)=true:=by
        unfold ie inB qg;unfold ie inB at hb;simp only[Rq,decide_eq_true_eq]at hb⊢;exact⟨hb.1,hb.2.1,⟨by omega,by omega⟩,hb.2.2.2.1,hb.2.2.2.2.1,hb.2.2.2.2.2⟩
      refine⟨⟨by simp only;omega,h.ai,h.age,by simp only[RD,RA];omega,T.trn,h.next,λu hu=>?_,?_,.inl ⟨rfl,rfl⟩⟩,rfl,rfl,rfl,rfl,λp=>?_,λu hu=>?_,.inr ⟨rfl,rfl,rfl⟩,λhg=>nomatch hg⟩
      · simp only at hu⊢
        rcases Sf.1 hu with hu|hu
        · have:=h.task u (m1 u hu);exact⟨this.1,this.2.1,by omega⟩
        · rcases RN.1 hu with rfl|hu
          · have:=h.task t T.mem;exact⟨hnb,this.2.1,by show t.born<=_;omega⟩
          · have:=h.task u (m2 u hu);exact⟨this.1,this.2.1,by omega⟩
      · simp only;rw[List.pairwise_append,TJ];refine⟨h4,⟨h2,h5⟩,λu hu v hv=>?_⟩
        rcases RN.1 hv with rfl|hv
        · exact h1 u hu
        · exact h3 u hu v hv
      · rw[old p];unfold Pz;simp only;rw[SB,Ti,R4,SY];rw[part p _ pre q1 (λu hu=>z1 u (m1 u hu)),part p _ post q2 (λu hu=>z1 u (m2 u hu))];have hd:(qg t).due=t.due:=rfl
        have:dQ ⟨s.now+1,s.ai,s.age,pre++qg t::post,0,1-1,tr,s.next⟩ (qg t)=gj t-eX t:=by
          unfold dQ;rw[show((0:Int)==(qg t).id)=false by show((0:Int)==t.id)=false;simp;omega,cond_false,Fe hb]
        rw[this,hd];cases p t.due<;>simp only[cond_true,cond_false]<;>omega
      · simp only at hu
        rcases Sf.1 hu with hu|hu
        · exact⟨u,m1 u hu,rfl,rfl⟩
        · rcases RN.1 hu with rfl|hu
          · exact⟨t,T.mem,rfl,rfl⟩
          · exact⟨u,m2 u hu,rfl,rfl⟩
    · rw[if_neg c2];have hr:=Me hb c2;refine⟨⟨by simp only;omega,h.ai,h.age,by simp only[RD];omega,T.trn,h.next,λu hu=>?_,?_,.inl ⟨rfl,rfl⟩⟩,rfl,rfl,rfl,rfl,λp=>?_,λu hu=>?_,.inr ⟨rfl,rfl,rfl⟩,λ_=>⟨rfl,λu hu=>?_⟩⟩
      · simp only at hu⊢
        rcases Sf.1 hu with hu|hu
        · have:=h.task u (m1 u hu);exact⟨this.1,this.2.1,by omega⟩
        · have:=h.task u (m2 u hu);exact⟨this.1,this.2.1,by omega⟩
      · simp only;rw[List.pairwise_append];exact⟨h4,h5,h3⟩
      · rw[old p];unfold Pz;simp only;rw[SB,Ti];rw[part p _ pre q1 (λu hu=>z1 u (m1 u hu)),part p _ post q2 (λu hu=>z1 u (m2 u hu)),hr];cases p t.due<;>simp only[cond_true,cond_false]<;>omega
      · simp only at hu
        rcases Sf.1 hu with hu|hu
        · exact⟨u,m1 u hu,rfl,rfl⟩
        · exact⟨u,m2 u hu,rfl,rfl⟩
      · simp only at hu
        rcases Sf.1 hu with hu|hu
        · exact n1 u hu
        · exact n2 u hu
theorem wc {s:ak} (h:SOk s) (hn:s.now≠1000000):fi s true=(⟨s.now+1,s.ai,s.age,s.tasks,s.run,s.left,s.turns,s.next⟩,0,false):=by
 have hnow:(bc s&&!(s.now==1000000))=true:=by rw[wW h];simpa using hn
 unfold fi;rw[hnow];rfl
theorem wX {s:ak} (hn:s.now=1000000) (st:Bool):fi s st=(s,0,false):=by
 unfold fi;rw[hn];simp
theorem Il {s:ak} (h:SOk s) (hn:s.now≠1000000):SOk ⟨s.now+1,s.ai,s.age,s.tasks,s.run,s.left,s.turns,s.next⟩:=by
 have:=h.now;exact⟨by simp only;omega,h.ai,h.age,h.len,h.turns,h.next,λu hu=>by have:=h.task u hu;exact⟨this.1,this.2.1,by simp only;omega⟩,h.ids,h.run⟩
theorem PA {s:ak} (h:SOk s) (st:Bool):SOk (fi s st).1:=by
 by_cases hn:s.now=1000000
 ·rw[wX hn];exact h
 cases st
 ·rcases Fc h hn with⟨_,_,_,e⟩|⟨t,L,tr,T,_⟩
  ·rw[e];exact Il h hn
  ·exact(worked h hn T).ok
 ·rw[wc h hn];exact Il h hn
theorem Mf {s:ak} (h:SOk s) (id:Int):SOk (qe s id).1:=by
 unfold qe;cases hc:(bc s&&decide (0<=ka s.tasks id))
 ·exact h
 rw[cond_true]
 have hm:∀u∈J6 s.tasks id,u∈s.tasks/\u.id≠id:=λu hu=>by
  have:=Sg.1 hu;exact⟨this.1,by simpa using this.2⟩
 refine⟨h.now,h.ai,h.age,SN (Tg _ _) h.len,h.turns,h.next,λu hu=>h.task u (hm u hu).1,h.ids.filter _,?_⟩;cases hr:s.run==id
 ·simp only[cond_false]
  rcases h.run with h1|⟨t,ht,e,l⟩
  ·exact .inl h1
  ·refine .inr ⟨t,Sg.2 ⟨ht,?_⟩,e,l⟩;rw[e,hr];rfl
 ·exact .inl ⟨rfl,rfl⟩
theorem NU {s:ak} (h:SOk s) (av:List Int) (due:Int):SOk (eZ s av due).1:=by
 rcases zB s av due with⟨_,_,_,g,_⟩|⟨_,_,g⟩
 ·unfold zq at g;exact Oo (Sn.1 g).1
 ·rw[g];exact h
end
set_option maxRecDepth 100000
section
end
set_option maxRecDepth 100000
set_option maxHeartbeats 4000000
section
theorem JU {b:List Int} (h:(dP b).2=0):et (dP b).1=true:=by
  unfold dP at h⊢;by_cases c:(b.length:Int)>6000
  · rw[decide_eq_true c]at h;exact absurd (show(5:Int)=0 from h) (by decide)
  rw[decide_eq_false c]at h⊢;simp only[cond_false]at h⊢;cases c1:decide (b.take 3=[80,77,49])
  · rw[c1]at h;exact absurd (show(1:Int)=0 from h) (by decide)
  rw[c1]at h;simp only[Rw,cond_false]at h⊢;generalize aR b 3 false=r2 at h⊢;generalize aR b r2.2.1 r2.2.2=r3 at h⊢;generalize aR b r3.2.1 r3.2.2=r4 at h⊢;generalize bS b r4.2.1 r4.2.2 2000=r5 at h⊢;generalize p6 b r5.1.toNat r5.2.1 r5.2.2 []=y at h⊢;generalize aR b y.1 y.2.1=r6 at h⊢;cases c2:r6.2.2
  · rw [c2] at h;simp only[cond_false]at h⊢;cases c3:(r6.1 !=GU ((b.take y.1.toNat).drop 0))
    · rw[c3]at h;simp only[cond_false]at h⊢;cases c4:(r6.2.1 !=(b.length:Int))
      · rw[c4]at h;simp only[cond_false]at h⊢;cases c5:et ⟨⟨r2.1,r3.1,r4.1⟩,y.2.2⟩
        · rw[c5]at h;exact absurd (show(4:Int)=0 from h) (by decide)
        · simp only[Rw,cond_false];exact c5
      · rw[c4]at h;exact absurd (show(3:Int)=0 from h) (by decide)
    · rw[c3]at h;exact absurd (show(3:Int)=0 from h) (by decide)
  · rw[c2]at h;exact absurd (show(2:Int)=0 from h) (by decide)
theorem sy (b:List Int):(dP b).1.tot<=8002000:=by
  have h0:cX.tot=0:=rfl;unfold dP;generalize aR b 3 false=r2;simp only;generalize aR b r2.2.1 r2.2.2=r3;generalize aR b r3.2.1 r3.2.2=r4;have hc:=qZ b r4.2.1 r4.2.2;generalize bS b r4.2.1 r4.2.2 2000=r5 at hc;have ht:=ra b r5.1.toNat r5.2.1 r5.2.2 [];rw[show dj aj.tot []=0 from rfl]at ht;generalize p6 b r5.1.toNat r5.2.1 r5.2.2 []=y at ht;generalize aR b y.1 y.2.1=r6
  have hy:(⟨⟨r2.1,r3.1,r4.1⟩,y.2.2⟩:Model).tot<=8002000:=by show dj aj.tot y.2.2+0<=_;omega
  cases decide ((b.length:Int)>6000)<;>simp only[cond_true,cond_false]
  · cases (!decide (b.take 3 = [80, 77, 49])) <;> simp only [cond_true, cond_false]
    · cases r6.2.2<;>simp only[cond_true,cond_false]
      · cases(r6.1 !=GU ((b.take y.1.toNat).drop 0))<;>simp only[cond_true,cond_false]
        · cases(r6.2.1 !=(b.length:Int))<;>simp only[cond_true,cond_false]
          · generalize (!et _)=q;cases q<;>simp only[cond_true,cond_false]
            · exact hy
            · omega
          · omega
        · omega
      · omega
    · omega
  · omega
def rG (m:Model):Bool:=(bo m).all λc=>decide (c<=1000)
theorem C6 {k:Nat} {m:Model} (hk:m.tot<k) (hN:m.tot<=aN):qU k m=some (rG m&&et m):=by
 have hM:=aq;have hc:=jn m;have hl:=aS aj.tot m.ao;have ht:m.tot=dj aj.tot m.ao+0:=rfl;unfold qU rG;rw[j8 hk hN,aa,vV hk hN]
 rw[oh (bo m) (λc=>decide (c<=1000)) (no:=some false) (yes:=some (et m)) (λi hi next=>by
  unfold kL;simp only;rw[decide_eq_true (by omega),cond_true,decide_eq_true (by omega),cond_true,Rr,ag hi,aa,ay hi (by omega)];by_cases c:(bo m)[i]<=1000
  ·rw[decide_eq_false (by omega),decide_eq_true c];rfl
  ·rw[decide_eq_true (by omega),decide_eq_false c];rfl) (λnext=>by
  unfold kL;simp only
  rw[decide_eq_false (by omega)];rfl) (by omega)]
 cases(bo m).all λc=>decide (c<=1000)<;>rfl
theorem Ff {k:Nat} {m:Model} (hk:m.tot+1<k) (hN:m.tot<aN):tL k m=some (rG m):=by
 have hM:=aq;have hc:=jn m;have hl:=aS aj.tot m.ao;have ht:m.tot=dj aj.tot m.ao+0:=rfl;unfold tL rG bR ch;rw[j9 hk hN,aa]
 rw[eM (bo m) (λx=>decide (x>1000)) (λi hi next=>by
  simp only[ba,ab,pT,aa]
  rw[if_pos (by omega),aC,ag hi,aa,ay hi (by omega)]) (λnext=>by
  simp only[ba,ab];rw[if_neg (by omega)]) (by omega)]
 rw[cK];simp only[aa,nB];rw[S8,TP]
 congr 2
 funext c
 rw[<-decide_not]
 congr 1
 exact propext Int.not_lt
def sA:al:=⟨⟨0,0,0⟩,[]⟩
def dn (kind code:Int):List Event:=[⟨5,kind,code,sA⟩]
def Im (r:Runtime) (a:Int):Bool:=inB a 0 3&&r.ax.getD a.toNat false
def rq (r:Runtime) (x:Step):List Event× List Model× List Bool:=
 cond (inB x.a 0 3&&!r.ax.getD x.a.toNat false) (cond (decide ((dP x.data).2=0)&&rG (dP x.data).1) ([⟨0,x.a,yN (dP x.data).1,sA⟩],r.ar.set x.a.toNat (dP x.data).1,r.ax.set x.a.toNat true) (dn x.kind 2,r.ar,r.ax)) (dn x.kind 1,r.ar,r.ax)
section
variable {k:Nat} {r:Runtime} {x:Step} (hk:9000000<=k) (hb:∀y∈x.data,okB y) (hl:x.data.length<=aN) (hlo:r.ax.length=4) (hmo:r.ar.length=4)
include hk hb hl hlo hmo
theorem Mg:oD k r x=some (rq r x):=by
 have hM:=aq;have hd:=sy x.data;unfold oD rq bu;rw[cy,aa];cases c1:inB x.a 0 3
 ·simp only[RP,cond_true,aa,decide_true,Sp,cond_false];rfl
 have c1':=of_decide_eq_true c1
 have hi:x.a.toNat<r.ax.length:=by omega
 simp only[Rw,cond_false,Ry];rw[decide_eq_true (by omega),cond_true,ag hi,aa,bJ hi];cases c2:r.ax[x.a.toNat]
 ·simp only[cond_false,RP,cond_true];rw[wq hk hb hl,aa,nC];by_cases c3:(dP x.data).2=0
  ·rw[decide_eq_true c3];simp only[cond_true,Ry];rw[C6 (by omega) (by omega),aa,JU c3,TE];cases rG (dP x.data).1
   ·simp only[RP,cond_true,aa,decide_true,cond_false];rfl
   ·simp only[Rw,cond_false,cond_true];rw[decide_eq_true (by omega),cond_true,zZ (by omega) (by omega),aa];simp only[decide_true,cond_true];rfl
  ·rw[decide_eq_false c3];simp only[cond_true,aa,decide_true,Sp,cond_false];rfl
 ·simp only[cond_true,aa,decide_true,Rw,cond_false];rfl
theorem Mh:fY k r x=some (rq r x):=by
 have hM:=aq;have hd:=sy x.data;unfold fY rq dD;rw[fy,aa];cases c1:inB x.a 0 3
 ·simp only[RP,cond_true,aa,decide_true,Sp,cond_false];rfl
 have c1':=of_decide_eq_true c1
 have hi:x.a.toNat<r.ax.length:=by omega
 simp only[Rw,cond_false,Ry];rw[decide_eq_true (by omega),cond_true,ag hi,aa,bJ hi];cases c2:r.ax[x.a.toNat]
 ·simp only[cond_false,RP,cond_true];rw[wu hk hb hl,aa,nC];by_cases c3:(dP x.data).2=0
  ·rw[decide_eq_true c3];simp only[cond_true,Ry];rw[Ff (by omega) (by omega),aa];cases rG (dP x.data).1
   ·simp only[RP,cond_true,aa,decide_true,cond_false];rfl
   ·simp only[Rw,cond_false,cond_true];rw[decide_eq_true (by omega),cond_true,Aa (by omega) (by omega),aa];simp only[decide_true,cond_true];rfl
  ·rw[decide_eq_false c3];simp only[cond_true,aa,decide_true,Sp,cond_false];rfl
 ·simp only[cond_true,aa,decide_true,Rw,cond_false];rfl
end
theorem tZ {k:Nat} {r:Runtime} {a:Int} (hlo:r.ax.length=4):ep k r a=some (Im r a):=by
 unfold ep Im;rw[fy,aa];cases c:inB a 0 3
 ·rfl
 have c':=of_decide_eq_true c;simp only[cond_true,Ry];rw[sa _ (by omega),ag (show a.toNat<r.ax.length by omega),bJ (show a.toNat<r.ax.length by omega)];rfl
end
set_option maxRecDepth 100000
set_option maxHeartbeats 4000000
section
def ua (rs:List Request) (id:Int):Int:=(rs.findIdx? λq=>q.id==id).elim (-1) λi=>(i:Int)
def wY (rs:List Request) (id:Int):List Request:=rs.filter λq=>!(q.id==id)
section
variable {k:Nat} {rs:List Request} {id:Int} (hk:rs.length<k) (hN:rs.length<=aN)
include hk hN
theorem zD:bq k rs id=some (ua rs id):=by
 have hM:=aq;unfold bq ua
 rw[eM rs (λt=>t.id==id) (yes:=some (-1)) (no:=some) (λi hi next=>by
  simp only[aY,gp,decide_true,cond_true,aa]
  rw[ab,if_pos (by omega),ab,if_pos (by omega),Rr,ag hi,aa,ay hi (by omega)]) (λnext=>by
  simp only[aY,decide_true,cond_true];rw[ab,if_neg (by omega)]) hk]
 exact cK _
theorem zE:br k rs id=some (ua rs id):=by
 have hM:=aq;unfold br ua
 rw[eM rs (λt=>t.id==id) (yes:=some (-1)) (no:=some) (λi hi next=>by
  simp only[aZ,gT,decide_true,cond_true,aa]
  rw[ab,if_pos (by omega),aC,ag hi,aa,ay hi (by omega)]) (λnext=>by
  simp only[aZ,decide_true,cond_true];rw[ab,if_neg (by omega)]) hk]
 exact cK _
theorem zF:bj k rs id=some (wY rs id):=by
  have hM:=aq;unfold bj wY;rw[zD hk hN,aa];unfold ua
  cases hf:rs.findIdx? λz=>z.id==id with
  | none =>
    rw[Tb,filter_none hf]
    simp
  | some i =>
    obtain⟨hi,hfi⟩:=mE hf;rw[Ru,bH,if_neg (by omega),ay hi (by omega)]
    obtain⟨i',ys',h1,h2,h3,h4⟩:=jq rs (λz=>z.id==id) (R:=List Request) (g:=(λu5 n5=>aM k id u5 n5 (λy4=>cond (decide (0<=y4.1/\y4.1<=(y4.2.length:Int))) (cond (decide (0<=y4.1/\y4.1<=(((y4.2).take y4.1.toNat++List.replicate (y4.2.length-y4.1.toNat) (⟨(0:Int),(0:Int),(⟨(⟨(⟨(0:Int),(0:Int),(0:Int)⟩:Shape),([]:List aj)⟩:Model),(0:Int),(⟨(⟨(0:Int),(0:Int),(0:Int)⟩:Shape),([]:List Int)⟩:al),(0:Int)⟩:Job),(0:Int)⟩:Request)++(y4.2).drop (y4.1.toNat+(y4.2.length-y4.1.toNat))).length:Int))) (cond (decide (id=id)) (some (((y4.2).take y4.1.toNat++List.replicate (y4.2.length-y4.1.toNat) (⟨(0:Int),(0:Int),(⟨(⟨(⟨(0:Int),(0:Int),(0:Int)⟩:Shape),([]:List aj)⟩:Model),(0:Int),(⟨(⟨(0:Int),(0:Int),(0:Int)⟩:Shape),([]:List Int)⟩:al),(0:Int)⟩:Job),(0:Int)⟩:Request)++(y4.2).drop (y4.1.toNat+(y4.2.length-y4.1.toNat))).take (y4.1.toNat-0))) none) none) none)))
      (fin:=(λy4=>cond (decide (0<=y4.1/\y4.1<=(y4.2.length:Int))) (cond (decide (0<=y4.1/\y4.1<=(((y4.2).take y4.1.toNat++List.replicate (y4.2.length-y4.1.toNat) (⟨(0:Int),(0:Int),(⟨(⟨(⟨(0:Int),(0:Int),(0:Int)⟩:Shape),([]:List aj)⟩:Model),(0:Int),(⟨(⟨(0:Int),(0:Int),(0:Int)⟩:Shape),([]:List Int)⟩:al),(0:Int)⟩:Job),(0:Int)⟩:Request)++(y4.2).drop (y4.1.toNat+(y4.2.length-y4.1.toNat))).length:Int))) (cond (decide (id=id)) (some (((y4.2).take y4.1.toNat++List.replicate (y4.2.length-y4.1.toNat) (⟨(0:Int),(0:Int),(⟨(⟨(⟨(0:Int),(0:Int),(0:Int)⟩:Shape),([]:List aj)⟩:Model),(0:Int),(⟨(⟨(0:Int),(0:Int),(0:Int)⟩:Shape),([]:List Int)⟩:al),(0:Int)⟩:Job),(0:Int)⟩:Request)++(y4.2).drop (y4.1.toNat+(y4.2.length-y4.1.toNat))).take (y4.1.toNat-0))) none) none) none))
      (λi j ys hj next hij hl hg=>by
        simp only[aM,fK,decide_true,cond_true,aa,hl]
        rw[ab,if_pos (by omega),ab,if_pos (by omega),Rr,hg,aa,cond_not,ab,if_pos (by omega),ay hj (by omega),ay (show i<rs.length by omega) (by omega),Rr])
      (λi ys next hl=>by simp only[aM,hl];rw[ab,if_neg (by omega)])
      (rs.length-(i+1)) i (i+1) rs k (by omega) (by omega) (by omega) rfl rfl hfi
    refine h4.trans ?_;obtain⟨c1,c2⟩:=rh (⟨(0:Int),(0:Int),(⟨(⟨(⟨(0:Int),(0:Int),(0:Int)⟩:Shape),([]:List aj)⟩:Model),(0:Int),(⟨(⟨(0:Int),(0:Int),(0:Int)⟩:Shape),([]:List Int)⟩:al),(0:Int)⟩:Job),(0:Int)⟩:Request) h1 h2;simp only[Rr,h2,decide_true,cond_true];rw[c2,c1,ab,if_pos (by omega),ab,if_pos (by omega),h3]
end
theorem vu {k:Nat} {r:Runtime} {id:Int} (hk:r.ae.length<k) (hN:r.ae.length<=aN):gF k r id=some (ua r.ae id):=by
 unfold gF;rw[zE hk hN];rfl
theorem ri {k:Nat} {r:Runtime} {id:Int} (hk:r.ae.length<k) (hN:r.ae.length<=aN):vf k r id=some (ua r.ae id):=by
 have hM:=aq;unfold vf ua
 rw[eM r.ae (λt=>t.id==id) (yes:=some (-1)) (no:=some) (λi hi next=>by
  simp only[qV]
  rw[ab,if_pos (by omega),aC,ag hi,aa,ay hi (by omega)]) (λnext=>by
  simp only[qV];rw[ab,if_neg (by omega)]) hk]
 exact cK _
def vw (s:ak) (id:Int):ak:=⟨s.now,s.ai,s.age,J6 s.tasks id,cond (s.run==id) 0 s.run,cond (s.run==id) 0 s.left,s.turns,s.next⟩
theorem vx {s:ak} (h:SOk s) {id:Int} (hid:1<=id):(qe s id).1=vw s id:=by
 unfold qe;rw[wW h,Ry];by_cases c:0<=ka s.tasks id
 ·rw[decide_eq_true c];rfl
 rw[decide_eq_false c,cond_false]
 have hn:∀t∈s.tasks,t.id≠id:=λt ht e=>by
  unfold ka at c
  cases hf:s.tasks.findIdx? λt=>t.id==id with
  |none=>rw[S2]at hf;have:=hf t ht;simp[e]at this
  |some i=>rw[hf,Ru]at c;omega
 have ht:J6 s.tasks id=s.tasks:=SG.2 λt ht=>by simpa using hn t ht
 have hr:(s.run==id)=false:=by
  rcases h.run with⟨h1,_⟩|⟨t,g1,g2,_⟩
  ·rw[h1];simp;omega
  ·rw[<-g2];simpa using hn t g1
 unfold vw;rw[ht,hr];rfl
def Qv (r:Runtime) (id:Int):Runtime:=⟨vw r.sched id,r.ar,r.ax,wY r.ae id⟩
section
variable {k:Nat} {r:Runtime} {id:Int} (hk:r.sched.tot+r.ae.length<k) (hN:r.sched.tot+r.ae.length<=aN)
include hk hN
theorem Mi (h:SOk r.sched) (hid:1<=id):oE k r id=some (let s:=vw r.sched id;(s.now,s.ai,s.age,s.tasks,s.run,s.left,s.turns,s.next,wY r.ae id)):=by
 have hM:=aq;unfold oE
 refine(oO r.ae (λq=>!(q.id==id)) (λq=>q) (g:=λu5 n5=>gE k (id,r.sched.now,r.sched.ai,r.sched.age,r.sched.run,r.sched.left,r.sched.turns,r.sched.next,r.ae,r.sched.tasks,r.ar,r.ax) u5 n5 _) (fin:=_) (λi ys hi next hl=>by
  simp only[gE];rw[ab,if_pos (by omega),aC,ag hi,aa,aa,cw (by omega),ay hi (by omega)]
  rfl) (λys next=>by
  simp only[gE];rw[ab,if_neg (by omega)]) (by omega)).trans ?_
 simp only[TR,qf (show r.sched.tot<k by omega) (show r.sched.tot<=aN by omega),aa,decide_true,cond_true];have:=vx h hid;rw[<-this];unfold qe wY;cases(bc r.sched&&decide (0<=ka r.sched.tasks id))<;>rfl
theorem Bv (h:SOk r.sched) (hid:1<=id):j4 k r id=some (let s:=vw r.sched id;(s.now,s.ai,s.age,s.tasks,s.run,s.left,s.turns,s.next,wY r.ae id)):=by
 have hM:=aq;unfold j4
 refine(oO r.ae (λq=>!(q.id==id)) (λq=>q) (g:=λu5 n5=>fJ k (id,r.sched.now,r.sched.ai,r.sched.age,r.sched.run,r.sched.left,r.sched.turns,r.sched.next,r.sched.tasks,r.ar,r.ax,r.ae) u5 n5 _) (fin:=_) (λi ys hi next hl=>by
  simp only[fJ];rw[ab,if_pos (by omega),ab,if_pos (by omega),Rr,ag hi,aa,ab,if_pos (by omega),aa,cw (by omega),ay hi (by omega)]
  rfl) (λys next=>by
  simp only[fJ];rw[ab,if_neg (by omega)]) (by omega)).trans ?_
 simp only[TR,qf (show r.sched.tot<k by omega) (show r.sched.tot<=aN by omega),aa,decide_true,cond_true];have:=vx h hid;rw[<-this];unfold qe wY;cases(bc r.sched&&decide (0<=ka r.sched.tasks id))<;>rfl
omit hk hN in
theorem JV {zs:List dA} {a b c d e f g:Int} {ms:List Model} {ls:List Bool} {rs:List Request} (hk:zs.length<k) (hN:zs.length<=aN):c7 k a b c zs d e f g ms ls rs id=some (zs.filter λz=>!(z.id==id),cond (d==id) 0 d,cond (d==id) 0 e):=by
 unfold c7;rw[oY hk hN,aa];simp only[decide_true,cond_true];cases d==id<;>rfl
theorem Fg:dH k r id=some (let s:=vw r.sched id;(⟨4,id,0,sA⟩,s.tasks,s.run,s.left,wY r.ae id)):=by
 have hlen:=aS Task.tot r.sched.tasks;have hst:r.sched.tot=dj Task.tot r.sched.tasks+0:=rfl;unfold dH;rw[rf,aa,JV (by rw[eu];omega) (by rw[eu];omega),aa];simp only;rw[mD,cond_true,oQ r.sched.tasks (λt=>!(t.id==id)) (λz=>!(z.id==id)) (λn t=>rfl),aa,zF (by omega) (by omega),aa];simp only[decide_true,cond_true];rfl
end
end
set_option maxRecDepth 100000
set_option maxHeartbeats 4000000
section
structure NV (q:Request) (t:Task):Prop where
 id:q.id=t.id
 job:uf q.job=true
 at_:q.job.at_=t.at_
 av:bo q.job.model=t.av
 tot:q.job.model.tot<=8002000
inductive Lk:List Request->List Task->Prop
 |nil:Lk [] []
 |cons {q:Request} {t:Task} {qs:List Request} {ts:List Task}:NV q t->Lk qs ts->Lk (q::qs) (t::ts)
theorem Lk.len:∀{qs:List Request} {ts:List Task},Lk qs ts->qs.length=ts.length
 |_,_,.nil=>rfl
 |_,_,.cons _ h=>by simp[h.len]
theorem Lk.off {id:Int}:∀{qs:List Request} {ts:List Task},Lk qs ts->Lk (wY qs id) (J6 ts id)
 |_,_,.nil=>.nil
 |_,_,.cons (q:=q) (t:=t) (qs:=qs) (ts:=ts) h g=>by
  have e:(q.id==id)=(t.id==id):=by rw[h.id]
  have:=g.off (id:=id);unfold wY J6 at this⊢;rw[S4,S4,e];cases(t.id==id)
  ·exact .cons h this
  ·exact this
theorem Lk.app {q:Request} {t:Task} (l:NV q t):∀{qs:List Request} {ts:List Task},Lk qs ts->Lk (qs++[q]) (ts++[t])
 |_,_,.nil=>.cons l .nil
 |_,_,.cons h g=>.cons h (g.app l)
theorem Lk.get:∀{qs:List Request} {ts:List Task},Lk qs ts->∀{i:Nat} (h1:i<qs.length) (h2:i<ts.length),NV qs[i] ts[i]
 |_,_,.nil,_,h,_=>absurd h (by simp)
 |_,_,.cons h _,0,_,_=>h
 |_,_,.cons _ g,i+1,h1,h2=>g.get (by simpa using h1) (by simpa using h2)
theorem Lk.set {q:Request} {t:Task} (l:NV q t):∀{qs:List Request} {ts:List Task},Lk qs ts->∀(i:Nat),Lk (qs.set i q) (ts.set i t)
 |_,_,.nil,_=>.nil
 |_,_,.cons _ g,0=>.cons l g
 |_,_,.cons h g,i+1=>.cons h (g.set l i)
theorem Lk.ids {qs:List Request} {ts:List Task} (h:Lk qs ts):∀q∈qs,∃t∈ts,q.id=t.id:=by
 induction h with
 |nil=>exactλq hq=>nomatch hq
 |cons l _ ih=>
  intro q hq
  rcases RN.1 hq with rfl|hq
  ·exact⟨_,RS,l.id⟩
  ·obtain⟨t,h1,h2⟩:=ih q hq;exact⟨t,RK _ h1,h2⟩
structure rj (r:Runtime):Prop where
 s:SOk r.sched
 ml:r.ar.length=4
 ll:r.ax.length=4
 mod:∀m∈r.ar,m.tot<=8002000
 req:Lk r.ae r.sched.tasks
theorem rj.Oq {r:Runtime} (h:rj r):r.ae.length<=12:=by rw[h.req.len];exact h.s.len
theorem Io {t:Task} (h:ie t=true):t.tot<=6:=by
 have:=(bW h).2.1.2;unfold Task.tot;omega
theorem C7 {α:Type} {t:α->Nat} {B:Nat}:∀{xs:List α},(∀x∈xs,t x<=B)->dj t xs<=xs.length*(B+1)
 |[],_=>by simp[dj]
 |x::xs,h=>by
  have h1:=h x RS;have h2:=C7 (t:=t) (B:=B) (xs:=xs) λy hy=>h y (RK _ hy);rw[pN,RA,RQ];omega
theorem rj.tot {r:Runtime} (h:rj r):r.sched.tot<=84:=by
 have h1:=C7 (t:=Task.tot) (B:=6) (xs:=r.sched.tasks) λt ht=>Io (h.s.task t ht).1;have h2:=h.s.len;show dj Task.tot r.sched.tasks+0<=84;omega
theorem Bw {r:Runtime} (h:rj r):∀q∈r.ae,1<=q.id:=λq hq=>by
 obtain⟨t,h1,h2⟩:=h.req.ids q hq;have:=(bW (h.s.task t h1).1).1.1;omega
theorem Mj {s:ak} (h:SOk s) {id:Int} (hid:1<=id):SOk (vw s id):=by rw[<-vx h hid];exact Mf h id
theorem Ip {r:Runtime} (h:rj r) {id:Int} (hid:1<=id):rj (Qv r id):=⟨Mj h.s hid,h.ml,h.ll,h.mod,h.req.off⟩
def eD (r:Runtime) (x:Step):List Event× ak× List Request:=
  cond (Im r x.a) (cond (de (r.ar.getD x.a.toNat cX) x.input).2 (cond (inB x.b 0 1000000)
    (let ad:=eZ r.sched (bo (de (r.ar.getD x.a.toNat cX) x.input).1.model) (r.sched.now+x.b);
      cond (decide (ad.2.2=0)) ([⟨2,ad.2.1,r.sched.now+x.b,sA⟩],ad.1,r.ae++[⟨ad.2.1,x.a,(de (r.ar.getD x.a.toNat cX) x.input).1,r.sched.now+x.b⟩]) (dn x.kind (IntKind.i64.wrap (3+ad.2.2)),r.sched,r.ae))
    (dn x.kind 8,r.sched,r.ae)) (dn x.kind 3,r.sched,r.ae)) (dn x.kind 1,r.sched,r.ae)
def Rg (e:List Event× ak× List Request):List Event× Int× Int× Int× List Task× Int× Int× Int× Int× List Request:=(e.1,e.2.1.now,e.2.1.ai,e.2.1.age,e.2.1.tasks,e.2.1.run,e.2.1.left,e.2.1.turns,e.2.1.next,e.2.2)
section
variable {k:Nat} {r:Runtime} {x:Step} (h:rj r) (hk:20000000<=k) (hx:x.input.tot<=2000000)
include h hk hx
theorem G6:kN k r x=some (Rg (eD r x)):=by
 have hM:=aq;have hq:=h.Oq;have ht:=h.tot;have hnow:=h.s.now;unfold kN eD bu Im;rw[cy,aa];cases c1:inB x.a 0 3
 ·simp only[RP,cond_true,aa,decide_true,Sp,cond_false];rfl
 have c1':=of_decide_eq_true c1;have hlo:=h.ll;have hmo:=h.ml
 have hi:x.a.toNat<r.ax.length:=by omega
 have hi2:x.a.toNat<r.ar.length:=by omega
 simp only[Rw,cond_false,Ry];rw[decide_eq_true (by omega),cond_true,ag hi,aa,bJ hi];cases c2:r.ax[x.a.toNat]
 ·simp only[RP,cond_true,aa,decide_true,cond_false];rfl
 simp only[Rw,cond_false,cond_true];rw[decide_eq_true (by omega),cond_true,ag hi2,aa,bJ hi2];have hmt:=h.mod _ (Rx hi2);generalize hm:r.ar[x.a.toNat]=m at hmt;have hjt:=vW m x.input;rw[CC (by omega) (by omega),aa];cases c3:(de m x.input).2
 ·simp only[RP,cond_true,aa,decide_true,cond_false];rfl
 simp only[Rw,cond_false,cond_true];rw[qa,aa];cases c4:inB x.b 0 1000000
 ·simp only[RP,cond_true,aa,decide_true,cond_false];rfl
 have c4':=of_decide_eq_true c4;simp only[Rw,cond_false,cond_true];rw[aG (n:=r.sched.now+x.b) (by omega) (by omega)];generalize hj:(de m x.input).1=j at hjt
 have hjm:j.model.tot<=j.tot:=by unfold Job.tot;omega
 have hcl:=jn j.model;have hcl2:=aS aj.tot j.model.ao;have hcl3:j.model.tot=dj aj.tot j.model.ao+0:=rfl;rw[j8 (by omega) (by omega),aa,JM (by omega) (by omega),aa,nC];generalize eZ r.sched (bo j.model) (r.sched.now+x.b)=ad;by_cases c5:ad.2.2=0
 ·rw[decide_eq_true c5];simp only[cond_true]
  have hlen:(r.ae++[(⟨ad.2.1,x.a,j,r.sched.now+x.b⟩:Request)]).length=r.ae.length+1:=by simp
  rw[cw (by omega),hlen,aG (by omega) (by omega),decide_eq_true (by omega),cond_true,show(((r.ae.length+1:Nat):Int)-1).toNat=r.ae.length from by omega,Rs (RJ _),Nat.sub_self];simp only[Tj,aa,decide_true,cond_true];rfl
 ·rw[decide_eq_false c5];simp only[cond_true,aa,decide_true,cond_false];rfl
theorem G7:fh k r x=some (Rg (eD r x)):=by
 have hM:=aq;have hq:=h.Oq;have ht:=h.tot;have hnow:=h.s.now;have hlo:=h.ll;have hmo:=h.ml;unfold fh eD dD;rw[tZ h.ll,aa];cases c0:Im r x.a
 ·simp only[RP,cond_true,aa,decide_true,Sp,cond_false];rfl
 have c1':=of_decide_eq_true (Sn.1 c0).1
 have hi2:x.a.toNat<r.ar.length:=by omega
 simp only[Rw,cond_false,cond_true];rw[decide_eq_true (by omega),cond_true,ag hi2,aa,bJ hi2];have hmt:=h.mod _ (Rx hi2);generalize hm:r.ar[x.a.toNat]=m at hmt;have hjt:=vW m x.input;rw[CD (by omega) (by omega),aa];cases c3:(de m x.input).2
 ·simp only[RP,cond_true,aa,decide_true,cond_false];rfl
 simp only[Rw,cond_false,cond_true];rw[sx,aa];cases c4:inB x.b 0 1000000
 ·simp only[RP,cond_true,aa,decide_true,cond_false];rfl
 have c4':=of_decide_eq_true c4;simp only[Rw,cond_false,cond_true];rw[aG (n:=r.sched.now+x.b) (by omega) (by omega)];generalize hj:(de m x.input).1=j at hjt
 have hjm:j.model.tot<=j.tot:=by unfold Job.tot;omega
 have hcl:=jn j.model;have hcl2:=aS aj.tot j.model.ao;have hcl3:j.model.tot=dj aj.tot j.model.ao+0:=rfl;rw[j9 (by omega) (by omega),aa,JN (by omega) (by omega),aa,nC];generalize eZ r.sched (bo j.model) (r.sched.now+x.b)=ad;by_cases c5:ad.2.2=0
 ·rw[decide_eq_true c5];simp only[cond_true];rw[cw (by omega)];simp only[aa,decide_true,cond_true];rfl
 ·rw[decide_eq_false c5];simp only[cond_true,aa,decide_true,cond_false];rfl
end
end
set_option maxRecDepth 100000
set_option maxHeartbeats 4000000
section
theorem SOk.tot {s:ak} (h:SOk s):s.tot<=84:=by
 have h1:=C7 (t:=Task.tot) (B:=6) (xs:=s.tasks) λt ht=>Io (h.task t ht).1;have h2:=h.len;show dj Task.tot s.tasks+0<=84;omega
theorem Iq (rs:List Request) (id:Int):(wY rs id).length<=rs.length:=Tg _ _
def Ae (id:Int):Event:=⟨4,id,0,sA⟩
def vy (a:Int):List Request->List Event->ak->List Request->List Event× ak× List Request
 |[],e,s,rs=>(e,s,rs)
 |q::qs,e,s,rs=>cond (q.model==a) (vy a qs (e++[Ae q.id]) (vw s q.id) (wY rs q.id)) (vy a qs e s rs)
theorem zG (a:Int) (ms:List Model) (ls:List Bool):∀(qs:List Request) (e:List Event) (s:ak) (rs:List Request),(∀q∈qs,1<=q.id)->rj ⟨s,ms,ls,rs⟩->rj ⟨(vy a qs e s rs).2.1,ms,ls,(vy a qs e s rs).2.2⟩/\(vy a qs e s rs).1.length<=e.length+qs.length
 |[],e,s,rs,_,h=>⟨h,RJ _⟩
 |q::qs,e,s,rs,hq,h=>by
  unfold vy;cases q.model==a
  ·have:=zG a ms ls qs e s rs (λx hx=>hq x (RK _ hx)) h;exact⟨this.1,SN this.2 (by simp)⟩
  ·have:=zG a ms ls qs (e++[Ae q.id]) (vw s q.id) (wY rs q.id) (λx hx=>hq x (RK _ hx)) (Ip h (hq q RS));exact⟨this.1,SN this.2 (by simp;omega)⟩
inductive kh:List Int->List Event->List Int->Prop
 |nil {ids:List Int}:kh ids [] ids
 |other {ids ids':List Int} {e:Event} {es:List Event}:e.kind≠2->e.kind≠3->e.kind≠4->kh ids es ids'->kh ids (e::es) ids'
 |ends {ids ids':List Int} {e:Event} {es:List Event}:e.kind=3\/e.kind=4->e.a∈ids->(e.kind=3->e.out.okB=true)->kh (ids.filter λi=>!(i==e.a)) es ids'->kh ids (e::es) ids'
theorem kh.app {a b c:List Int} {e f:List Event} (h:kh a e b) (g:kh b f c):kh a (e++f) c:=by
 induction h with
 |nil=>exact g
 |other h1 h2 h3 _ ih=>exact .other h1 h2 h3 (ih g)
 |ends h1 h2 h3 _ ih=>exact .ends h1 h2 h3 (ih g)
def oZ (rs:List Request):List Int:=rs.map λq=>q.id
theorem wZ (rs:List Request) (id:Int):oZ (wY rs id)=(oZ rs).filter λi=>!(i==id):=by
 unfold oZ wY;rw[List.filter_map];rfl
theorem Lk.Rh {qs:List Request} {ts:List Task} (h:Lk qs ts):oZ qs=ts.map λt=>t.id:=by
 induction h with
 |nil=>rfl
 |cons l _ ih=>unfold oZ at ih⊢;rw[R4,R4,ih,l.id]
theorem rj.inc {r:Runtime} (h:rj r):(oZ r.ae).Pairwise (·<·):=by
 rw[h.req.Rh,List.pairwise_map];exact h.s.ids
theorem rj.lt {r:Runtime} (h:rj r):∀i∈oZ r.ae,1<=i/\i<r.sched.next:=by
 rw[h.req.Rh];intro i hi;obtain⟨t,ht,rfl⟩:=Tw.1 hi;have:=h.s.task t ht;exact⟨(bW this.1).1.1,this.2.1⟩
theorem zH (a:Int):∀(qs:List Request) (e:List Event) (s:ak) (rs:List Request),(oZ qs).Pairwise (·<·)->(∀i∈oZ qs,i∈oZ rs)->∃d,(vy a qs e s rs).1=e++d/\kh (oZ rs) d (oZ (vy a qs e s rs).2.2)
 |[],e,s,rs,_,_=>⟨[],by simp[vy],.nil⟩
 |q::qs,e,s,rs,hp,hm=>by
  unfold vy;have hp':=TJ.1 hp;cases q.model==a
  ·exact zH a qs e s rs hp'.2 λi hi=>hm i (RK _ hi)
  ·obtain⟨d,h1,h2⟩:=zH a qs (e++[Ae q.id]) (vw s q.id) (wY rs q.id) hp'.2 λi hi=>by
    rw[wZ,Sg];have:q.id<i:=hp'.1 i hi;exact⟨hm i (RK _ hi),by simp;omega⟩
   refine⟨Ae q.id::d,by rw[cond_true,h1,RM];rfl,.ends (.inr rfl) (hm _ RS) (λh=>absurd h (show¬(4:Int)=3 by decide)) ?_⟩;rw[wZ]at h2;exact h2
section
variable {k:Nat} (hk:20000000<=k)
include hk
theorem vz {R:Type} {orig:List Request} {a q1 q2 q4 q5 q6:Int} {q3 q7:List Int} {ms:List Model} {ls:List Bool} {fin:Int× Int× Int× Int× Int× Int× Int× List Event× List Task× List Request->Option R}:∀(qs pre:List Request) (e:List Event) (s:ak) (rs:List Request) (kf:Nat),qs.length<kf->orig=pre++qs->orig.length<=12->e.length+qs.length<=100->(∀q∈qs,1<=q.id)->SOk s->rs.length<=12->
  iter (λu10 n10=>cE k (orig,q1,a,q2,q3,q4,q5,q6,q7,ms,ls) u10 n10 fin) kf ((pre.length:Int),s.now,s.ai,s.age,s.run,s.left,s.turns,s.next,e,s.tasks,rs)=
   (let y:=vy a qs e s rs;fin (y.2.1.now,y.2.1.ai,y.2.1.age,y.2.1.run,y.2.1.left,y.2.1.turns,y.2.1.next,y.1,y.2.1.tasks,y.2.2))
 |_,_,_,_,_,0,h,_,_,_,_,_,_=>by omega
 |[],pre,e,s,rs,kf+1,_,ho,hl,_,_,_,_=>by
  rw[aF];show cE k _ _ _ fin=_;unfold cE;simp only
  rw[decide_eq_false (by rw[ho];simp)];rfl
 |q::qs,pre,e,s,rs,kf+1,hkf,ho,hl,he,hq,hs,hr=>by
  have hM:=aq;simp only[RA]at hkf he
  have hol:orig.length=pre.length+(qs.length+1):=by rw[ho];simp
  have hat:idx orig (pre.length:Int)=some q:=by rw[aC,ho];simp
  have hst:=hs.tot;rw[aF];unfold vy;cases c:q.model==a
  ·have st:∀next,cE k (orig,q1,a,q2,q3,q4,q5,q6,q7,ms,ls) ((pre.length:Int),s.now,s.ai,s.age,s.run,s.left,s.turns,s.next,e,s.tasks,rs) next fin=next (((pre++[q]).length:Int),s.now,s.ai,s.age,s.run,s.left,s.turns,s.next,e,s.tasks,rs):=λnext=>by
    unfold cE;simp only;rw[decide_eq_true (by omega),cond_true,hat,aa,c,cond_false,aG (by omega) (by omega),RD];rfl
   exact(st _).trans (vz qs (pre++[q]) e s rs kf (by omega) (by rw[ho];simp) hl (by omega) (λx hx=>hq x (RK _ hx)) hs hr)
  ·have st:∀next,cE k (orig,q1,a,q2,q3,q4,q5,q6,q7,ms,ls) ((pre.length:Int),s.now,s.ai,s.age,s.run,s.left,s.turns,s.next,e,s.tasks,rs) next fin=next (((pre++[q]).length:Int),(vw s q.id).now,(vw s q.id).ai,(vw s q.id).age,(vw s q.id).run,(vw s q.id).left,(vw s q.id).turns,(vw s q.id).next,e++[Ae q.id],(vw s q.id).tasks,wY rs q.id):=λnext=>by
    unfold cE;simp only;rw[decide_eq_true (by omega),cond_true,hat,aa,c,cond_true,aa,Mi (k:=k) (r:=⟨s,ms,ls,rs⟩) (by show s.tot+rs.length<k;omega) (by show s.tot+rs.length<=aN;omega) hs (hq q RS),aa,aa,cw (by omega),aG (by omega) (by omega),RD];rfl
   exact(st _).trans (vz qs (pre++[q]) (e++[Ae q.id]) (vw s q.id) (wY rs q.id) kf (by omega) (by rw[ho];simp) hl (by simp;omega) (λx hx=>hq x (RK _ hx)) (Mj hs (hq q RS)) (SN (Iq _ _) hr))
theorem vA {R:Type} {orig:List Request} {a n p1 p2 p3 p4 p5 q1 q2 q4 q5 q6:Int} {q3 q7:List Int} {ms:List Model} {ls:List Bool} {fin:Int× Int× List Event× List Task× List Request->Option R}:∀(qs pre:List Request) (e:List Event) (s:ak) (rs:List Request) (kf:Nat),qs.length<kf->orig=pre++qs->n=orig.length->orig.length<=12->e.length+qs.length<=100->(∀q∈qs,1<=q.id)->SOk s->rs.length<=12->s.now=p1->s.ai=p2->s.age=p3->s.turns=p4->s.next=p5->
  iter (λu7 n7=>bm k (n,p1,p2,p3,p4,p5,q1,a,q2,q3,q4,q5,q6,q7,orig,ms,ls) u7 n7 fin) kf ((pre.length:Int),s.run,s.left,e,s.tasks,rs)=
   (let y:=vy a qs e s rs;fin (y.2.1.run,y.2.1.left,y.1,y.2.1.tasks,y.2.2))
 |_,_,_,_,_,0,h,_,_,_,_,_,_,_,_,_,_,_,_=>by omega
 |[],pre,e,s,rs,kf+1,_,ho,hn,hl,_,_,_,_,_,_,_,_,_=>by
  rw[aF];show bm k _ _ _ fin=_;unfold bm;simp only
  rw[decide_eq_false (by rw[hn,ho];simp)];rfl
 |q::qs,pre,e,s,rs,kf+1,hkf,ho,hn,hl,he,hq,hs,hr,e1,e2,e3,e4,e5=>by
  have hM:=aq;simp only[RA]at hkf he
  have hol:orig.length=pre.length+(qs.length+1):=by rw[ho];simp
  have hat:orig[(pre.length:Int).toNat]? =some q:=by rw[Rr,ho];simp
  have hst:=hs.tot;rw[aF];unfold vy;cases c:q.model==a
  ·have st:∀next,bm k (n,p1,p2,p3,p4,p5,q1,a,q2,q3,q4,q5,q6,q7,orig,ms,ls) ((pre.length:Int),s.run,s.left,e,s.tasks,rs) next fin=next (((pre++[q]).length:Int),s.run,s.left,e,s.tasks,rs):=λnext=>by
    unfold bm;simp only;rw[decide_eq_true (by omega),cond_true,decide_eq_true (by omega),cond_true,hat,aa,c,cond_false,aG (by omega) (by omega),RD];rfl
   exact(st _).trans (vA qs (pre++[q]) e s rs kf (by omega) (by rw[ho];simp) hn hl (by omega) (λx hx=>hq x (RK _ hx)) hs hr e1 e2 e3 e4 e5)
  ·have st:∀next,bm k (n,p1,p2,p3,p4,p5,q1,a,q2,q3,q4,q5,q6,q7,orig,ms,ls) ((pre.length:Int),s.run,s.left,e,s.tasks,rs) next fin=next (((pre++[q]).length:Int),(vw s q.id).run,(vw s q.id).left,e++[Ae q.id],(vw s q.id).tasks,wY rs q.id):=λnext=>by
    subst e1 e2 e3 e4 e5;unfold bm;simp only;rw[decide_eq_true (by omega),cond_true,decide_eq_true (by omega),cond_true,hat,aa,c,cond_true,Fg (k:=k) (r:=⟨s,ms,ls,rs⟩) (by show s.tot+rs.length<k;omega) (by show s.tot+rs.length<=aN;omega),aa,cw (by omega),aG (by omega) (by omega),RD];rfl
   exact(st _).trans (vA qs (pre++[q]) (e++[Ae q.id]) (vw s q.id) (wY rs q.id) kf (by omega) (by rw[ho];simp) hn hl (by simp;omega) (λx hx=>hq x (RK _ hx)) (Mj hs (hq q RS)) (SN (Iq _ _) hr) e1 e2 e3 e4 e5)
end
def eE (r:Runtime) (x:Step):List Event× Runtime:=
 cond (Im r x.a) (let y:=vy x.a r.ae [] r.sched r.ae;(y.1++[⟨1,x.a,0,sA⟩],⟨y.2.1,r.ar.set x.a.toNat cX,r.ax.set x.a.toNat false,y.2.2⟩)) (dn x.kind 1,r)
theorem vB (a:Int):∀(qs:List Request) (e:List Event) (s:ak) (rs:List Request),(vy a qs e s rs).2.1.now=s.now/\(vy a qs e s rs).2.1.ai=s.ai/\(vy a qs e s rs).2.1.age=s.age/\(vy a qs e s rs).2.1.turns=s.turns/\(vy a qs e s rs).2.1.next=s.next
 |[],e,s,rs=>⟨rfl,rfl,rfl,rfl,rfl⟩
 |q::qs,e,s,rs=>by
  unfold vy;cases q.model==a
  ·exact vB a qs e s rs
  ·exact vB a qs (e++[Ae q.id]) (vw s q.id) (wY rs q.id)
section
variable {k:Nat} {r:Runtime} {x:Step} (h:rj r) (hk:20000000<=k)
include h hk
theorem G8:kM k r x=some (let e:=eE r x;(e.1,e.2.sched.now,e.2.sched.ai,e.2.sched.age,e.2.sched.tasks,e.2.sched.run,e.2.sched.left,e.2.sched.turns,e.2.sched.next,e.2.ar,e.2.ax,e.2.ae)):=by
 have hM:=aq;have hq:=h.Oq;have hlo:=h.ll;have hmo:=h.ml;unfold kM eE bu Im;rw[cy,aa];cases c1:inB x.a 0 3
 ·rfl
 have c1':=of_decide_eq_true c1
 have hi:x.a.toNat<r.ax.length:=by omega
 simp only[Rw,cond_false,Ry];rw[decide_eq_true (by omega),cond_true,ag hi,aa,bJ hi];cases c2:r.ax[x.a.toNat]
 ·rfl
 simp only[Rw,cond_false,cond_true];have hu:=zG x.a r.ar r.ax r.ae [] r.sched r.ae (Bw h) h;refine(vz hk r.ae [] [] r.sched r.ae k (by omega) rfl hq (by simp;omega) (Bw h) h.s hq).trans ?_;generalize vy x.a r.ae [] r.sched r.ae=y at hu;have:=hu.2;simp only[R6]at this;simp only;rw[decide_eq_true (by omega),cond_true,cw (by omega)];rfl
theorem G9:fg k r x=some (let e:=eE r x;(e.1,e.2.sched.tasks,e.2.sched.run,e.2.sched.left,e.2.ar,e.2.ax,e.2.ae))/\(eE r x).2.sched.now=r.sched.now/\(eE r x).2.sched.ai=r.sched.ai/\(eE r x).2.sched.age=r.sched.age/\(eE r x).2.sched.turns=r.sched.turns/\(eE r x).2.sched.next=r.sched.next:=by
 have hM:=aq;have hq:=h.Oq;have hlo:=h.ll;have hmo:=h.ml;unfold fg eE dD;rw[tZ h.ll,aa];cases c0:Im r x.a
 ·simp only[RP,cond_true,aa,decide_true,cond_false];exact⟨rfl,trivial,trivial,trivial,trivial,trivial⟩
 have c1':=of_decide_eq_true (Sn.1 c0).1;simp only[Rw,cond_false,cond_true]
 have hc:bQ k r.ae=some r.ae:=by
  unfold bQ;rw[cw (by simp;omega)];simp only[decide_true,cond_true,SQ]
  cases r.ae with
  |nil=>exact yJ _
  |cons=>rfl
 have hkp:=vB x.a r.ae [] r.sched r.ae;refine⟨?_,hkp⟩;rw[hc,aa];have hu:=zG x.a r.ar r.ax r.ae [] r.sched r.ae (Bw h) h;refine(vA hk r.ae [] [] r.sched r.ae k (by omega) rfl rfl hq (by simp;omega) (Bw h) h.s hq rfl rfl rfl rfl rfl).trans ?_;generalize vy x.a r.ae [] r.sched r.ae=y at hu;have:=hu.2;simp only[R6]at this;simp only;rw[decide_eq_true (by omega),cond_true,decide_eq_true (by omega),cond_true,cw (by omega)];simp only[decide_true,cond_true];rfl
end
end
set_option maxRecDepth 100000
set_option maxHeartbeats 4000000
section
section
variable {k:Nat}
theorem NW (s:ak) (ms:List Model) (ls:List Bool) (rs:List Request):fZ k s.now s.ai s.age s.tasks s.run s.left s.turns s.next ms ls rs=dW k s:=by
 unfold fZ dW;simp only[decide_true,cond_true]
theorem PB (a b c d e f g id:Int) (zs:List dA) (ms:List Model) (ls:List Bool) (rs:List Request):c7 k a b c zs d e f g ms ls rs id=dq k a b c zs d e f g id:=by
 unfold c7 dq;simp only[decide_true,cond_true]
theorem PC (s:ak) (ms:List Model) (ls:List Bool) (rs:List Request) (st:Bool):fo k s.now s.ai s.age s.tasks s.run s.left s.turns s.next ms ls rs st=fI k s st:=by
 unfold fo fI;rw[NW];simp only[PB,decide_true,cond_true]
theorem PD {s:ak} (h:SOk s) (hn:s.now≠1000000) (hk:1000<k) (st:Bool) (ms:List Model) (ls:List Bool) (rs:List Request):
  fo k s.now s.ai s.age s.tasks s.run s.left s.turns s.next ms ls rs st=some (((fi s st).2.1,(fi s st).2.2),(fi s st).1.now,(fi s st).1.tasks,(fi s st).1.run,(fi s st).1.left,(fi s st).1.turns)/\
   (fi s st).1.ai=s.ai/\(fi s st).1.age=s.age/\(fi s st).1.next=s.next:=by
 have hM:=aq;have ht:=h.tot;have e:=Ad (k:=k) (s:=s) (st:=st) (by omega) (by omega);unfold sf at e;rw[jo (by omega) (by omega),aa,ke (by omega) (by omega),aa,wW h,bH,if_neg hn]at e;simp only[Rw,cond_false]at e;rw[PC]
 cases hm:fI k s st with
 |none=>rw[hm]at e;exact nomatch e
 |some r3=>
  rw[hm]at e;have e:=SP e;rw[<-e];exact⟨rfl,rfl,rfl,rfl⟩
inductive Ir (s:ak):ak× Int× Bool->Prop
 |rest {u:ak}:u.tasks=s.tasks->Ir s (u,0,false)
 |next {u:ak} {pre post:List Task} {t:Task}:s.tasks=pre++t::post->(∀v∈pre,v.id≠t.id)->1<=t.id->t.at_+1<t.av.length->u.tasks=pre++qg t::post->Ir s (u,t.id,false)
 |done {u:ak} {pre post:List Task} {t:Task}:s.tasks=pre++t::post->(∀v∈pre,v.id≠t.id)->(∀v∈post,v.id≠t.id)->1<=t.id->t.at_<t.av.length->u.tasks=pre++post->u.run=0->Ir s (u,t.id,true)
theorem Qw {s:ak} (h:SOk s) (st:Bool):Ir s (fi s st):=by
 by_cases hn:s.now=1000000
 ·rw[wX hn];exact .rest rfl
 cases st
 ·rcases Fc h hn with⟨_,_,_,e⟩|⟨t,L,tr,T,_⟩
  ·rw[e];exact .rest rfl
  ·obtain⟨pre,post,e,h1,h2,h3,h4,h5⟩:=Ik h.ids T.mem;have hb:=bW (h.task t T.mem).1
   have n1:∀u∈pre,u.id≠t.id:=λu hu=>by have:=h1 u hu;omega
   have n2:∀u∈post,u.id≠t.id:=λu hu=>by have:=h2 u hu;omega
   rw[T.eq,Bt e n1 n2];by_cases c1:L-1>0
   ·rw[if_pos c1];exact .rest rfl
   rw[if_neg c1];by_cases c2:t.at_+1<t.av.length
   ·rw[if_pos c2];exact .next e n1 hb.1.1 c2 rfl
   ·rw[if_neg c2];exact .done e n1 n2 hb.1.1 hb.2.2.1.2 rfl rfl
 ·rw[wc h hn];exact .rest rfl
end
inductive Tr (st:Bool):Nat->ak->List Event->ak->Prop
 |nil {s:ak}:Tr st 0 s [] s
 |tick {n:Nat} {s s' u:ak} {d e:List Event}:s'=(fi s st).1->(d=[]/\(fi s st).2.2=false\/∃t,d=[⟨3,(fi s st).2.1,s'.now,t⟩]/\(fi s st).2.2=true)->Tr st n s' e u->Tr st (n+1) s (d++e) u
theorem Lk.split {t:Task}:∀{pre post:List Task} {qs:List Request},Lk qs (pre++t::post)->∃qp q qo,qs=qp++q::qo/\Lk qp pre/\NV q t/\Lk qo post
 |[],post,_,.cons (q:=q) (qs:=qs) h g=>⟨[],q,qs,rfl,.nil,h,g⟩
 |p::pre,post,_,.cons (q:=q) (qs:=qs) h g=>by
  obtain⟨qp,q',qo,e,h1,h2,h3⟩:=g.split (pre:=pre);exact⟨q::qp,q',qo,by rw[e];rfl,.cons h h1,h2,h3⟩
theorem Lk.join {ts:List Task} {ro:List Request} (g:Lk ro ts):∀{rs:List Request} {us:List Task},Lk rs us->Lk (rs++ro) (us++ts)
 |_,_,.nil=>g
 |_,_,.cons h f=>.cons h (g.join f)
theorem Lk.ne {id:Int}:∀{qs:List Request} {ts:List Task},Lk qs ts->(∀v∈ts,v.id≠id)->∀q∈qs,q.id≠id:=λ{qs ts} h hn q hq=>by
 obtain⟨t,h1,h2⟩:=h.ids q hq;rw[h2];exact hn t h1
theorem Is {id:Int} {q:Request} (hq:q.id=id):∀{qp qo:List Request},(∀v∈qp,v.id≠id)->((qp++q::qo).findIdx? λq=>q.id==id)=some qp.length
 |[],qo,_=>by rw[SQ,TI,hq];simp
 |p::qp,qo,h=>by
  have h1:=h p RS;rw[SU,TI,show(p.id==id)=false from by simpa using h1,Is hq λv hv=>h v (RK _ hv)];simp
theorem Mk {id:Int} {q:Request} (hq:q.id=id) {qp qo:List Request} (h1:∀v∈qp,v.id≠id) (h2:∀v∈qo,v.id≠id):wY (qp++q::qo) id=qp++qo:=by
 unfold wY;rw[Td,S4,hq];simp only[beq_self_eq_true,Rw,SR,if_false];rw[SG.2 λv hv=>by simpa using h1 v hv,SG.2 λv hv=>by simpa using h2 v hv]
theorem sB {q:Request} {t:Task} (l:NV q t) (hc:t.at_<t.av.length):uf (vq q.job)=true/\q.job.at_≠(q.job.model.ao.length:Int)/\NV ⟨q.id,q.model,vq q.job,q.due⟩ (qg t):=by
 have hl:=hJ (iQ l.job).1;rw[l.av]at hl
 have hne:q.job.at_≠(q.job.model.ao.length:Int):=by rw[l.at_];omega
 have hs:=L0 l.job hne;refine⟨hs,hne,⟨l.id,hs,?_,l.av,l.tot⟩⟩;show(vq q.job).at_=t.at_+1;rw[<-l.at_];rfl
end
set_option maxRecDepth 100000
set_option maxHeartbeats 4000000
section
def oR (q:Request):Request:=⟨q.id,q.model,vq q.job,q.due⟩
def Ml (id now:Int) (t:al):Event:=⟨3,id,now,t⟩
theorem Ha {q:Request} {t:Task} (l:NV q t):q.job.tot<=8003000:=by
 have:=(LZ l.job).2;have:=l.tot;omega
theorem ub {k:Nat} {qp qo:List Request} {q:Request} {t:Task} (l:NV q t) (hc:t.at_<t.av.length) (hk:20000000<=k):jD k qp.length (qp++q::qo)=some (qp++oR q::qo):=by
 have hM:=aq;have htt:=Ha l;obtain⟨hs,hne,_⟩:=sB l hc;generalize hj:q.job=j at*;have ht:j.tot=j.model.tot+(j.act.data.length+0+0):=rfl;have h:uf j=true:=hj▸l.job;obtain⟨hm,hat,hok,hsh,hsp⟩:=iQ h;obtain⟨hlen,_⟩:=rb hm;obtain⟨hl,hlt⟩:=E0 h hne
 have gm:∀(y:Request) (qs:List Request),(qp++y::qs)[qp.length]? =some y:=λy qs=>by simp
 have sm:∀(y z:Request) (qs:List Request),(qp++y::qs).set qp.length z=qp++z::qs:=λy z qs=>by simp
 unfold jD oR;simp only[gm,sm,aa,hj];rw[CU (by omega) (by omega) h,aa];rw[sa _ hat.1,hl,aa,CS (by omega) (by omega) (by omega) (by omega) (by omega),aa,aG (n:=j.at_+1) (by omega) (by omega)];rfl
theorem qh {q:Request} {qp qo:List Request} (h:∀v∈qp,v.id≠q.id):ua (qp++q::qo) q.id=(qp.length:Int):=by
 unfold ua;rw[Is rfl h];rfl
theorem JW {k:Nat} {qp qo:List Request} {q:Request} (hl:qp.length+qo.length<=100):bG k (qp++q::qo) (qp.length:Int) (IntKind.i64.wrap ((qp.length:Int)+1))=some (qp++qo):=by
 have hlen:(qp++q::qo).length=qp.length+qo.length+1:=by simp;omega
 have t1:(qp.length:Int).toNat=qp.length:=Rr _
 have t2:((qp.length:Int)+1).toNat=qp.length+1:=by omega
 have e1:(qp++q::qo).take (qp.length-0)=qp:=by simp
 have e2:((qp++q::qo).drop (qp.length+1)).take (qp.length+qo.length+1-(qp.length+1))=qo:=by
  rw[show qp++q::qo=(qp++[q])++qo from by simp,List.drop_left' (by simp),SZ (by omega)]
 have e3:((qp++q::qo).drop (qp.length-0+(qp.length+qo.length+1-(qp.length+1)))).length=1:=by rw[SE,hlen];omega
 have e4:qp.length-0+(qp.length+qo.length+1-(qp.length+1))=qp.length+qo.length:=by omega
 unfold bG;rw[aG (by omega) (by omega)];simp only[t1,t2,hlen,e1,e2,Rr];generalize (qp++q::qo).drop (qp.length-0+(qp.length+qo.length+1-(qp.length+1)))=z at e3;rw[e4]
 have hT:(qp++qo++z).length=qp.length+qo.length+1:=by simp[e3];omega
 rw[hT]
 rw[decide_eq_true (show(0:Int)<=((qp.length+qo.length+1:Nat):Int)/\((qp.length+qo.length+1:Nat):Int)<=((qp.length+qo.length+1:Nat):Int) by omega),cond_true,
  decide_eq_true (show(0:Int)<=(qp.length:Int)+1/\(qp.length:Int)+1<=((qp.length+qo.length+1:Nat):Int) by omega),cond_true,
  decide_eq_true (show(0:Int)<=(qp.length:Int)/\(qp.length:Int)<=((qp.length+1:Nat):Int) by omega),cond_true,bH,if_neg (by omega),
  decide_eq_true (show(0:Int)<=(qp.length:Int)/\(qp.length:Int)<=((qp.length+qo.length+1:Nat):Int) by omega),cond_true,cond_true]
 have hb:((qp.length+qo.length).ble (qp.length+qo.length+1)&&((qp.length+1+(qp.length+qo.length+1-(qp.length+1))).ble (qp.length+qo.length+1)&&Nat.ble 1 (qp.length+qo.length+1)))=true:=by
  rw[Rq,Rq,Nat.ble_eq,Nat.ble_eq,Nat.ble_eq];omega
 rw[hb,cond_true,decide_eq_true (show(0:Int)<=((qp.length+qo.length+1:Nat):Int)/\((qp.length+qo.length+1:Nat):Int)<=((qp.length+qo.length+1-0:Nat):Int) by omega),cond_true,
  decide_eq_true (show(0:Int)<=((qp.length+qo.length:Nat):Int)/\((qp.length+qo.length:Nat):Int)<=((qp.length+qo.length+1:Nat):Int) by omega),cond_true]
 congr 1
 rw[Rz,RM,SI (by rw[R8,hT];omega),List.take_take,Nat.min_self,SI (by simp),SZ (by simp)]
theorem Mm {k:Nat} (hk:20000000<=k) {st:Bool} {s:ak} {ms:List Model} {ls:List Bool} {rs:List Request} {e:List Event} (h:rj ⟨s,ms,ls,rs⟩) (he:e.length<=1000) {i a:Int} (hi:0<=i) (hia:i<a) (ha:a<=200) {q1 q2 q4 q5 q6 kd p9:Int} {q3 q7:List Int} (hkd:(kd==5)=st):
  ∃(e':List Event) (s':ak) (rs':List Request),rj ⟨s',ms,ls,rs'⟩/\e'.length<=e.length+1/\(∃d,e'=e++d/\kh (oZ rs) d (oZ rs')/\s'=(fi s st).1/\(d=[]/\(fi s st).2.2=false\/∃t,d=[⟨3,(fi s st).2.1,s'.now,t⟩]/\(fi s st).2.2=true))/\(s'.ai=s.ai/\s'.age=s.age/\s'.next=s.next)/\
   (∀(R:Type) (next:_->Option R) fin,cW k (st,q1,a,q2,q3,q4,q5,q6,q7,ms,ls) (i,s.now,s.ai,s.age,s.run,s.left,s.turns,s.next,e,s.tasks,rs) next fin=next (i+1,s'.now,s'.ai,s'.age,s'.run,s'.left,s'.turns,s'.next,e',s'.tasks,rs'))/\
   (s.now=1000000->e'=e/\s'=s/\rs'=rs)/\
   (s.now≠1000000->∀(R:Type) (next:_->Option R) fin,bg k (a,s.ai,s.age,s.next,kd,p9,q2,q3,q4,q5,q6,q7,ms,ls) (i,s.now,s.run,s.left,s.turns,e,s.tasks,rs) next fin=next (i+1,s'.now,s'.run,s'.left,s'.turns,e',s'.tasks,rs')):=by
 have hM:=aq;have ht:s.tot<=84:=SOk.tot h.s;have hq:rs.length<=12:=h.Oq;have hTK:=Qw h.s st;have hok:=PA h.s st;have hS:=Ac (k:=k) (s:=s) (st:=st) (by omega) (by omega);have hI:=λhn:s.now≠1000000=>PD (k:=k) h.s hn (by omega) st ms ls rs
 have hfix:(fi s st).1.ai=s.ai/\(fi s st).1.age=s.age/\(fi s st).1.next=s.next:=by
  by_cases hn:s.now=1000000
  ·rw[wX hn];exact⟨rfl,rfl,rfl⟩
  ·exact(hI hn).2
 have hend:s.now=1000000->fi s st=(s,0,false):=λhn=>wX hn st;generalize fi s st=T at*;have hw:IntKind.i64.wrap (i+1)=i+1:=aG (by omega) (by omega);have hreq:Lk rs s.tasks:=h.req
 cases hTK with
 |rest hu=>
  rename_i u;refine⟨e,u,rs,⟨hok,h.ml,h.ll,h.mod,by show Lk rs u.tasks;rw[hu];exact hreq⟩,by omega,⟨[],by simp,.nil,rfl,.inl ⟨rfl,rfl⟩⟩,hfix,λR next fin=>?_,λhn=>?_,λhn R next fin=>?_⟩
  ·unfold cW;simp only;rw[decide_eq_true hia,cond_true,hS,aa,hw];rfl
  ·have:=congrArg Prod.fst (hend hn);exact⟨rfl,this,rfl⟩
  ·unfold bg;simp only
   rw[decide_eq_true hia,cond_true,bH,if_neg hn,hkd,(hI hn).1,aa,hw];rfl
 |next e1 n1 p1 c1 hu=>
  rename_i u pre post t;obtain⟨qp,q,qo,rfl,l1,l,l2⟩:=(e1▸hreq:Lk rs (pre++t::post)).split;have hqp:=l1.ne n1;rw[<-l.id]at hqp;obtain⟨hs,hne,l'⟩:=sB l (by omega)
  have hlen:(qp++q::qo).length=qp.length+qo.length+1:=by simp;omega
  have hq:(qp++q::qo).length<=12:=hq;have hjt:=Ha l
  have gm:∀(y:Request) (qs:List Request),(qp++y::qs)[qp.length]? =some y:=λy qs=>by simp
  have sm:∀(y z:Request) (qs:List Request),(qp++y::qs).set qp.length z=qp++z::qs:=λy z qs=>by simp
  have hz:(t.id==(0:Int))=false:=by simp;omega
  refine⟨e,u,qp++oR q::qo,⟨hok,h.ml,h.ll,h.mod,by show Lk (qp++oR q::qo) u.tasks;rw[hu];exact(Lk.cons l' l2).join l1⟩,by omega,⟨[],by simp,by unfold oZ;rw[SB,SB];exact .nil,rfl,.inl ⟨rfl,rfl⟩⟩,hfix,λR next fin=>?_,λhn=>absurd (congrArg (λx=>x.2.1) (hend hn)) (by show¬t.id=0;omega),λhn R next fin=>?_⟩
  ·unfold cW;simp only;rw[decide_eq_true hia,cond_true,hS,aa,hz,cond_false,ri (by show(qp++q::qo).length<k;omega) (by show(qp++q::qo).length<=aN;omega),aa];simp only;rw[<-l.id,qh hqp,decide_eq_true (by omega),cond_true,Rr,gm,aa,v8 (by omega) (by omega),aa,cond_true,aa,cond_false,hw,sm];unfold NP;rw[l.job,show(q.job.at_==(q.job.model.ao.length:Int))=false from by simpa using hne];rfl
  ·unfold bg;simp only;rw[decide_eq_true hia,cond_true,bH,if_neg hn,hkd,(hI hn).1,aa];simp only;rw[hz,cond_false,vu (by show(qp++q::qo).length<k;omega) (by show(qp++q::qo).length<=aN;omega),aa];simp only
   rw[<-l.id,qh hqp,decide_eq_true (by omega),cond_true,Rr,ub l (by omega) hk,aa,cond_false,hw]
 |done e1 n1 n2 p1 c1 hu hr=>
  rename_i u pre post t;obtain⟨qp,q,qo,rfl,l1,l,l2⟩:=(e1▸hreq:Lk rs (pre++t::post)).split;have hqp:=l1.ne n1;have hqo:=l2.ne n2;rw[<-l.id]at hqp hqo;obtain⟨hs,hne,l'⟩:=sB l c1
  have hlen:(qp++q::qo).length=qp.length+qo.length+1:=by simp;omega
  have hlen2:(qp++oR q::qo).length=qp.length+qo.length+1:=by simp;omega
  have hq:(qp++q::qo).length<=12:=hq;have hjt:=Ha l
  have gm:∀(y:Request) (qs:List Request),(qp++y::qs)[qp.length]? =some y:=λy qs=>by simp
  have sm:∀(y z:Request) (qs:List Request),(qp++y::qs).set qp.length z=qp++z::qs:=λy z qs=>by simp
  have hz:(t.id==(0:Int))=false:=by simp;omega
  have hut:u.tot<=84:=SOk.tot hok
  have hoff:vw u q.id=u:=by
   unfold vw;rw[hr,show((0:Int)==q.id)=false from by rw[l.id];simp;omega]
   have:J6 u.tasks q.id=u.tasks:=SG.2 λv hv=>by
    rw[hu]at hv;rw[l.id]
    rcases Sf.1 hv with hv|hv
    ·simpa using n1 v hv
    ·simpa using n2 v hv
   rw[this,<-hr];rfl
  refine⟨e++[Ml q.id u.now (vq q.job).act],u,qp++qo,⟨hok,h.ml,h.ll,h.mod,by show Lk (qp++qo) u.tasks;rw[hu];exact l2.join l1⟩,by simp,⟨[Ml q.id u.now (vq q.job).act],rfl,.ends (.inl rfl) (by unfold oZ;simp[Ml]) (λ_=>(iQ l'.job).2.2.1) (by rw[show(Ml q.id u.now (vq q.job).act).a=q.id from rfl,<-wZ,Mk rfl hqp hqo];exact .nil),rfl,.inr ⟨(vq q.job).act,by unfold Ml;rw[l.id],rfl⟩⟩,hfix,λR next fin=>?_,λhn=>absurd (congrArg (λx=>x.2.1) (hend hn)) (by show¬t.id=0;omega),λhn R next fin=>?_⟩
  ·unfold cW;simp only;rw[decide_eq_true hia,cond_true,hS,aa,hz,cond_false,ri (by show(qp++q::qo).length<k;omega) (by show(qp++q::qo).length<=aN;omega),aa];simp only;rw[<-l.id,qh hqp,decide_eq_true (by omega),cond_true,Rr,gm,aa,v8 (by omega) (by omega),aa,cond_true,aa,cond_true,hw,sm];unfold NP;rw[l.job,show(q.job.at_==(q.job.model.ao.length:Int))=false from by simpa using hne];simp only[RP,Ry,cond_true];rw[Bv (k:=k) (r:=⟨u,ms,ls,qp++(⟨q.id,q.model,vq q.job,q.due⟩:Request)::qo⟩) (by show u.tot+(qp++oR q::qo).length<k;omega) (by show u.tot+(qp++oR q::qo).length<=aN;omega) hok (by rw[l.id];exact p1),aa,cw (by omega)];simp only;rw[hoff,Mk (q:=(⟨q.id,q.model,vq q.job,q.due⟩:Request)) rfl hqp hqo];rfl
  ·unfold bg;simp only;rw[decide_eq_true hia,cond_true,bH,if_neg hn,hkd,(hI hn).1,aa];simp only;rw[hz,cond_false,vu (by show(qp++q::qo).length<k;omega) (by show(qp++q::qo).length<=aN;omega),aa];simp only;rw[<-l.id,qh hqp,decide_eq_true (by omega),cond_true,Rr,ub l c1 hk,aa,cond_true,decide_eq_true (by omega),cond_true,gm,aa,cw (by omega),JW (by omega),aa,hw];rfl
end
end Go.Proofs.Ev
