/- Typed functions and what holds of them: part 5. -/
import Derived.Test.YtkjdnpefjebmlaaGreatDoorEvL4
set_option linter.unusedVariables false
set_option linter.unusedSimpArgs false
set_option linter.unusedSectionVars false
namespace Go.Proofs.Ev
open IntKind(i64 u8 u64)
section
theorem si {k:Nat} {s:ak} (hk:s.tot<k) (hN:s.tot<=aG):m9 k s=some s:=by
 have hM:=aj;unfold ak.tot at hk hN;have hlen:=br Task.tot s.tasks;unfold m9
 refine(sL s.tasks (λt=>t) (g:=λu4 n4=>lb k (s.now,s.ai,s.age,s.tasks,s.run,s.left,s.turns,s.next,(0:Int),(0:Int),(0:Int),(0:Int),(0:Int),(0:Int),(0:Int),s.now,s.ai,s.age,s.run,s.left,s.turns,s.next) u4 n4 (λy3=>some (⟨s.now,s.ai,s.age,y3,s.run,s.left,s.turns,s.next⟩:ak)))
  (fin:=λy3=>some (⟨s.now,s.ai,s.age,y3,s.run,s.left,s.turns,s.next⟩:ak)) (λi ys hi next hl=>by
  have hm:=fl Task.tot (XH hi);have hm0:s.tasks[i].tot=s.tasks[i].av.length+0:=rfl;simp only[lb]
  rw[ab,if_pos (by omega),aD,ag hi,aa,ln (by omega) (by omega),aa,bR (by omega),al hi (by omega)]) (λys next=>by
  simp only[lb];rw[ab,if_neg (by omega)]) (by omega)).trans ?_
 simp
theorem kj {k:Nat} {s:ak} (hk:s.tot<k) (hN:s.tot<=aG):gi k s=some s:=by
 have hM:=aj;unfold ak.tot at hk hN;have hlen:=br Task.tot s.tasks;unfold gi
 refine(sL s.tasks (λt=>t) (g:=λu4 n4=>fB k (s.tasks,(s.tasks.length:Int),s.now,s.ai,s.age,s.run,s.left,s.turns,s.next,(0:Int),(0:Int),(0:Int),(0:Int),(0:Int),(0:Int),(0:Int)) u4 n4 (λy3=>some (⟨s.now,s.ai,s.age,y3,s.run,s.left,s.turns,s.next⟩:ak)))
  (fin:=λy3=>some (⟨s.now,s.ai,s.age,y3,s.run,s.left,s.turns,s.next⟩:ak)) (λi ys hi next hl=>by
  have hm:=fl Task.tot (XH hi);have hm0:s.tasks[i].tot=s.tasks[i].av.length+0:=rfl;simp only[fB]
  rw[ab,if_pos (by omega),aD,ag hi,aa,dc (by omega),aa,bR (by omega),al hi (by omega)]) (λys next=>by
  simp only[fB];rw[ab,if_neg (by omega)]) (by omega)).trans ?_
 simp
def ij (t:Task):Int:=(t.av.drop t.at_.toNat).sum
def fE (t:Task):Int:=(idx t.av t.at_).getD 0
def eF (s:ak) (t:Task):Int:=cond (s.run==t.id) (ij t-fE t+s.left) (ij t)
theorem fF {t:Task} (h:je t=true):idx t.av t.at_=some (fE t)/\1<=fE t/\fE t<=1000:=by
 have ht:=ch h
 have hlt:t.at_.toNat<t.av.length:=by omega
 have e:idx t.av t.at_=some t.av[t.at_.toNat]:=by rw[uu _ ht.2.2.1.1];exact ag hlt
 unfold fE;rw[e,YP];exact⟨rfl,ht.2.2.2.2.2 _ (XH hlt)⟩
theorem Cm {t:Task} (h:je t=true):fE t<=ij t/\ij t-fE t<=5000/\0<=ij t-fE t:=by
 have ht:=ch h
 have hlt:t.at_.toNat<t.av.length:=by omega
 have e:idx t.av t.at_=some t.av[t.at_.toNat]:=by rw[uu _ ht.2.2.1.1];exact ag hlt
 have hc:fE t=t.av[t.at_.toNat]:=by unfold fE;rw[e];rfl
 have hb:=Cj (f:=λx:Int=>x) (B:=1000) (t.av.drop (t.at_.toNat+1)) (λx hx=>by have:=ht.2.2.2.2.2 x (List.mem_of_mem_drop hx);omega);rw[ZV,YE]at hb;unfold ij;rw[iu hlt,Y9,hc];omega
theorem tv {s:ak} (h:bI s=true) {t:Task} (hm:t∈s.tasks) (hr:s.run=t.id):1<=s.left/\s.left<=fE t:=by
 have hs:=bM h;obtain⟨i,hi,rfl⟩:=Yf.1 hm;have hT:=(cn hs.2.2.2.2.2.2.1 hi).1;have ht:=ch hT;have lG:=hs.2.2.2.2.2.2.2;unfold NQ at lG
 have h0:(s.run==0)=false:=by rw[hr];simp;omega
 rw[h0,cond_false,hr,F2 hs.2.2.2.2.2.2.1 hi,XD,ag hi,XD,(fF hT).1,XD]at lG;exact of_decide_eq_true lG
theorem Cn {s:ak} (h:bI s=true) {t:Task} (hm:t∈s.tasks):0<=eF s t/\eF s t<=6000:=by
 have hs:=bM h;obtain⟨i,hi,e⟩:=Yf.1 hm;have hT:je t=true:=e▸(cn hs.2.2.2.2.2.2.1 hi).1;have hc:=fF hT;have hb:=Cm hT;unfold eF;cases hr:s.run==t.id
 ·simp only[cond_false];omega
 ·have:=tv h hm (by simpa using hr);simp only[cond_true];omega
theorem F4 {k:Nat} {s:ak} (hk:s.tot<k) (hN:s.tot<=aG) (h:bI s=true) {t:Task} (hm:t∈s.tasks):s5 k s t.id=some (eF s t):=by
  have hM:=aj;have hs:=bM h;obtain⟨i,hi,rfl⟩:=Yf.1 hm;have hT:=(cn hs.2.2.2.2.2.2.1 hi).1;have ht:=ch hT;have hlen:=br Task.tot s.tasks;have htm:=fl Task.tot hm;have hm0:s.tasks[i].tot=s.tasks[i].av.length+0:=rfl;have hst:s.tot=fI Task.tot s.tasks+0:=rfl;have hc:=fF hT;have hb:=Cm hT;unfold s5;rw[mC (by omega) (by omega),aa,ep hk hN,aa,h,jd (F2 hs.2.2.2.2.2.2.1 hi)];simp only[XJ,cond_false];rw[ab,if_neg (by omega),aD,ag hi,aa]
  have hat:s.tasks[i].at_=((s.tasks[i].at_.toNat:Nat):Int):=by omega
  have e:=Ih (R:=Int) s.tasks[i].av s.tasks[i].at_.toNat (by omega) (B:=1000) (by omega) (λx hx=>by have:=ht.2.2.2.2.2 x hx;omega)
    (g:=λu7 n7=>jC k (s.tasks[i].id,s.now,s.ai,s.age,s.tasks,s.run,s.left,s.turns,s.next,s.tasks[i].id,s.tasks[i].av,s.tasks[i].at_,s.tasks[i].due,s.tasks[i].born) u7 n7 (λy5=>cond (s.run==s.tasks[i].id) ((idx s.tasks[i].av s.tasks[i].at_).bind λe6=>some (i64.wrap ((i64.wrap (y5-e6))+s.left))) (some y5)))
    (fin:=λy5=>cond (s.run==s.tasks[i].id) ((idx s.tasks[i].av s.tasks[i].at_).bind λe6=>some (i64.wrap ((i64.wrap (y5-e6))+s.left))) (some y5))
    (λj z hj next h0 h1=>by
      have:=ht.2.2.2.2.2 _ (XH hj);simp only[jC]
      rw[ab,if_pos (by omega),aD,ag hj,aa,aL (by omega) (by omega),al hj (by omega)])
    (λz next=>by simp only[jC];rw[ab,if_neg (by omega)]) (k:=k) (by omega)
  rw[<-hat]at e;refine e.trans ?_;show cond _ _ _=some (eF s s.tasks[i]);unfold eF;rw[hc.1,aa];cases hr:s.run==s.tasks[i].id
  · rfl
  · have:=tv h hm (by simpa using hr);simp only[cond_true];have e2:(s.tasks[i].av.drop s.tasks[i].at_.toNat).sum=ij s.tasks[i]:=rfl;rw[e2,aL (n:=ij s.tasks[i]-fE s.tasks[i]) (by omega) (by omega),aL (by omega) (by omega)]
theorem LO {B:Int}:∀(xs:List Int) (s:Int) (hf:∀x∈xs,0<=x/\x<=B) (h0:0<=s) (h1:s+B*xs.length<=9223372036854775807),xs.foldl (λs x=>i64.wrap (s+x)) s=s+xs.sum
 |[],s,_,_,_=>by simp
 |x::xs,s,hf,h0,h1=>by
  have hx:=hf x (by simp);rw[XI,Int.natCast_add,Int.mul_add]at h1;have h2:0<=B*(xs.length:Int):=Zu (by omega) (by omega);rw[Zp,Y9,aL (by omega) (by omega),LO xs (s+x) (λy hy=>hf y (by simp[hy])) (by omega) (by omega)];omega
theorem Kp {k:Nat} {s:ak} (hk:s.tot<k) (hN:s.tot<=aG) (h:bI s=true) {t:Task} (hm:t∈s.tasks):kF k s t=some (eF s t):=by
 have hM:=aj;have hs:=bM h;obtain⟨i,hi,rfl⟩:=Yf.1 hm;have hT:=(cn hs.2.2.2.2.2.2.1 hi).1;have ht:=ch hT;have htm:=fl Task.tot hm;have hm0:s.tasks[i].tot=s.tasks[i].av.length+0:=rfl;have hst:s.tot=fI Task.tot s.tasks+0:=rfl;have hc:=fF hT;have hb:=Cm hT;unfold kF;rw[ab,if_pos (by omega),Y1 (X1 _),FF (by simp;omega) (by simp;omega),aa,LO (B:=1000) _ 0 (λx hx=>by have:=ht.2.2.2.2.2 x (List.mem_of_mem_drop hx);omega) (by omega) (by simp;omega),hc.1,aa,Int.zero_add];have e2:(s.tasks[i].av.drop s.tasks[i].at_.toNat).sum=ij s.tasks[i]:=rfl;rw[e2];unfold eF;cases hr:s.run==s.tasks[i].id
 ·rfl
 ·have:=tv h hm (by simpa using hr);simp only[cond_true];rw[aL (n:=s.left-fE s.tasks[i]) (by omega) (by omega),aL (by omega) (by omega)]
  congr 1;omega
def wC (s:ak) (d:Int):Int:=(s.tasks.map λt=>cond (decide (t.due<=d)) (eF s t) 0).sum
def block (s:ak) (d:Int):Int:=(s.tasks.findIdx? λt=>t.id==s.run).elim 0 λi=>(s.tasks[i]?).elim 0 λt=>cond (decide (t.due>d)) s.left 0
theorem xU {s:ak} (h:bI s=true) (d:Int):∀t∈s.tasks,0<=cond (decide (t.due<=d)) (eF s t) 0/\cond (decide (t.due<=d)) (eF s t) 0<=6000:=λt ht=>by
 have:=Cn h ht;cases decide (t.due<=d)
 ·simp
 ·simpa using this
theorem P6 {s:ak} (h:bI s=true) (d:Int):0<=wC s d/\wC s d<=72000:=by
 have hs:=bM h;have:=Cj (B:=6000) s.tasks (xU h d);unfold wC;omega
theorem F5 {k:Nat} {s:ak} {d:Int} (hk:s.tot<k) (hN:s.tot<=aG) (h:bI s=true):s6 k s d=some (wC s d):=by
  have hM:=aj;have hs:=bM h;have hlen:=br Task.tot s.tasks;have hst:s.tot=fI Task.tot s.tasks+0:=rfl;unfold s6;rw[ep hk hN,aa,h];simp only[XJ,cond_false]
  exact LK s.tasks (λt=>cond (decide (t.due<=d)) (eF s t) 0) (B:=6000) (xU h d) (g:=λu6 n6=>jD k (d,s.now,s.ai,s.age,s.tasks,s.run,s.left,s.turns,s.next) u6 n6 (λy5=>some y5)) (fin:=some)
    (λi z hi next h0 h1=>by
      have hr:=Cn h (XH hi);have e:=F4 hk hN h (XH hi);simp only[jD];rw[ab,if_pos (by omega),aD,ag hi,aa,al hi (by omega),aa];by_cases c:s.tasks[i].due<=d
      · rw[decide_eq_true c,cond_true,cond_true,show(⟨s.now,s.ai,s.age,s.tasks,s.run,s.left,s.turns,s.next⟩:ak)=s from rfl,e,aa,aL (by omega) (by omega)]
      · rw[decide_eq_false c,cond_false,cond_false,Int.add_zero])
    (λz next=>by simp only[jD];rw[ab,if_neg (by omega)]) (by omega)
theorem Kq {k:Nat} {s:ak} {d:Int} (hk:s.tot<k) (hN:s.tot<=aG) (h:bI s=true):kG k s d=some (wC s d):=by
  have hM:=aj;have hs:=bM h;have hlen:=br Task.tot s.tasks;have hst:s.tot=fI Task.tot s.tasks+0:=rfl;unfold kG
  exact LK s.tasks (λt=>cond (decide (t.due<=d)) (eF s t) 0) (B:=6000) (xU h d) (g:=λu4 n4=>fC k (d,s.tasks,(s.tasks.length:Int),s.now,s.ai,s.age,s.tasks,s.run,s.left,s.turns,s.next) u4 n4 (λy3=>some y3)) (fin:=some)
    (λi z hi next h0 h1=>by
      have hr:=Cn h (XH hi);have e:=Kp hk hN h (XH hi);simp only[fC];rw[ab,if_pos (by omega),aD,ag hi,aa,al hi (by omega)];by_cases c:s.tasks[i].due<=d
      · rw[decide_eq_true c,cond_true,cond_true,show(⟨s.now,s.ai,s.age,s.tasks,s.run,s.left,s.turns,s.next⟩:ak)=s from rfl,e,aa,aL (by omega) (by omega)]
      · rw[decide_eq_false c,cond_false,cond_false,Int.add_zero])
    (λz next=>by simp only[fC];rw[ab,if_neg (by omega)]) (by omega)
theorem RU {s:ak} (h:bI s=true) (d:Int):0<=block s d/\block s d<=1000:=by
 have hs:=bM h;unfold block
 cases hf:s.tasks.findIdx? λt=>t.id==s.run with
 |none=>exact⟨Int.le_refl _,by show(0:Int)<=1000;omega⟩
 |some i=>
  obtain⟨hi,hid⟩:=sg hf;have hT:=(cn hs.2.2.2.2.2.2.1 hi).1;have:=tv h (XH hi) hid.symm;have:=fF hT;rw[XD,ag hi,XD];cases decide (s.tasks[i].due>d)
  ·exact⟨Int.le_refl _,by show(0:Int)<=1000;omega⟩
  ·simp only[cond_true];omega
theorem Em {s:ak} {d:Int} (h:bI s=true):cond (decide (lx s.tasks s.run>=(0:Int))) ((idx s.tasks (lx s.tasks s.run)).bind λe3=>cond (decide (e3.due>d)) (some s.left) (some (0:Int))) (some (0:Int))=some (block s d):=by
 unfold block
 cases hf:s.tasks.findIdx? λt=>t.id==s.run with
 |none=>rw[xT hf];rfl
 |some i=>
  obtain⟨hi,_⟩:=sg hf;rw[jd hf,ab,if_pos (by omega),aD,ag hi,aa,XD,ag hi,XD];cases decide (s.tasks[i].due>d)<;>rfl
theorem Ii {k:Nat} {s:ak} {d:Int} (hk:s.tot<k) (hN:s.tot<=aG) (h:bI s=true):vW k s d=some (block s d):=by
 have hlen:=br Task.tot s.tasks;have hst:s.tot=fI Task.tot s.tasks+0:=rfl;unfold vW;rw[ep hk hN,aa,h];simp only[XJ,cond_false];rw[mC (by omega) (by omega),aa,Em h]
theorem Nm {k:Nat} {s:ak} {d:Int} (hk:s.tot<k) (hN:s.tot<=aG) (h:bI s=true):lX k s d=some (block s d):=by
 have hlen:=br Task.tot s.tasks;have hst:s.tot=fI Task.tot s.tasks+0:=rfl;unfold lX;rw[wB (by omega) (by omega),aa,Em h]
def fh (s:ak) (t:Task):Bool:=decide (t.due<=s.now)
def Kr (s:ak) (t:Task):Bool:=decide (wC s t.due+block s t.due+s.ai<=t.due-s.now)
def Cp (s:ak):Bool:=bI s&&s.tasks.all λt=>!fh s t&&Kr s t
theorem P7 {α:Type} (p q:α->Bool):∀xs:List α,(xs.all p&&xs.all q)=xs.all λx=>p x&&q x
 |[]=>rfl
 |x::xs=>by
  rw[Zi,Zi,Zi,<-P7 p q xs];cases p x<;>cases q x<;>cases xs.all p<;>cases xs.all q<;>rfl
theorem Ks {k:Nat} {s:ak} (hk:s.tot<k) (hN:s.tot<=aG) (h:bI s=true):zZ k s=some ((s.tasks.filter (fh s)).map (·.id)):=by
  have hM:=aj;have hlen:=br Task.tot s.tasks;have hst:s.tot=fI Task.tot s.tasks+0:=rfl;unfold zZ;rw[ep hk hN,aa,h];simp only[XJ,cond_false]
  exact qK s.tasks (fh s) (·.id) (g:=λu5 n5=>na k (s.now,s.ai,s.age,s.tasks,s.run,s.left,s.turns,s.next) u5 n5 (λy4=>some y4)) (fin:=some)
    (λi ys hi next hl=>by
      simp only[na];rw[ab,if_pos (by omega),aD,ag hi,aa,al hi (by omega),aa,bR (by simp;omega)]
      rfl)
    (λys next=>by simp only[na];rw[ab,if_neg (by omega)]) (by omega)
theorem P8 {s:ak} (h:bI s=true) {t:Task} (hm:t∈s.tasks):decide ((i64.wrap ((i64.wrap (wC s t.due+block s t.due))+s.ai))>(i64.wrap (t.due-s.now)))=!Kr s t:=by
 have hs:=bM h;have hd:=P6 h t.due;have hb:=RU h t.due;obtain⟨i,hi,e⟩:=Yf.1 hm;have ht:=ch (t:=t) (e▸(cn hs.2.2.2.2.2.2.1 hi).1);rw[aL (n:=wC s t.due+block s t.due) (by omega) (by omega),aL (n:=wC s t.due+block s t.due+s.ai) (by omega) (by omega),aL (by omega) (by omega),P4];rfl
theorem Kt {k:Nat} {s:ak} (hk:s.tot<k) (hN:s.tot<=aG):Aa k s=some (Cp s):=by
 have hM:=aj;have hlen:=br Task.tot s.tasks;have hst:s.tot=fI Task.tot s.tasks+0:=rfl;unfold Aa Cp;rw[ep hk hN,aa];cases h:bI s
 ·rfl
 simp only[XJ,cond_false,XM]
 rw[Ks hk hN h,aa,kt s.tasks (Kr s) (yes:=some true) (no:=some false) (λi hi next=>by
  simp only[qx]
  rw[ab,if_pos (by omega),aD,ag hi,aa,show(⟨s.now,s.ai,s.age,s.tasks,s.run,s.left,s.turns,s.next⟩:ak)=s from rfl,F5 hk hN h,aa,Ii hk hN h,aa,P8 h (XH hi),cond_not,al hi (by omega)]) (λnext=>by
  simp only[qx];rw[ab,if_neg (by omega)]) (by omega)]
 rw[<-P7,List.length_map]
 have hz:decide (((s.tasks.filter (fh s)).length:Int)>0)=!(s.tasks.all λt=>!fh s t):=by
  cases ha:s.tasks.all λt=>!fh s t
  ·rw[List.all_eq_false]at ha;obtain⟨t,ht,hl⟩:=ha;have:0<(s.tasks.filter (fh s)).length:=List.length_pos_of_mem (Yv.2 ⟨ht,by simpa using hl⟩);rw[decide_eq_true (by omega)];rfl
  ·rw[X6]at ha
   have:s.tasks.filter (fh s)=[]:=List.filter_eq_nil_iff.2 λt ht=>by simpa using ha t ht
   rw[this];rfl
 rw[hz];cases s.tasks.all λt=>!fh s t
 ·rfl
 ·simp only[XJ,cond_false,XM];cases s.tasks.all (Kr s)<;>rfl
theorem Ku {k:Nat} {s:ak} (hk:s.tot<k) (hN:s.tot<=aG):Ab k s=some (Cp s):=by
  have hM:=aj;have hlen:=br Task.tot s.tasks;have hst:s.tot=fI Task.tot s.tasks+0:=rfl;unfold Ab Cp;rw[ly hk hN,aa];cases h:bI s
  · rfl
  simp only[cond_true,XM];unfold cT di;simp only[decide_true,cond_true]
  rw [dX s.tasks (λ t => !(!fh s t && Kr s t)) (yes := some (-1)) (no := some) (λ i hi next => by
    simp only[bS,decide_true,cond_true];rw[ab,if_pos (by omega),aD,ag hi,aa,show(⟨s.now,s.ai,s.age,s.tasks,s.run,s.left,s.turns,s.next⟩:ak)=s from rfl]
    have e:lY k s.tasks[i] s=some (!(!fh s s.tasks[i]&&Kr s s.tasks[i])):=by
      unfold lY dm;rw[aa,Kq hk hN h,Nm hk hN h];simp only[decide_true,cond_true,aa,P8 h (XH hi)];unfold fh;cases decide (s.tasks[i].due<=s.now)<;>cases Kr s s.tasks[i]<;>rfl
    rw[e,aa,al hi (by omega)]) (λnext=>by
    simp only[bS,decide_true,cond_true];rw[ab,if_neg (by omega)]) (by omega)]
  rw[cQ];simp only[aa,mB];rw[YZ];simp only[ZT]
def eY (s:ak) (av:List Int) (due:Int):ak× Int× Int:=
  cond (bI s&&je ⟨s.next,av,0,due,s.now⟩)
    (cond ((s.tasks.length:Int)==12||s.next==1000000) (s,0,2)
      (cond (Cp ⟨s.now,s.ai,s.age,s.tasks++[⟨s.next,av,0,due,s.now⟩],s.run,s.left,s.turns,s.next+1⟩)
        (⟨s.now,s.ai,s.age,s.tasks++[⟨s.next,av,0,due,s.now⟩],s.run,s.left,s.turns,s.next+1⟩,s.next,0) (s,0,3))) (s,0,1)
theorem Nn {k:Nat} {s:ak} {av:List Int} {due:Int} (hk:s.tot+av.length+1<k) (hN:s.tot+av.length+1<=aG):Fy k s av due=some (eY s av due):=by
 have hM:=aj;have hlen:=br Task.tot s.tasks;have hst:s.tot=fI Task.tot s.tasks+0:=rfl;have hT:Task.tot ⟨s.next,av,0,due,s.now⟩=av.length+0:=rfl;unfold Fy eY;rw[si (by omega) (by omega),aa,ln (by omega) (by omega),aa,ep (by omega) (by omega),aa,Ck (t:=⟨s.next,av,0,due,s.now⟩) (by show av.length<k;omega) (by show av.length<=aG;omega),aa];cases h:bI s
 ·rfl
 have hs:=bM h;simp only[XJ,cond_false,XM];cases je ⟨s.next,av,0,due,s.now⟩
 ·rfl
 simp only[XJ,cond_false,cond_true];cases((s.tasks.length:Int)==12)
 case true=>rfl
 cases(s.next==(1000000:Int))
 case true=>rfl
 simp only[cond_false,Bool.or_false]
 have ht2:ak.tot ⟨s.now,s.ai,s.age,s.tasks++[⟨s.next,av,0,due,s.now⟩],s.run,s.left,s.turns,s.next+1⟩=s.tot+(av.length+1):=by
  unfold ak.tot;simp only[uv,vz,hT];simp[fI]
 rw[bR (by omega),aL (by omega) (by omega),Kt (by omega) (by omega),aa,cond_not];cases Cp _<;>rfl
theorem Np {k:Nat} {s:ak} {av:List Int} {due:Int} (hk:s.tot+av.length+1<k) (hN:s.tot+av.length+1<=aG):FA k s av due=some (eY s av due):=by
 have hM:=aj;have hlen:=br Task.tot s.tasks;have hst:s.tot=fI Task.tot s.tasks+0:=rfl;have hT:Task.tot ⟨s.next,av,0,due,s.now⟩=av.length+0:=rfl;unfold FA eY;rw[dc (by omega),aa,kj (by omega) (by omega),aa,ly (by omega) (by omega),aa,Cl (t:=⟨s.next,av,0,due,s.now⟩) (by show av.length<k;omega) (by show av.length<=aG;omega),aa];cases h:bI s
 ·rfl
 have hs:=bM h;simp only[XJ,cond_false,XM];cases je ⟨s.next,av,0,due,s.now⟩
 ·rfl
 simp only[XJ,cond_false,cond_true];cases((s.tasks.length:Int)==12)
 case true=>rfl
 cases(s.next==(1000000:Int))
 case true=>rfl
 simp only[cond_false,Bool.or_false]
 have ht2:ak.tot ⟨s.now,s.ai,s.age,s.tasks++[⟨s.next,av,0,due,s.now⟩],s.run,s.left,s.turns,s.next+1⟩=s.tot+(av.length+1):=by
  unfold ak.tot;simp only[uv,vz,hT];simp[fI]
 rw[aa,bR (by omega),aL (by omega) (by omega),Ku (by omega) (by omega),aa,cond_not];cases Cp _<;>rfl
end
section
def UA (n:Nat) (t:Task):dY:=⟨t.id,n+1,t.at_,t.due,t.born⟩
def sj:Nat->List Task->List dY
 |_,[]=>[]
 |n,t::l=>UA n t::sj (n+5) l
theorem Cq:∀(ts:List Task) (n:Nat),yP .task .dp n ts=some (sj n ts)
 |[],n=>rfl
 |t::l,n=>by
  have ih:=Cq l (n+5);show((S.dp.fa (nH n (QE t))).bind λy=>(yP .task .dp (n+S.task.sz) l).bind λys=>some (y::ys))=_;rw[show S.task.sz=5 from rfl,ih];rfl
theorem eZ:∀(ts:List Task) (n:Nat),(sj n ts).length=ts.length
 |[],n=>rfl
 |t::l,n=>by simp[sj,eZ l]
theorem En:∀zs:List dY,Gj (dI .dp zs)=zs.map (·.av)
 |[]=>rfl
 |z::l=>by
  show Gj (Dl z++dI .dp l)=_;rw[Yp,<-En l];rfl
theorem Ij:∀{l:List Nat},l.Nodup->iq l=true
 |[],_=>rfl
 |x::l,h=>by
  rw[YI]at h;simp only[iq];cases hm:mem x l
  ·exact Ij h.2
  ·exact(h.1 ((mem_iff x l).1 hm)).elim
theorem Eo:∀(ts:List Task) (n:Nat),(∀z∈sj n ts,n<z.av)/\(sj n ts).Pairwise λa b=>a.av<b.av
 |[],n=>⟨(λz hz=>by simp[sj]at hz),List.Pairwise.nil⟩
 |t::l,n=>by
  obtain⟨h1,h2⟩:=Eo l (n+5);refine⟨λz hz=>?_,List.Pairwise.cons (λz hz=>?_) h2⟩
  ·rcases X3.1 hz with rfl|hz
   ·show n<n+1;omega
   ·have:=h1 z hz;omega
  ·have:=h1 z hz;show n+1<z.av;omega
theorem oD {ts:List Task} {n:Nat} (q:dY->Bool):j8 ((sj n ts).filter q)=true:=by
 have h:=((Eo ts n).2.filter q)
 have h2:iq (((sj n ts).filter q).map (·.av))=true:=by
  refine Ij ?_;rw[List.Nodup,List.pairwise_map]
  exact h.imp λh e=>by omega
 unfold j8;exact(congrArg iq (En ((sj n ts).filter q))).trans h2
theorem Nq (C:List R) (y:dY) (l:List dY):zy .task .dp C (y::l)=(xq C (Dl y)).bind λc=>(S.task.fa c).bind λx=>(zy .task .dp C l).bind λxs=>some (x::xs):=rfl
theorem Ep (p:Task->Bool) (q:dY->Bool) (hq:∀n t,q (UA n t)=p t) (C:List R):∀(ts:List Task) (n:Nat),(∀(i:Nat) (h:i<ts.length),C[n+5*i]? =some (.ints ts[i].av))->
  zy .task .dp C ((sj n ts).filter q)=some (ts.filter p)
 |[],n,_=>rfl
 |t::l,n,hC=>by
  have ih:=Ep p q hq C l (n+5) λi hi=>by
   have:=hC (i+1) (by simpa using hi);rw[show n+5+5*i=n+5*(i+1)from by omega,this];rfl
  have h0:C[n]? =some (.ints t.av):=by
   have:=hC 0 (by simp);simpa using this
  have e1:(sj n (t::l)).filter q=cond (p t) (UA n t::(sj (n+5) l).filter q) ((sj (n+5) l).filter q):=by
   simp only[sj,Y6,hq];cases p t<;>rfl
  have e2:(t::l).filter p=cond (p t) (t::l.filter p) (l.filter p):=by
   rw[Y6];cases p t<;>rfl
  refine(congrArg (zy .task .dp C) e1).trans (Eq.trans ?_ (congrArg some e2.symm));clear e1 e2;cases p t
  ·exact ih
  ·have hc:xq C (Dl (UA n t))=some (QE t):=by
    have hu:rE C (.tok (n+1))=some (.ints t.av):=by
     show(match C[n]? with|some (.sl t xs)=>some (R.sl t xs)|_=>none)=_;rw[h0]
    show((rE C (.i t.id)).bind λx=>((rE C (.tok (n+1))).bind λx=>((rE C (.i t.at_)).bind λx=>((rE C (.i t.due)).bind λx=>((rE C (.i t.born)).bind λx=>(some []).bind λxs=>some (x::xs)).bind λxs=>some (x::xs)).bind λxs=>some (x::xs)).bind λxs=>some (x::xs)).bind λxs=>some (x::xs))=_;rw[hu];rfl
   refine(Nq C (UA n t) _).trans ?_;rw[hc];exact congrArg (λr:Option (List Task)=>r.bind λxs=>some (t::xs)) ih
theorem F6 (ts:List Task) (i:Nat) (h:i<ts.length):(dI .task ts)[1+5*i]? =some (.ints ts[i].av):=by
 have:=qf (s:=.task) (xs:=ts) (i:=i) (j:=1) (r:=.ints ts[i].av) ⟨ts[i],ag h,rfl⟩;rw[show S.task.sz=5 from rfl]at this;rw[show 1+5*i=i*5+1 from by omega];exact this
theorem tw (ts:List Task):lJ ts=some (sj 1 ts):=Cq ts 1
theorem qL (ts:List Task) (p:Task->Bool) (q:dY->Bool) (hq:∀n t,q (UA n t)=p t):qS ts ((sj 1 ts).filter q)=some (ts.filter p):=
 Ep p q hq _ ts 1 λi hi=>F6 ts i hi
theorem kn {α R:Type} (xs:List α) (p:α->Bool) {g:Int× Int× List α->(Int× Int× List α->Option R)->Option R} {fin:Int× List α->Option R}
    (h:∀(i j:Nat) (ys:List α) (hj:j<xs.length) (next:Int× Int× List α->Option R),i<=j->ys.length=xs.length->ys[j]? =some xs[j]->
      g ((i:Int),(j:Int),ys) next=cond (p xs[j]) (next ((i:Int),((j+1:Nat):Int),ys)) (next (((i+1:Nat):Int),((j+1:Nat):Int),ys.set i xs[j])))
    (hn:∀(i:Nat) (ys:List α) next,ys.length=xs.length->g ((i:Int),(xs.length:Int),ys) next=fin ((i:Int),ys)):
    ∀ (d i j : Nat) (ys : List α) (k : Nat), j + d = xs.length -> d < k -> i <= j -> ys.length = xs.length -> ys.drop j = xs.drop j -> ys.take i = (xs.take j).filter (λ x => !p x) ->
      ∃(i':Nat) (ys':List α),i'<=xs.length/\ys'.length=xs.length/\ys'.take i'=xs.filter (λx=>!p x)/\iter g k ((i:Int),(j:Int),ys)=fin ((i':Int),ys')
  |d,i,j,ys,0,_,h2,_,_,_,_=>by omega
  | 0, i, j, ys, k + 1, h1, _, h3, h4, _, h6 => by
    have hj:j=xs.length:=by omega
    subst hj;refine⟨i,ys,h3,h4,by rw[h6,Yj],?_⟩
    rw[aI];exact hn i ys _ h4
  | d + 1, i, j, ys, k + 1, h1, h2, h3, h4, h5, h6 => by
    have hj:j<xs.length:=by omega
    have hg:ys[j]? =some xs[j]:=by
      have:(ys.drop j)[0]? =(xs.drop j)[0]? :=by rw[h5]
      rw[XU,XU,Yd]at this;rw[this];exact ag hj
    rw[aI,h i j ys hj _ h3 h4 hg]
    have Vq:∀zs:List α,(∀m,j<m->zs[m]? =ys[m]?)->zs.drop (j+1)=xs.drop (j+1):=λzs hz=>by
      apply List.ext_getElem?;intro m;rw[XU,XU,hz _ (by omega)]
      have:(ys.drop j)[m+1]? =(xs.drop j)[m+1]? :=by rw[h5]
      rw[XU,XU]at this;rw[show j+1+m=j+(m+1)from by omega];exact this
    cases hp:p xs[j]
    · simp only[cond_false];refine kn xs p h hn d (i+1) (j+1) (ys.set i xs[j]) k (by omega) (by omega) (by omega) (by simp[h4]) (Vq _ λm hm=>Za (by omega)) ?_;rw[cR hj,Zl,<-h6]
      have hi:i<ys.length:=by omega
      rw[cR (show i<(ys.set i xs[j]).length by simp;omega),List.take_set_of_le (X1 _)];simp[hp]
    · simp only[cond_true];refine kn xs p h hn d i (j+1) ys k (by omega) (by omega) (by omega) h4 (Vq _ λm hm=>rfl) ?_;rw[cR hj,Zl,<-h6];simp[hp]
theorem filter_none {α:Type} {p:α->Bool} {xs:List α} (h:xs.findIdx? p=none):xs.filter (λx=>!p x)=xs:=by
 rw[YS]at h
 exact YT.2 λx hx=>by rw[h x hx];rfl
theorem oE {α:Type} {p:α->Bool} {xs:List α} {i:Nat} (h:xs.findIdx? p=some i):i<xs.length/\xs.take i=(xs.take (i+1)).filter (λx=>!p x):=by
 obtain⟨hi,hp,hlt⟩:=YL.1 h;refine⟨hi,?_⟩;rw[cR hi,Zl]
 have h1:(xs.take i).filter (λx=>!p x)=xs.take i:=YT.2 λx hx=>by
  obtain⟨j,hj,rfl⟩:=Yf.1 hx
  have hj':j<i:=by simp at hj;omega
  rw[List.getElem_take];have:=hlt j hj';simpa using this
 rw[h1];simp[hp]
theorem tx {α:Type} {ys:List α} {i n:Nat} (z:α) (hi:i<=n) (hy:ys.length=n):((ys.take i++List.replicate (n-i) z++ys.drop (i+(n-i))).take (i-0))=ys.take i/\(ys.take i++List.replicate (n-i) z++ys.drop (i+(n-i))).length=n:=by
 refine⟨?_,by simp;omega⟩;rw[Yt,XP,YU (by simp;omega),List.take_take,Nat.min_self]
theorem Cr {k:Nat} {zs:List dY} {id:Int} (hk:zs.length<k) (hN:zs.length<=aG):cc k zs id=some ((zs.findIdx? λz=>z.id==id).elim (-1) λi=>(i:Int)):=by
 have hM:=aj;unfold cc
 rw[dX zs (λt=>t.id==id) (yes:=some (-1)) (no:=some) (λi hi next=>by
  simp only[bT,eB,decide_true,cond_true,aa]
  rw[ab,if_pos (by omega),aD,ag hi,aa,al hi (by omega)]) (λnext=>by
  simp only[bT,decide_true,cond_true];rw[ab,if_neg (by omega)]) hk]
 exact cQ _
theorem qU {k:Nat} {zs:List dY} {id:Int} (hk:zs.length<k) (hN:zs.length<=aG):bz k zs id=some (zs.filter λz=>!(z.id==id)):=by
  have hM:=aj;unfold bz;rw[Cr hk hN,aa]
  cases hf:zs.findIdx? λz=>z.id==id with
  | none =>
    rw[X5,filter_none hf]
    simp
  | some i =>
    obtain⟨hi,hfi⟩:=oE hf;rw[XD,cO,if_neg (by omega),al hi (by omega)];simp only[decide_true,cond_true]
    obtain⟨i',ys',h1,h2,h3,h4⟩:=kn zs (λz=>z.id==id) (R:=List dY) (g:=λu5 n5=>aZ k id u5 n5 (λy4=>cond (decide (0<=y4.1/\y4.1<=(y4.2.length:Int))) (cond (decide (0<=y4.1/\y4.1<=(((y4.2).take y4.1.toNat++List.replicate (y4.2.length-y4.1.toNat) (⟨(0:Int),(0:Nat),(0:Int),(0:Int),(0:Int)⟩:dY)++(y4.2).drop (y4.1.toNat+(y4.2.length-y4.1.toNat))).length:Int))) (some (((y4.2).take y4.1.toNat++List.replicate (y4.2.length-y4.1.toNat) (⟨(0:Int),(0:Nat),(0:Int),(0:Int),(0:Int)⟩:dY)++(y4.2).drop (y4.1.toNat+(y4.2.length-y4.1.toNat))).take (y4.1.toNat-0))) none) none))
      (fin:=λy4=>cond (decide (0<=y4.1/\y4.1<=(y4.2.length:Int))) (cond (decide (0<=y4.1/\y4.1<=(((y4.2).take y4.1.toNat++List.replicate (y4.2.length-y4.1.toNat) (⟨(0:Int),(0:Nat),(0:Int),(0:Int),(0:Int)⟩:dY)++(y4.2).drop (y4.1.toNat+(y4.2.length-y4.1.toNat))).length:Int))) (some (((y4.2).take y4.1.toNat++List.replicate (y4.2.length-y4.1.toNat) (⟨(0:Int),(0:Nat),(0:Int),(0:Int),(0:Int)⟩:dY)++(y4.2).drop (y4.1.toNat+(y4.2.length-y4.1.toNat))).take (y4.1.toNat-0))) none) none)
      (λi j ys hj next hij hl hg=>by
        simp only[aZ,eB,decide_true,cond_true,aa,hl]
        rw[ab,if_pos (by omega),ab,if_pos (by omega),XE,hg,aa,cond_not,ab,if_pos (by omega),al hj (by omega),al (show i<zs.length by omega) (by omega),XE])
      (λi ys next hl=>by simp only[aZ,hl];rw[ab,if_neg (by omega)])
      (zs.length-(i+1)) i (i+1) zs k (by omega) (by omega) (by omega) rfl rfl hfi
    refine h4.trans ?_;obtain⟨c1,c2⟩:=tx (⟨0,0,0,0,0⟩:dY) h1 h2;simp only[XE,h2];rw[c2,c1,ab,if_pos (by omega),ab,if_pos (by omega),h3]
theorem zo {k:Nat} {zs:List dY} {a b c d e f g id:Int} (hk:zs.length<k) (hN:zs.length<=aG):gF k a b c zs d e f g id=some (zs.filter λz=>!(z.id==id)):=by
 have hM:=aj;unfold gF;simp only[decide_true,cond_true]
 refine(qK zs (λz=>!(z.id==id)) (λz=>z) (g:=λu4 n4=>iA k (id,a,b,c,d,e,f,g,zs) u4 n4 (λy3=>some y3)) (fin:=some) (λi ys hi next hl=>by
  simp only[iA];rw[ab,if_pos (by omega),ab,if_pos (by omega),XE,ag hi,aa,ab,if_pos (by omega),aa,bR (by simp;omega),al hi (by omega)]
  rfl) (λys next=>by
  simp only[iA];rw[ab,if_neg (by omega)]) hk).trans ?_
 simp
def NR (ts:List Task) (id:Int):List Task:=ts.filter λt=>!(t.id==id)
def sk (s:ak) (id:Int):ak× Bool:=
 cond (bI s&&decide (0<=lx s.tasks id)) (⟨s.now,s.ai,s.age,NR s.tasks id,cond (s.run==id) 0 s.run,cond (s.run==id) 0 s.left,s.turns,s.next⟩,true) (s,false)
theorem Nr {k:Nat} {zs:List dY} {a b c d e f g id:Int} (hk:zs.length<k) (hN:zs.length<=aG):dN k a b c zs d e f g id=some (zs.filter λz=>!(z.id==id),cond (d==id) 0 d,cond (d==id) 0 e):=by
 unfold dN;rw[qU hk hN,aa];simp only[decide_true,cond_true];cases d==id<;>rfl
theorem sn {k:Nat} {s:ak} {id:Int} (hk:s.tot<k) (hN:s.tot<=aG):lf k s id=some (sk s id):=by
 have hlen:=br Task.tot s.tasks;have hst:s.tot=fI Task.tot s.tasks+0:=rfl;unfold lf sk;rw[si hk hN,aa,ep hk hN,aa];cases bI s
 ·rfl
 simp only[XJ,cond_false,XM];rw[mC (by omega) (by omega),aa];by_cases c:lx s.tasks id<0
 ·rw[decide_eq_true c,decide_eq_false (by omega)];rfl
 rw[decide_eq_false c,decide_eq_true (by omega)];simp only[cond_false,cond_true];rw[tw,aa,zo (by rw[eZ];omega) (by rw[eZ];omega),aa,oD,cond_true,qL s.tasks (λt=>!(t.id==id)) (λz=>!(z.id==id)) (λn t=>rfl),aa];unfold NR;cases s.run==id<;>rfl
end
section
def Ik (key:Task->Int):List Task->Option Task
 |[]=>none
 |x::xs=>some (xs.foldl (λm t=>cond (decide (key t<key m)) t m) x)
theorem tS (k:Nat) (a b:Int):du k a b=some (cond (decide (a<b)) (-1) (cond (decide (a>b)) 1 0)):=by
 unfold du lZ;grind
theorem Il {k:Nat} {a b:Int} (hk:3<k):pC k [a,b]=some (cond (a !=0) a b):=by
 obtain⟨k,rfl⟩:∃k',k=k'+3:=⟨k-3,by omega⟩;unfold pC;show cond (a !=0) (some a) (iter (λu4 n4=>l0 (k+3) ((0:Int),[a,b],(([a,b]:List Int).length:Int)) u4 n4 (λy2=>some (0:Int)) (λy3=>some y3)) (k+2) (i64.wrap (0+1)))=_;cases h:a !=0
 ·rw[aL (n:=0+1) (by omega) (by omega)];show cond (b !=0) (some b) (iter (λu4 n4=>l0 (k+3) ((0:Int),[a,b],(([a,b]:List Int).length:Int)) u4 n4 (λy2=>some (0:Int)) (λy3=>some y3)) (k+1) (i64.wrap (1+1)))=_;cases hb:b !=0
  ·have:b=0:=by simpa using hb
   subst this;rw[aL (n:=1+1) (by omega) (by omega)];rfl
  ·rfl
 ·rfl
theorem LQ {a b i j:Int} (h:j<i):decide (cond (cond (decide (a<b)) (-1) (cond (decide (a>b)) 1 0) !=(0:Int)) (cond (decide (a<b)) (-1) (cond (decide (a>b)) 1 0)) (cond (decide (i<j)) (-1) (cond (decide (i>j)) 1 0))<(0:Int))=decide (a<b):=by
 grind
theorem Af (key:Task->Int):∀(xs:List Task) (x:Task),xs.foldl (λm t=>cond (decide (key t<key m)) t m) x∈x::xs
 |[],x=>by simp
 |y::xs,x=>by
  rw[Zp];have:=Af key xs (cond (decide (key y<key x)) y x);grind
theorem P9 {x:Task} {xs:List Task} (hp:(x::xs).Pairwise λa b=>a.id<b.id) {i:Nat} (hi:i<xs.length) {m:Task} (hm:m∈x::xs.take i):m.id<xs[i].id:=by
 rw[ZN]at hp
 rcases X3.1 hm with rfl|hm
 ·grind
 ·obtain⟨j,hj,rfl⟩:=Yf.1 hm
  have hj':j<i:=by simp at hj;omega
  rw[List.getElem_take];exact(List.pairwise_iff_getElem.1 hp.2) j i (by omega) hi hj'
theorem Im {k:Nat} {x:Task} {xs:List Task} (hk:xs.length+2<k) (hN:xs.length<aG) (hp:(x::xs).Pairwise λa b=>a.id<b.id):cH k (x::xs)=some (xs.foldl (λm t=>cond (decide (Task.born t<Task.born m)) t m) x):=by
 have hM:=aj;unfold cH;rw[ab,if_neg (by simp;omega),vx,ag (by simp),aa]
 have:=eG (g:=λu6 n6=>bH k (x::xs,(0:Int),(0:Int),(0:Int),(0:Int)) u6 n6 (λy5=>some (⟨y5.1,y5.2.1,y5.2.2.1,y5.2.2.2.1,y5.2.2.2.2⟩:Task)))
  (st:=λi=>let m:=(xs.take i).foldl (λm t=>cond (decide (Task.born t<Task.born m)) t m) x;(((i+1:Nat):Int),m.id,m.av,m.at_,m.due,m.born)) (n:=xs.length) (r:=some (xs.foldl (λm t=>cond (decide (Task.born t<Task.born m)) t m) x)) (λi hi next=>by
  have QC:=Af Task.born (xs.take i) x;have hlt:=P9 hp hi QC;rw[cR hi,Yx];generalize (xs.take i).foldl (λm t=>cond (decide (Task.born t<Task.born m)) t m) x=m at hlt;simp only[bH,jG,jF,aa,tS,Il (show 3<k by omega)];rw[ab,if_pos (by simp;omega),aD,Ze,ag hi,aa,aa,aL (by omega) (by omega),LQ hlt];simp only[Zp,List.foldl_nil]
  cases decide (Task.born xs[i]<Task.born m)<;>rfl) (λnext=>by
  rw[Yj];simp only[bH]
  rw[ab,if_neg (by simp)]) (k:=k) (by omega)
 exact this
theorem F7 {k:Nat} {x:Task} {xs:List Task} (hk:xs.length+2<k) (hN:xs.length<aG) (hp:(x::xs).Pairwise λa b=>a.id<b.id):cu k (x::xs)=some (xs.foldl (λm t=>cond (decide (Task.due t<Task.due m)) t m) x):=by
 have hM:=aj;unfold cu;rw[ab,if_neg (by simp;omega),vx,ag (by simp),aa]
 have:=eG (g:=λu6 n6=>bA k (x::xs,(0:Int),(0:Int),(0:Int),(0:Int)) u6 n6 (λy5=>some (⟨y5.1,y5.2.1,y5.2.2.1,y5.2.2.2.1,y5.2.2.2.2⟩:Task)))
  (st:=λi=>let m:=(xs.take i).foldl (λm t=>cond (decide (Task.due t<Task.due m)) t m) x;(((i+1:Nat):Int),m.id,m.av,m.at_,m.due,m.born)) (n:=xs.length) (r:=some (xs.foldl (λm t=>cond (decide (Task.due t<Task.due m)) t m) x)) (λi hi next=>by
  have QC:=Af Task.due (xs.take i) x;have hlt:=P9 hp hi QC;rw[cR hi,Yx];generalize (xs.take i).foldl (λm t=>cond (decide (Task.due t<Task.due m)) t m) x=m at hlt;simp only[bA,iN,jI,aa,tS,Il (show 3<k by omega)];rw[ab,if_pos (by simp;omega),aD,Ze,ag hi,aa,aa,aL (by omega) (by omega),LQ hlt];simp only[Zp,List.foldl_nil]
  cases decide (Task.due xs[i]<Task.due m)<;>rfl) (λnext=>by
  rw[Yj];simp only[bA]
  rw[ab,if_neg (by simp)]) (k:=k) (by omega)
 exact this
theorem Cs {k:Nat} {xs:List Task} {s:ak} (hk:xs.length<k) (hN:xs.length<=aG):cd k xs s=some ((xs.findIdx? λt=>!fh s t).elim (-1) λi=>(i:Int)):=by
 have hM:=aj;unfold cd;simp only[decide_true,cond_true]
 rw[dX xs (λt=>!fh s t) (yes:=some (-1)) (no:=some) (λi hi next=>by
  simp only[bU,jE,dm,decide_true,cond_true,aa];rw[ab,if_pos (by omega),ab,if_pos (by omega),XE,ag hi,aa,al hi (by omega)]
  rfl) (λnext=>by
  simp only[bU,decide_true,cond_true];rw[ab,if_neg (by omega)]) hk]
 exact cQ _
theorem zE {k:Nat} {xs:List Task} {s:ak} (hk:xs.length<k) (hN:xs.length<=aG):b7 k xs s=some (xs.filter λt=>!(!fh s t)):=by
  have hM:=aj;unfold b7;rw[Cs hk hN,aa]
  cases hf:xs.findIdx? λt=>!fh s t with
  | none =>
    rw[X5,filter_none hf]
    simp
  | some i =>
    obtain⟨hi,hfi⟩:=oE hf;rw[XD,cO,if_neg (by omega),al hi (by omega)];simp only[decide_true,cond_true]
    obtain⟨i',ys',h1,h2,h3,h4⟩:=kn xs (λt=>!fh s t) (R:=List Task) (g:=λu5 n5=>ba k (s.now,s.ai,s.age,s.tasks,s.run,s.left,s.turns,s.next) u5 n5 (λy4=>cond (decide (0<=y4.1/\y4.1<=(y4.2.length:Int))) (cond (decide (0<=y4.1/\y4.1<=(((y4.2).take y4.1.toNat++List.replicate (y4.2.length-y4.1.toNat) (⟨(0:Int),([]:List Int),(0:Int),(0:Int),(0:Int)⟩:Task)++(y4.2).drop (y4.1.toNat+(y4.2.length-y4.1.toNat))).length:Int))) (some (((y4.2).take y4.1.toNat++List.replicate (y4.2.length-y4.1.toNat) (⟨(0:Int),([]:List Int),(0:Int),(0:Int),(0:Int)⟩:Task)++(y4.2).drop (y4.1.toNat+(y4.2.length-y4.1.toNat))).take (y4.1.toNat-0))) none) none))
      (fin:=λy4=>cond (decide (0<=y4.1/\y4.1<=(y4.2.length:Int))) (cond (decide (0<=y4.1/\y4.1<=(((y4.2).take y4.1.toNat++List.replicate (y4.2.length-y4.1.toNat) (⟨(0:Int),([]:List Int),(0:Int),(0:Int),(0:Int)⟩:Task)++(y4.2).drop (y4.1.toNat+(y4.2.length-y4.1.toNat))).length:Int))) (some (((y4.2).take y4.1.toNat++List.replicate (y4.2.length-y4.1.toNat) (⟨(0:Int),([]:List Int),(0:Int),(0:Int),(0:Int)⟩:Task)++(y4.2).drop (y4.1.toNat+(y4.2.length-y4.1.toNat))).take (y4.1.toNat-0))) none) none)
      (λi j ys hj next hij hl hg=>by
        simp only[ba,iL,dm,decide_true,cond_true,aa,hl];rw[ab,if_pos (by omega),ab,if_pos (by omega),XE,hg,aa,cond_not,ab,if_pos (by omega),al hj (by omega),al (show i<xs.length by omega) (by omega),XE]
        rfl)
      (λi ys next hl=>by simp only[ba,hl];rw[ab,if_neg (by omega)])
      (xs.length-(i+1)) i (i+1) xs k (by omega) (by omega) (by omega) rfl rfl hfi
    refine h4.trans ?_;obtain⟨c1,c2⟩:=tx ((⟨(0:Int),([]:List Int),(0:Int),(0:Int),(0:Int)⟩:Task)) h1 h2;grind
theorem Ct {k:Nat} {xs:List Task} {s:ak} (hk:xs.length<k) (hN:xs.length<=aG):cg k xs s=some ((xs.findIdx? λt=>!(!fh s t)).elim (-1) λi=>(i:Int)):=by
 have hM:=aj;unfold cg;simp only[decide_true,cond_true]
 rw[dX xs (λt=>!(!fh s t)) (yes:=some (-1)) (no:=some) (λi hi next=>by
  simp only[bV,iM,eC,fD,dm,decide_true,cond_true,aa];rw[ab,if_pos (by omega),ab,if_pos (by omega),XE,ag hi,aa,al hi (by omega)]
  rfl) (λnext=>by
  simp only[bV,decide_true,cond_true];rw[ab,if_neg (by omega)]) hk]
 exact cQ _
theorem zF {k:Nat} {xs:List Task} {s:ak} (hk:xs.length<k) (hN:xs.length<=aG):b8 k xs s=some (xs.filter λt=>!(!(!fh s t))):=by
  have hM:=aj;unfold b8;rw[Ct hk hN,aa]
  cases hf:xs.findIdx? λt=>!(!fh s t)with
  | none =>
    rw[X5,filter_none hf]
    simp
  | some i =>
    obtain⟨hi,hfi⟩:=oE hf;rw[XD,cO,if_neg (by omega),al hi (by omega)];simp only[decide_true,cond_true]
    obtain⟨i',ys',h1,h2,h3,h4⟩:=kn xs (λt=>!(!fh s t)) (R:=List Task) (g:=λu5 n5=>bc k (s.now,s.ai,s.age,s.tasks,s.run,s.left,s.turns,s.next) u5 n5 (λy4=>cond (decide (0<=y4.1/\y4.1<=(y4.2.length:Int))) (cond (decide (0<=y4.1/\y4.1<=(((y4.2).take y4.1.toNat++List.replicate (y4.2.length-y4.1.toNat) (⟨(0:Int),([]:List Int),(0:Int),(0:Int),(0:Int)⟩:Task)++(y4.2).drop (y4.1.toNat+(y4.2.length-y4.1.toNat))).length:Int))) (some (((y4.2).take y4.1.toNat++List.replicate (y4.2.length-y4.1.toNat) (⟨(0:Int),([]:List Int),(0:Int),(0:Int),(0:Int)⟩:Task)++(y4.2).drop (y4.1.toNat+(y4.2.length-y4.1.toNat))).take (y4.1.toNat-0))) none) none))
      (fin:=λy4=>cond (decide (0<=y4.1/\y4.1<=(y4.2.length:Int))) (cond (decide (0<=y4.1/\y4.1<=(((y4.2).take y4.1.toNat++List.replicate (y4.2.length-y4.1.toNat) (⟨(0:Int),([]:List Int),(0:Int),(0:Int),(0:Int)⟩:Task)++(y4.2).drop (y4.1.toNat+(y4.2.length-y4.1.toNat))).length:Int))) (some (((y4.2).take y4.1.toNat++List.replicate (y4.2.length-y4.1.toNat) (⟨(0:Int),([]:List Int),(0:Int),(0:Int),(0:Int)⟩:Task)++(y4.2).drop (y4.1.toNat+(y4.2.length-y4.1.toNat))).take (y4.1.toNat-0))) none) none)
      (λi j ys hj next hij hl hg=>by
        simp only[bc,eC,eC,fD,dm,decide_true,cond_true,aa,hl];rw[ab,if_pos (by omega),ab,if_pos (by omega),XE,hg,aa,cond_not,ab,if_pos (by omega),al hj (by omega),al (show i<xs.length by omega) (by omega),XE]
        rfl)
      (λi ys next hl=>by simp only[bc,hl];rw[ab,if_neg (by omega)])
      (xs.length-(i+1)) i (i+1) xs k (by omega) (by omega) (by omega) rfl rfl hfi
    refine h4.trans ?_;obtain⟨c1,c2⟩:=tx ((⟨(0:Int),([]:List Int),(0:Int),(0:Int),(0:Int)⟩:Task)) h1 h2;grind
theorem tT {k:Nat} {xs:List Task} (hx:xs.length<=aG):cC k xs=some xs:=by
 unfold cC;rw[bR (by simpa using hx)]
 cases xs with
 |nil=>simp only[isNil,cond_true,XY];exact we _
 |cons x l=>rfl
theorem F8 {s:ak} (h:ig s=true):s.tasks.Pairwise λa b=>a.id<b.id:=by
 rw[List.pairwise_iff_getElem];intro i j hi hj hij;obtain⟨d,rfl⟩:∃d,j=i+d+1:=⟨j-i-1,by omega⟩;exact LM h d i hj
def Dg (s:ak):Option Task:=Ik Task.born (s.tasks.filter (fh s))
def qV (s:ak):Option Task:=Ik Task.due (s.tasks.filter λt=>!fh s t)
theorem Ns {k:Nat} {s:ak} (hk:s.tot+2<k) (hN:s.tot<aG) (h:ig s=true):jH k s s=some ((Dg s).elim 0 Task.id):=by
 have hM:=aj;have hlen:=br Task.tot s.tasks;have hst:s.tot=fI Task.tot s.tasks+0:=rfl;have hf:=Zn (fh s) s.tasks;unfold jH Dg;rw[tT (by omega),aa,zE (by omega) (by omega),aa];simp only[ZT]
 cases hq:s.tasks.filter (fh s)with
 |nil=>rfl
 |cons x xs=>
  rw[hq]at hf;have hp:=(F8 h).filter (fh s);rw[hq]at hp;rw[cO,if_neg (by simp;omega),Im (by simp at hf;omega) (by simp at hf;omega) hp,aa];rfl
theorem Kv {k:Nat} {s:ak} (hk:s.tot+2<k) (hN:s.tot<aG) (h:ig s=true):iF k s s=some ((qV s).elim 0 Task.id):=by
 have hM:=aj;have hlen:=br Task.tot s.tasks;have hst:s.tot=fI Task.tot s.tasks+0:=rfl;have hf:=Zn (λt=>!fh s t) s.tasks;unfold iF qV;rw[tT (by omega),aa,zF (by omega) (by omega),aa];simp only[ZT,decide_true,cond_true]
 cases hq:s.tasks.filter λt=>!fh s t with
 |nil=>rfl
 |cons x xs=>
  rw[hq]at hf;have hp:=(F8 h).filter λt=>!fh s t;rw[hq]at hp;rw[cO,if_neg (by simp;omega),F7 (by simp at hf;omega) (by simp at hf;omega) hp,aa];rfl
def lz (s:ak):Int:=
 cond ((Dg s).isSome&&(!(qV s).isSome||(decide (s.age>0)&&(s.turns.tmod s.age==0)))) ((Dg s).elim 0 Task.id) ((qV s).elim 0 Task.id)
theorem pI {key:Task->Int} {xs:List Task} {t:Task} (h:Ik key xs=some t):t∈xs:=by
 cases xs with
 |nil=>exact nomatch h
 |cons x xs=>
  simp only[Ik,It]at h;rw[<-h];exact Af key xs x
theorem Qa {s:ak} (h:ig s=true) {t:Task} (ht:Dg s=some t):1<=t.id:=by
 have:=(Yv.1 (pI ht)).1;obtain⟨i,hi,rfl⟩:=Yf.1 this;exact(ch (cn h hi).1).1.1
theorem F9 {s:ak} (h:ig s=true) {t:Task} (ht:qV s=some t):1<=t.id:=by
 have:=(Yv.1 (pI ht)).1;obtain⟨i,hi,rfl⟩:=Yf.1 this;exact(ch (cn h hi).1).1.1
theorem Qb {k:Nat} {s:ak} (hk:s.tot+2<k) (hN:s.tot<aG) (h:ig s=true):lg k s=some (lz s):=by
 unfold lg lz;rw[Ns hk hN h,aa,Kv hk hN h,aa]
 have hage:∀X:Option Int,(cond (decide (s.age>0)) (cond (decide (s.age=0)) none X) X)=X:=λX=>by
  grind
 cases hl:Dg s with
 |none=>
  grind
 |some l=>
  have h1:=Qa h hl
  cases he:qV s with
  |none=>
   grind
  |some e=>
   have h2:=F9 h he;grind
def better (key:Task->Int) (m:Option Task) (t:Task):Option Task:=m.elim (some t) λu=>cond (decide (key t<key u)) (some t) (some u)
theorem Cu (key:Task->Int):∀(xs:List Task) (m:Task),xs.foldl (better key) (some m)=some (xs.foldl (λm t=>cond (decide (key t<key m)) t m) m)
 |[],m=>rfl
 |x::xs,m=>by
  rw[Zp,Zp,<-Cu key xs]
  congr 1
  show cond (decide (key x<key m)) (some x) (some m)=_;grind
theorem Nt (key:Task->Int) (xs:List Task):xs.foldl (better key) none=Ik key xs:=by
 cases xs with
 |nil=>rfl
 |cons x xs=>exact Cu key xs x
def AtT (ts:List Task) (l:Int) (m:Option Task):Prop:=(m=none/\l=-1)\/∃(j:Nat) (hj:j<ts.length),l=(j:Int)/\m=some ts[j]
theorem Io {R:Type} {k:Nat} {s:ak} {fin:Int× Int->Option R} (hN:s.tasks.length<=aG):∀(d i:Nat) (l e:Int) (ml me:Option Task) (kf:Nat),i+d=s.tasks.length->d<kf->AtT s.tasks l ml->AtT s.tasks e me->
  ∃l' e',AtT s.tasks l' (((s.tasks.drop i).filter (fh s)).foldl (better Task.born) ml)/\AtT s.tasks e' (((s.tasks.drop i).filter λt=>!fh s t).foldl (better Task.due) me)/\
   iter (λu11 n11=>eU k (s.now,s.ai,s.age,s.tasks,s.run,s.left,s.turns,s.next) u11 n11 fin) kf (l,e,(i:Int))=fin (l',e')
 |d,i,l,e,ml,me,0,_,h,_,_=>by omega
 |0,i,l,e,ml,me,kf+1,hi,_,hl,he=>by
  have:i=s.tasks.length:=by omega
  subst this;refine⟨l,e,by simpa using hl,by simpa using he,?_⟩;rw[aI];simp only[eU]
  grind
 |d+1,i,l,e,ml,me,kf+1,hi,h,hl,he=>by
  have hM:=aj
  have hlt:i<s.tasks.length:=by omega
  have RV:AtT s.tasks (i:Int) (some s.tasks[i]):=.inr ⟨i,hlt,rfl,rfl⟩
  have uZ:∀(l2 e2:Int) (ml2 me2:Option Task),AtT s.tasks l2 ml2->AtT s.tasks e2 me2->ml2=cond (fh s s.tasks[i]) (better Task.born ml s.tasks[i]) ml->me2=cond (fh s s.tasks[i]) me (better Task.due me s.tasks[i])->
    (∀next:Int× Int× Int->Option R,eU k (s.now,s.ai,s.age,s.tasks,s.run,s.left,s.turns,s.next) (l,e,(i:Int)) next fin=next (l2,e2,((i+1:Nat):Int)))->
    ∃l' e',AtT s.tasks l' (((s.tasks.drop i).filter (fh s)).foldl (better Task.born) ml)/\AtT s.tasks e' (((s.tasks.drop i).filter λt=>!fh s t).foldl (better Task.due) me)/\
     iter (λu11 n11=>eU k (s.now,s.ai,s.age,s.tasks,s.run,s.left,s.turns,s.next) u11 n11 fin) (kf+1) (l,e,(i:Int))=fin (l',e'):=λl2 e2 ml2 me2 h1 h2 e1 e2' hg=>by
   obtain⟨l',e',g1,g2,g3⟩:=Io (k:=k) (fin:=fin) hN d (i+1) l2 e2 ml2 me2 kf (by omega) (by omega) h1 h2;refine⟨l',e',?_,?_,?_⟩
   ·rw[iu hlt,Y6];grind
   ·rw[iu hlt,Y6];grind
   ·rw[aI,hg];exact g3
  have e0:∀next:Int× Int× Int->Option R,eU k (s.now,s.ai,s.age,s.tasks,s.run,s.left,s.turns,s.next) (l,e,(i:Int)) next fin=
    cond (fh s s.tasks[i]) (cond (decide (l<(0:Int))) (next ((i:Int),e,((i+1:Nat):Int))) ((idx s.tasks l).bind λe3=>cond (decide (s.tasks[i].born<e3.born)) (next ((i:Int),e,((i+1:Nat):Int))) (next (l,e,((i+1:Nat):Int)))))
     (cond (decide (e<(0:Int))) (next (l,(i:Int),((i+1:Nat):Int))) ((idx s.tasks e).bind λe4=>cond (decide (s.tasks[i].due<e4.due)) (next (l,(i:Int),((i+1:Nat):Int))) (next (l,e,((i+1:Nat):Int))))):=λnext=>by
   simp only[eU];rw[ab,if_pos (by omega),aD,ag hlt,aa,al hlt (by omega)];rfl
  cases hb:fh s s.tasks[i]
  ·rcases he with⟨rfl,rfl⟩|⟨j,hj,rfl,rfl⟩
   ·exact uZ l (i:Int) ml (some s.tasks[i]) hl RV (by rw[hb];rfl) (by rw[hb];rfl) λnext=>by rw[e0,hb];rfl
   ·by_cases c:s.tasks[i].due<s.tasks[j].due
    ·exact uZ l (i:Int) ml (some s.tasks[i]) hl RV (by rw[hb];rfl) (by rw[hb];show _=cond (decide (s.tasks[i].due<s.tasks[j].due)) _ _;rw[decide_eq_true c];rfl) λnext=>by
      rw[e0,hb,cond_false,ab,if_neg (by omega),aD,ag hj,aa,decide_eq_true c];rfl
    ·exact uZ l (j:Int) ml (some s.tasks[j]) hl (.inr ⟨j,hj,rfl,rfl⟩) (by rw[hb];rfl) (by rw[hb];show _=cond (decide (s.tasks[i].due<s.tasks[j].due)) _ _;rw[decide_eq_false c];rfl) λnext=>by
      rw[e0,hb,cond_false,ab,if_neg (by omega),aD,ag hj,aa,decide_eq_false c];rfl
  ·rcases hl with⟨rfl,rfl⟩|⟨j,hj,rfl,rfl⟩
   ·exact uZ (i:Int) e (some s.tasks[i]) me RV he (by rw[hb];rfl) (by rw[hb];rfl) λnext=>by rw[e0,hb];rfl
   ·by_cases c:s.tasks[i].born<s.tasks[j].born
    ·exact uZ (i:Int) e (some s.tasks[i]) me RV he (by rw[hb];show _=cond (decide (s.tasks[i].born<s.tasks[j].born)) _ _;rw[decide_eq_true c];rfl) (by rw[hb];rfl) λnext=>by
      rw[e0,hb,cond_true,ab,if_neg (by omega),aD,ag hj,aa,decide_eq_true c];rfl
    ·exact uZ (j:Int) e (some s.tasks[j]) me (.inr ⟨j,hj,rfl,rfl⟩) he (by rw[hb];show _=cond (decide (s.tasks[i].born<s.tasks[j].born)) _ _;rw[decide_eq_false c];rfl) (by rw[hb];rfl) λnext=>by
      rw[e0,hb,cond_true,ab,if_neg (by omega),aD,ag hj,aa,decide_eq_false c];rfl
theorem Ga {k:Nat} {s:ak} (hk:s.tot<k) (hN:s.tot<=aG) (h:bI s=true):s7 k s=some (lz s):=by
 have hM:=aj;have hs:=bM h;have hlen:=br Task.tot s.tasks;have hst:s.tot=fI Task.tot s.tasks+0:=rfl;unfold s7;rw[ep hk hN,aa,h];simp only[XJ,cond_false];obtain⟨l,e,hl,he,hi⟩:=Io (R:=Int) (k:=k) (s:=s) (fin:=λy5=>cond (decide (y5.1>=(0:Int))) (cond (decide (y5.2<(0:Int))) ((idx s.tasks y5.1).bind λe6=>some e6.id) (cond (decide (s.age>(0:Int))) (cond (decide (s.age=0)) none (cond ((s.turns.tmod s.age)==(0:Int)) ((idx s.tasks y5.1).bind λe7=>some e7.id) (cond (decide (y5.2>=(0:Int))) ((idx s.tasks y5.2).bind λe8=>some e8.id) (some (0:Int))))) (cond (decide (y5.2>=(0:Int))) ((idx s.tasks y5.2).bind λe9=>some e9.id) (some (0:Int))))) (cond (decide (y5.2>=(0:Int))) ((idx s.tasks y5.2).bind λe10=>some e10.id) (some (0:Int)))) (by omega) s.tasks.length 0 (-1) (-1) none none k (by omega) (by omega) (.inl ⟨rfl,rfl⟩) (.inl ⟨rfl,rfl⟩);refine hi.trans ?_;rw[Zt,Nt]at hl he;unfold lz;have el:Dg s=Ik Task.born (s.tasks.filter (fh s)):=rfl;have ee:qV s=Ik Task.due (s.tasks.filter λt=>!fh s t):=rfl;rw[<-el]at hl;rw[<-ee]at he
 rcases hl with⟨hl,rfl⟩|⟨j,hj,rfl,hl⟩
 ·rcases he with⟨he,rfl⟩|⟨j2,hj2,rfl,he⟩
  ·grind
  ·rw[hl,he];simp only[Y5,Yy,cond_false,XD];rw[decide_eq_false (show¬((-1:Int)>=0) by omega),decide_eq_true (show((j2:Int)>=0) by omega),aD,ag hj2];rfl
 ·rcases he with⟨he,rfl⟩|⟨j2,hj2,rfl,he⟩
  ·rw[hl,he];rw[decide_eq_true (show((j:Int)>=0) by omega),aD,ag hj];rfl
  ·rw[hl,he];simp only[ZO,XJ,Bool.false_or,XM,XD];rw[decide_eq_true (show((j:Int)>=0) by omega),decide_eq_false (show¬((j2:Int)<0) by omega),decide_eq_true (show((j2:Int)>=0) by omega),aD,ag hj,aD,ag hj2];grind
def wK (s:ak) (run left turns:Int):ak× Int× Bool:=
  cond (decide (left-1>0)) (⟨s.now+1,s.ai,s.age,s.tasks,run,left-1,turns,s.next⟩,0,false)
    ((s.tasks.findIdx? λt=>t.id==run).elim (s,0,false) λi=>(s.tasks[i]?).elim (s,0,false) λt=>
      cond (decide (t.at_+1<t.av.length)) (⟨s.now+1,s.ai,s.age,s.tasks.set i ⟨t.id,t.av,t.at_+1,t.due,t.born⟩,0,left-1,turns,s.next⟩,run,false)
        (⟨s.now+1,s.ai,s.age,NR (s.tasks.set i ⟨t.id,t.av,t.at_+1,t.due,t.born⟩) run,0,left-1,turns,s.next⟩,run,true))
theorem Cv {k:Nat} {s:ak} {run left turns:Int} (hk:s.tot<k) (hN:s.tot<=aG) (h:bI s=true) (hl:1<=left/\left<=1000) {i:Nat} (hf:(s.tasks.findIdx? λt=>t.id==run)=some i):
  (cond (decide ((i64.wrap (left-(1:Int)))>(0:Int))) (some ((⟨(i64.wrap (s.now+(1:Int))),s.ai,s.age,s.tasks,run,(i64.wrap (left-(1:Int))),turns,s.next⟩:ak),(0:Int),false)) ((lL k (⟨(i64.wrap (s.now+(1:Int))),s.ai,s.age,s.tasks,run,(i64.wrap (left-(1:Int))),turns,s.next⟩:ak) run).bind λr23=>cond (decide (0<=r23/\r23<(s.tasks.length:Int))) ((s.tasks[r23.toNat]?).bind λe24=>cond (decide (0<=r23/\r23<(s.tasks.length:Int))) ((s.tasks[r23.toNat]?).bind λe25=>cond (decide (0<=r23/\r23<((s.tasks.set r23.toNat (⟨e25.id,e25.av,(i64.wrap (e24.at_+(1:Int))),e25.due,e25.born⟩:Task)).length:Int))) (((s.tasks.set r23.toNat (⟨e25.id,e25.av,(i64.wrap (e24.at_+(1:Int))),e25.due,e25.born⟩:Task))[r23.toNat]?).bind λe26=>cond (decide (0<=r23/\r23<((s.tasks.set r23.toNat (⟨e25.id,e25.av,(i64.wrap (e24.at_+(1:Int))),e25.due,e25.born⟩:Task)).length:Int))) (((s.tasks.set r23.toNat (⟨e25.id,e25.av,(i64.wrap (e24.at_+(1:Int))),e25.due,e25.born⟩:Task))[r23.toNat]?).bind λe27=>cond (decide (e26.at_<(e27.av.length:Int))) (some ((⟨(i64.wrap (s.now+(1:Int))),s.ai,s.age,(s.tasks.set r23.toNat (⟨e25.id,e25.av,(i64.wrap (e24.at_+(1:Int))),e25.due,e25.born⟩:Task)),(0:Int),(i64.wrap (left-(1:Int))),turns,s.next⟩:ak),run,false)) ((lJ (s.tasks.set r23.toNat (⟨e25.id,e25.av,(i64.wrap (e24.at_+(1:Int))),e25.due,e25.born⟩:Task))).bind λy28=>(gF k (i64.wrap (s.now+(1:Int))) s.ai s.age y28 (0:Int) (i64.wrap (left-(1:Int))) turns s.next run).bind λr29=>cond (j8 r29) ((qS (s.tasks.set r23.toNat (⟨e25.id,e25.av,(i64.wrap (e24.at_+(1:Int))),e25.due,e25.born⟩:Task)) r29).bind λz30=>some ((⟨(i64.wrap (s.now+(1:Int))),s.ai,s.age,z30,(0:Int),(i64.wrap (left-(1:Int))),turns,s.next⟩:ak),run,true)) none)) none) none) none) none))=some (wK s run left turns):=by
 have hM:=aj;have hs:=bM h;have hlen:=br Task.tot s.tasks;have hst:s.tot=fI Task.tot s.tasks+0:=rfl;obtain⟨hi,hid⟩:=sg hf;have ht:=ch (cn hs.2.2.2.2.2.2.1 hi).1;unfold wK;rw[aL (n:=left-1) (by omega) (by omega),aL (n:=s.now+1) (by omega) (by omega)];by_cases c:left-1>0
 ·grind
 rw[decide_eq_false c,cond_false,cond_false];rw[mC (by show s.tasks.length<k;omega) (by show s.tasks.length<=aG;omega),aa];show(λr23:Int=>_) (lx s.tasks run)=_;rw[jd hf];simp only[XE,YB];rw[ab,if_pos (by omega),ag hi,aa,ab,if_pos (by omega),aa,ab,if_pos (by omega),YR hi,aa,ab,if_pos (by omega),aa,hf,XD,ag hi,XD,aL (n:=s.tasks[i].at_+1) (by omega) (by omega)];simp only;by_cases c2:s.tasks[i].at_+1<(s.tasks[i].av.length:Int)
 ·grind
 rw[decide_eq_false c2,cond_false,cond_false,tw,aa,zo (by rw[eZ,YB];omega) (by rw[eZ,YB];omega),aa,oD,cond_true,qL _ (λt=>!(t.id==run)) (λz=>!(z.id==run)) (λn t=>rfl),aa];rfl
theorem Ip {k:Nat} {s:ak} {run left turns:Int} (hk:s.tot<k) (hN:s.tot<=aG) (h:bI s=true) (hl:1<=left/\left<=1000) {i:Nat} (hf:(s.tasks.findIdx? λt=>t.id==run)=some i):
  (cond (decide ((i64.wrap (left-(1:Int)))>(0:Int))) (cond (decide (s.ai=s.ai)) (cond (decide (s.age=s.age)) (cond (decide (s.next=s.next)) (some (((0:Int),false),i64.wrap (s.now+(1:Int)),s.tasks,run,i64.wrap (left-(1:Int)),turns)) none) none) none) ((dz k (⟨(i64.wrap (s.now+(1:Int))),s.ai,s.age,s.tasks,run,(i64.wrap (left-(1:Int))),turns,s.next⟩:ak) run).bind λr1=>cond (decide (0<=r1/\r1<(s.tasks.length:Int))) ((s.tasks[r1.toNat]?).bind λe2=>(s.tasks[r1.toNat]?).bind λe3=>((s.tasks.set r1.toNat (⟨e3.id,e3.av,(i64.wrap (e2.at_+(1:Int))),e3.due,e3.born⟩:Task))[r1.toNat]?).bind λe4=>((s.tasks.set r1.toNat (⟨e3.id,e3.av,(i64.wrap (e2.at_+(1:Int))),e3.due,e3.born⟩:Task))[r1.toNat]?).bind λe5=>cond (decide (e4.at_<(e5.av.length:Int))) (cond (decide (s.ai=s.ai)) (cond (decide (s.age=s.age)) (cond (decide (s.next=s.next)) (some ((run,false),i64.wrap (s.now+(1:Int)),s.tasks.set r1.toNat (⟨e3.id,e3.av,(i64.wrap (e2.at_+(1:Int))),e3.due,e3.born⟩:Task),(0:Int),i64.wrap (left-(1:Int)),turns)) none) none) none) ((lJ (s.tasks.set r1.toNat (⟨e3.id,e3.av,(i64.wrap (e2.at_+(1:Int))),e3.due,e3.born⟩:Task))).bind λy6=>(dN k (i64.wrap (s.now+(1:Int))) s.ai s.age y6 (0:Int) (i64.wrap (left-(1:Int))) turns s.next run).bind λr7=>cond (j8 r7.1) ((qS (s.tasks.set r1.toNat (⟨e3.id,e3.av,(i64.wrap (e2.at_+(1:Int))),e3.due,e3.born⟩:Task)) r7.1).bind λz8=>cond (decide (s.ai=s.ai)) (cond (decide (s.age=s.age)) (cond (decide (s.next=s.next)) (some ((run,true),i64.wrap (s.now+(1:Int)),z8,r7.2.1,r7.2.2,turns)) none) none) none) none)) none))=some (((wK s run left turns).2.1,(wK s run left turns).2.2),(wK s run left turns).1.now,(wK s run left turns).1.tasks,(wK s run left turns).1.run,(wK s run left turns).1.left,(wK s run left turns).1.turns):=by
 have hM:=aj;have hs:=bM h;have hlen:=br Task.tot s.tasks;have hst:s.tot=fI Task.tot s.tasks+0:=rfl;obtain⟨hi,hid⟩:=sg hf;have ht:=ch (cn hs.2.2.2.2.2.2.1 hi).1;unfold wK;simp only[decide_true,cond_true];rw[aL (n:=left-1) (by omega) (by omega),aL (n:=s.now+1) (by omega) (by omega)];by_cases c:left-1>0
 ·grind
 rw[decide_eq_false c,cond_false,cond_false];rw[wB (by show s.tasks.length<k;omega) (by show s.tasks.length<=aG;omega),aa];show(λr23:Int=>_) (lx s.tasks run)=_;rw[jd hf];simp only[XE,YB];rw[ab,if_pos (by omega),ag hi,aa,aa,YR hi,aa,aa,hf,XD,ag hi,XD,aL (n:=s.tasks[i].at_+1) (by omega) (by omega)];simp only;by_cases c2:s.tasks[i].at_+1<(s.tasks[i].av.length:Int)
 ·grind
 rw[decide_eq_false c2,cond_false,cond_false,tw,aa,Nr (by rw[eZ,YB];omega) (by rw[eZ,YB];omega),aa];simp only;rw[oD,cond_true,qL _ (λt=>!(t.id==run)) (λz=>!(z.id==run)) (λn t=>rfl),aa]
 have hne:((0:Int)==run)=false:=by simp;omega
 rw[hne];rfl
def fU (s:ak) (Kw:Bool):ak× Int× Bool:=
  cond (bI s&&!(s.now==1000000))
    (cond Kw (⟨s.now+1,s.ai,s.age,s.tasks,s.run,s.left,s.turns,s.next⟩,0,false)
      (cond (s.run==0)
        (cond (lz s==0) (⟨s.now+1,s.ai,s.age,s.tasks,s.run,s.left,s.turns,s.next⟩,0,false)
          ((s.tasks.findIdx? λt=>t.id==lz s).elim (s,0,false) λi=>(s.tasks[i]?).elim (s,0,false) λt=>wK s (lz s) (fE t) (cond (decide (s.turns+1>1000000)) 0 (s.turns+1))))
        (wK s s.run s.left s.turns))) (s,0,false)
theorem Cw {s:ak} (h:bI s=true) (hp:lz s≠0):∃(i:Nat) (hi:i<s.tasks.length),(s.tasks.findIdx? λt=>t.id==lz s)=some i/\s.tasks[i].id=lz s:=by
 have hs:=bM h
 have:∃t∈s.tasks,lz s=t.id:=by
  unfold lz at hp⊢
  cases hl:Dg s with
  |none=>
   cases he:qV s with
   |none=>grind
   |some e=>exact⟨e,(Yv.1 (pI he)).1,rfl⟩
  |some l=>
   cases he:qV s with
   |none=>exact⟨l,(Yv.1 (pI hl)).1,rfl⟩
   |some e=>
    simp only[ZO,XJ,Bool.false_or,XM,XD];cases(decide (s.age>0)&&(s.turns.tmod s.age==0))
    ·exact⟨e,(Yv.1 (pI he)).1,rfl⟩
    ·exact⟨l,(Yv.1 (pI hl)).1,rfl⟩
 obtain⟨t,ht,e⟩:=this;obtain⟨i,hi,rfl⟩:=Yf.1 ht;exact⟨i,hi,by rw[e];exact F2 hs.2.2.2.2.2.2.1 hi,e.symm⟩
theorem Gb {s:ak} (h:bI s=true) (hr:(s.run==0)=false):(1<=s.left/\s.left<=1000)/\∃i,(s.tasks.findIdx? λt=>t.id==s.run)=some i:=by
 have hs:=bM h;have lG:=hs.2.2.2.2.2.2.2;unfold NQ at lG;rw[hr,cond_false]at lG
 cases hf:s.tasks.findIdx? λt=>t.id==s.run with
 |none=>grind
 |some i=>
  obtain⟨hi,hid⟩:=sg hf;have h1:=tv h (XH hi) hid.symm;have h2:=fF (cn hs.2.2.2.2.2.2.1 hi).1;grind
theorem Dh {k:Nat} {s:ak} {st:Bool} (hk:s.tot<k) (hN:s.tot<=aG):qy k s st=some (fU s st):=by
 have hM:=aj;have hlen:=br Task.tot s.tasks;have hst:s.tot=fI Task.tot s.tasks+0:=rfl;unfold qy fU;rw[si hk hN,aa,ep hk hN,aa];cases h:bI s
 ·rfl
 have hs:=bM h;simp only[XJ,cond_false,XM];cases(s.now==(1000000:Int))
 case true=>rfl
 simp only[cond_false,X8,cond_true];cases st
 case true=>rw[aL (n:=s.now+1) (by omega) (by omega)];rfl
 simp only[cond_false];cases hr:s.run==0
 ·simp only[cond_false];obtain⟨hl,i,hf⟩:=Gb h hr;exact Cv hk hN h hl hf
 simp only[cond_true];rw[Ga hk hN h,aa];by_cases hp:lz s=0
 ·rw[hp,aL (n:=s.now+1) (by omega) (by omega)];rfl
 rw[cO,if_neg hp,cO,if_neg hp];obtain⟨i,hi,hf,hid⟩:=Cw h hp;have hc:=fF (cn hs.2.2.2.2.2.2.1 hi).1;rw[mC (by show s.tasks.length<k;omega) (by show s.tasks.length<=aG;omega),aa];show(λr4:Int=>_) (lx s.tasks (lz s))=_;rw[jd hf];simp only[XE];rw[ab,if_pos (by omega),ag hi,aa,hc.1,aa,hf,XD,ag hi,XD,aL (n:=s.turns+1) (by omega) (by omega)];by_cases ct:s.turns+1>1000000
 ·rw[decide_eq_true ct,cond_true,cond_true];exact Cv hk hN h ⟨hc.2.1,hc.2.2⟩ hf
 ·rw[decide_eq_false ct,cond_false,cond_false];exact Cv hk hN h ⟨hc.2.1,hc.2.2⟩ hf
theorem Nu {k:Nat} {s:ak} (hk:s.tot+2<k) (hN:s.tot<aG) (h:bI s=true):
  (lz s=0/\eO k s=some (false,s.run,s.left,s.turns))\/
  ∃(i:Nat) (hi:i<s.tasks.length),lz s≠0/\(s.tasks.findIdx? λt=>t.id==lz s)=some i/\eO k s=some (true,lz s,fE s.tasks[i],cond (decide (s.turns+1>1000000)) 0 (s.turns+1)):=by
 have hM:=aj;have hs:=bM h;have hlen:=br Task.tot s.tasks;have hst:s.tot=fI Task.tot s.tasks+0:=rfl;unfold eO;rw[Qb hk hN hs.2.2.2.2.2.2.1,aa];simp only[decide_true,cond_true];by_cases hp:lz s=0
 ·grind
 ·obtain⟨i,hi,hf,hid⟩:=Cw h hp;have hc:=fF (cn hs.2.2.2.2.2.2.1 hi).1;refine .inr ⟨i,hi,hp,hf,?_⟩;rw[cO,if_neg hp,wB (by omega) (by omega),aa,jd hf,XE,ab,if_pos (by omega),ag hi,aa,hc.1,aa,aL (n:=s.turns+1) (by omega) (by omega)];grind
theorem RW (s:ak) (run left turns:Int) {i:Nat} (hf:(s.tasks.findIdx? λt=>t.id==run)=some i):(wK s run left turns).1.ai=s.ai/\(wK s run left turns).1.age=s.age/\(wK s run left turns).1.next=s.next:=by
 obtain⟨hi,_⟩:=sg hf;unfold wK;grind
theorem Di {k:Nat} {s:ak} {st:Bool} (hk:s.tot+2<k) (hN:s.tot<aG):uz k s st=some (fU s st):=by
 have hM:=aj;have hlen:=br Task.tot s.tasks;have hst:s.tot=fI Task.tot s.tasks+0:=rfl;unfold uz fU;rw[kj (by omega) (by omega),aa,ly (by omega) (by omega),aa];cases h:bI s
 ·rfl
 have hs:=bM h;simp only[XJ,cond_false,XM];cases(s.now==(1000000:Int))
 case true=>rfl
 simp only[cond_false,X8,cond_true]
 have fin:∀(run left turns:Int) {i:Nat},(s.tasks.findIdx? λt=>t.id==run)=some i->(some (((wK s run left turns).2.1,(wK s run left turns).2.2),(wK s run left turns).1.now,(wK s run left turns).1.tasks,(wK s run left turns).1.run,(wK s run left turns).1.left,(wK s run left turns).1.turns)).bind (λr3:((Int× Bool)× Int× List Task× Int× Int× Int)=>some ((⟨r3.2.1,s.ai,s.age,r3.2.2.1,r3.2.2.2.1,r3.2.2.2.2.1,r3.2.2.2.2.2,s.next⟩:ak),r3.1.1,r3.1.2))=some (wK s run left turns):=λrun left turns i hf=>by
  obtain⟨g1,g2,g3⟩:=RW s run left turns hf;generalize wK s run left turns=q at g1 g2 g3⊢;obtain⟨⟨a1,a2,a3,a4,a5,a6,a7,a8⟩,b,c⟩:=q;grind
 unfold gG;cases st
 case true=>rw[aL (n:=s.now+1) (by omega) (by omega)];simp only[decide_true,cond_true,XJ,cond_false,aa]
 simp only[X8,cond_true,cond_false];cases hr:s.run==0
 ·rw[show(s.run !=0)=true by rw[bne,hr];rfl];simp only[cond_true,cond_false];obtain⟨hl,i,hf⟩:=Gb h hr;have e:=Ip (k:=k) (turns:=s.turns) (by omega) (by omega) h hl hf;grind
 rw[show(s.run !=0)=false by rw[bne,hr];rfl];simp only[cond_true,cond_false]
 rcases Nu hk hN h with⟨hp,e⟩|⟨i,hi,hp,hf,e⟩
 ·rw[e,hp,aa,aL (n:=s.now+1) (by omega) (by omega)];grind
 ·have hc:=fF (cn hs.2.2.2.2.2.2.1 hi).1;rw[e,aa,cO,if_neg hp];have e:=Ip (k:=k) (turns:=cond (decide (s.turns+1>1000000)) 0 (s.turns+1)) (by omega) (by omega) h ⟨hc.2.1,hc.2.2⟩ hf;grind
end
section
def Vr:ak:=⟨0,0,0,[],0,0,0,0⟩
def Gc (ai age:Int):ak:=⟨0,ai,age,[],0,0,0,1⟩
theorem RX {k:Nat} {a b:Int} (hk:0<k):s8 k a b=some (cond (bI (Gc a b)) (Gc a b,true) (Vr,false)):=by
 unfold s8;rw[ep (by exact hk) (by exact Ya _),aa];show cond (!(bI (Gc a b))) _ _=_;cases bI (Gc a b)<;>rfl
theorem RY {k:Nat} {a b:Int} (hk:0<k):s9 k a b=some (cond (bI (Gc a b)) (Gc a b,true) (Vr,false)):=by
 unfold s9;rw[ly (by exact hk) (by exact Ya _),aa];show cond (!(bI (Gc a b))) _ _=_;cases bI (Gc a b)<;>rfl
end
section
def mm {α:Type} (o:Option α) (Q:α->Prop):Prop:=∃r,o=some r/\Q r
theorem mm.bind {α β:Type} {o:Option α} {P:α->Prop} {f:α->Option β} {Q:β->Prop} (h:mm o P) (hf:∀a,P a->mm (f a) Q):mm (o.bind f) Q:=by
 obtain⟨r,e,hp⟩:=h;rw[e];exact hf r hp
theorem mm.some {α:Type} {a:α} {Q:α->Prop} (h:Q a):mm (some a) Q:=⟨a,rfl,h⟩
theorem mm.cond {α:Type} {b:Bool} {x y:Option α} {Q:α->Prop} (h1:b=true->mm x Q) (h2:b=false->mm y Q):mm (cond b x y) Q:=by
 cases b
 ·exact h2 rfl
 ·exact h1 rfl
theorem mm.mono {α:Type} {o:Option α} {P Q:α->Prop} (h:mm o P) (hq:∀a,P a->Q a):mm o Q:=by
 obtain⟨r,e,hp⟩:=h;exact⟨r,e,hq r hp⟩
theorem mm.iter {V R:Type} {g:V->(V->Option R)->Option R} {Inv:V->Prop} {m:V->Nat} {Q:R->Prop}
  (h:∀(v:V) (next:V->Option R),Inv v->(∀u,Inv u->m u<m v->mm (next u) Q)->mm (g v next) Q):∀(k:Nat) (v:V),Inv v->m v<k->mm (iter g k v) Q
 |0,v,_,hk=>by omega
 |k+1,v,hv,hk=>by
  rw[aI];exact h v _ hv λu hu hm=>mm.iter h k u hu (by omega)
end
section
theorem mm.ble {α:Type} {a b:Nat} {x y:Option α} {Q:α->Prop} (h:a<=b) (hx:mm x Q):mm (bif (Nat.ble a b)then x else y) Q:=by
 rw[YV h];exact hx
end
set_option maxRecDepth 100000
section
end
set_option maxRecDepth 100000
section
theorem Cx (s:ak) (av:List Int) (due:Int):
  ((eY s av due).2.2=0/\0<(eY s av due).2.1/\bI s=true/\Cp (eY s av due).1=true/\(eY s av due).1=⟨s.now,s.ai,s.age,s.tasks++[⟨s.next,av,0,due,s.now⟩],s.run,s.left,s.turns,s.next+1⟩)\/
  ((eY s av due).2.2≠0/\(eY s av due).2.1=0/\(eY s av due).1=s):=by
 unfold eY;cases h:bI s&&je ⟨s.next,av,0,due,s.now⟩
 ·right;simp
 have hb:=(Yn.1 h).1;have hs:=bM hb;cases((s.tasks.length:Int)==12||s.next==1000000)
 ·cases hf:Cp ⟨s.now,s.ai,s.age,s.tasks++[⟨s.next,av,0,due,s.now⟩],s.run,s.left,s.turns,s.next+1⟩
  ·right;simp
  ·left;simp only[cond_true,cond_false];exact⟨trivial,by omega,hb,hf,trivial⟩
 ·right;simp
end
section
structure SOk (s:ak):Prop where
 now:0<=s.now/\s.now<=1000000
 ai:0<=s.ai/\s.ai<=1000
 age:0<=s.age/\s.age<=20
 len:s.tasks.length<=12
 turns:0<=s.turns/\s.turns<=1000000
 next:1<=s.next/\s.next<=1000000
 task:∀t∈s.tasks,je t=true/\t.id<s.next/\t.born<=s.now
 ids:s.tasks.Pairwise λa b=>a.id<b.id
 run:(s.run=0/\s.left=0)\/∃t∈s.tasks,t.id=s.run/\1<=s.left/\s.left<=fE t
theorem SQ {s:ak} (h:bI s=true):SOk s:=by
 have hs:=bM h;have hT:=hs.2.2.2.2.2.2.1;refine⟨hs.1,hs.2.1,hs.2.2.1,hs.2.2.2.1,hs.2.2.2.2.1,hs.2.2.2.2.2.1,λt ht=>?_,F8 hT,?_⟩
 ·obtain⟨i,hi,rfl⟩:=Yf.1 ht;have:=cn hT hi;exact⟨this.1,this.2.1,this.2.2.1⟩
 ·cases hr:s.run==0
  ·obtain⟨_,i,hf⟩:=Gb h hr;obtain⟨hi,hid⟩:=sg hf;exact .inr ⟨s.tasks[i],XH hi,hid,tv h (XH hi) hid.symm⟩
  ·have lG:=hs.2.2.2.2.2.2.2;unfold NQ at lG;rw[hr,cond_true]at lG;exact .inl ⟨by simpa using hr,by simpa using lG⟩
theorem Cy {s:ak} (h:SOk s):ig s=true:=by
 unfold ig;rw[X6];intro i hi;rw[List.mem_range]at hi;obtain⟨h1,h2,h3⟩:=h.task _ (XH hi);rw[ag hi,XD];simp only[XB,decide_eq_true_eq];refine⟨h1,h2,h3,?_⟩;by_cases c:0<i
 ·rw[decide_eq_true c,cond_true,ag (show i-1<s.tasks.length by omega),XD];exact decide_eq_true (List.pairwise_iff_getElem.1 h.ids (i-1) i (by omega) hi (by omega))
 ·rw[decide_eq_false c];rfl
theorem Ag {s:ak} (h:SOk s):bI s=true:=by
 have hT:=Cy h;unfold bI inB;simp only[XB,decide_eq_true_eq];refine⟨h.now,h.ai,h.age,by have:=h.len;omega,h.turns,h.next,hT,?_⟩
 rcases h.run with⟨h1,h2⟩|⟨t,ht,e,l1,l2⟩
 ·unfold NQ;rw[h1,h2];rfl
 ·have hb:=(h.task t ht).1;have hid:=(ch hb).1;obtain⟨i,hi,rfl⟩:=Yf.1 ht
  have h0:(s.run==0)=false:=by rw[<-e];simp;omega
  unfold NQ;rw[h0,cond_false,<-e,F2 hT hi,XD,ag hi,XD,(fF hb).1,XD];exact bd.2 ⟨l1,l2⟩
theorem LR {ts:List Task} (hp:ts.Pairwise λa b=>a.id<b.id) {t:Task} (ht:t∈ts):∃pre post,ts=pre++t::post/\(∀u∈pre,u.id<t.id)/\(∀u∈post,t.id<u.id)/\(∀u∈pre,∀v∈post,u.id<v.id)/\(pre.Pairwise λa b=>a.id<b.id)/\post.Pairwise λa b=>a.id<b.id:=by
 obtain⟨pre,post,rfl⟩:=List.append_of_mem ht;rw[Zd,ZN]at hp;obtain⟨h1,⟨h2,h3⟩,h4⟩:=hp;exact⟨pre,post,rfl,λu hu=>h4 u hu t (by simp),h2,λu hu v hv=>h4 u hu v (by simp[hv]),h1,h3⟩
theorem Nv {pre post:List Task} {t:Task} (h:∀u∈pre,u.id≠t.id):((pre++t::post).findIdx? λu=>u.id==t.id)=some pre.length:=by
 rw[List.findIdx?_append]
 have h1:(pre.findIdx? λu=>u.id==t.id)=none:=by
  rw[YS];intro u hu;simpa using h u hu
 rw[h1,ZL];simp
theorem Qc {pre post:List Task} {t:Task} {id:Int} (h1:∀u∈pre,u.id≠id) (h2:∀u∈post,u.id≠id) (ht:t.id=id):NR (pre++t::post) id=pre++post:=by
 unfold NR;rw[Zl,Y6]
 have e1:pre.filter (λu=>!(u.id==id))=pre:=YT.2 λu hu=>by simpa using h1 u hu
 have e2:post.filter (λu=>!(u.id==id))=post:=YT.2 λu hu=>by simpa using h2 u hu
 rw[e1,e2,ht];simp
def sq (t:Task):Task:=⟨t.id,t.av,t.at_+1,t.due,t.born⟩
theorem Er {s:ak} {pre post:List Task} {t:Task} {L tr:Int} (e:s.tasks=pre++t::post) (h1:∀u∈pre,u.id≠t.id) (h2:∀u∈post,u.id≠t.id):
  wK s t.id L tr=if L-1>0 then(⟨s.now+1,s.ai,s.age,s.tasks,t.id,L-1,tr,s.next⟩,0,false)else
   if t.at_+1<t.av.length then(⟨s.now+1,s.ai,s.age,pre++sq t::post,0,L-1,tr,s.next⟩,t.id,false)
   else(⟨s.now+1,s.ai,s.age,pre++post,0,L-1,tr,s.next⟩,t.id,true):=by
 unfold wK
 have hf:(s.tasks.findIdx? λu=>u.id==t.id)=some pre.length:=by rw[e];exact Nv h1
 have hg:s.tasks[pre.length]? =some t:=by rw[e];simp
 have Xz:s.tasks.set pre.length (sq t)=pre++sq t::post:=by rw[e];simp
 rw[ab,hf,XD,hg,XD,ab];show(if L-1>0 then _ else if t.at_+1<(t.av.length:Int)then(⟨s.now+1,s.ai,s.age,s.tasks.set pre.length (sq t),0,L-1,tr,s.next⟩,t.id,false)else(⟨s.now+1,s.ai,s.age,NR (s.tasks.set pre.length (sq t)) t.id,0,L-1,tr,s.next⟩,t.id,true):ak× Int× Bool)=_;rw[Xz,Qc (t:=sq t) h1 h2 rfl]
structure W0 (s:ak) (t:Task) (L tr:Int):Prop where
 mem:t∈s.tasks
 lo:1<=L
 hi:L<=fE t
 rem:∀u∈s.tasks,eF s u=cond (t.id==u.id) (ij u-fE u+L) (ij u)
 trn:0<=tr/\tr<=1000000
 eq:fU s false=wK s t.id L tr
theorem Vs {s:ak} (h:SOk s) {t u:Task} (ht:t∈s.tasks) (hu:u∈s.tasks) (e:t.id=u.id):t=u:=by
 obtain⟨i,hi,rfl⟩:=Yf.1 ht;obtain⟨j,hj,rfl⟩:=Yf.1 hu;have:=P5 (Cy h) hi hj e;subst this;rfl
theorem Es {key:Task->Int} {xs:List Task} (h:Ik key xs=none):xs=[]:=by
 cases xs with
 |nil=>rfl
 |cons x l=>exact nomatch h
theorem Qd {s:ak} (h:SOk s) (hp:lz s=0):s.tasks=[]:=by
 have hT:=Cy h
 have hl:Dg s=none:=by
  cases hl:Dg s with
  |none=>rfl
  |some t=>
   have h1:=Qa hT hl
   cases he:qV s with
   |none=>
    unfold lz at hp;rw[hl,he]at hp;simp only[ZO,Y5,X8,Bool.true_or,XM,cond_true,XD]at hp
    omega
   |some e=>
    have h2:=F9 hT he;unfold lz at hp;rw[hl,he]at hp;simp only[ZO,XJ,Bool.false_or,XM,XD]at hp;cases hc:(decide (s.age>0)&&(s.turns.tmod s.age==0))<;>rw[hc]at hp
    ·simp only[cond_false]at hp;omega
    ·simp only[cond_true]at hp;omega
 have he:qV s=none:=by
  cases he:qV s with
  |none=>rfl
  |some e=>
   have h2:=F9 hT he;unfold lz at hp;rw[hl,he]at hp;simp only[Y5,Yy,cond_false,XD]at hp;omega
 have f1:=Es hl;have f2:=Es he
 cases ht:s.tasks with
 |nil=>rfl
 |cons x l=>
  have hx:x∈s.tasks:=by rw[ht];simp
  cases hq:fh s x
  ·have:x∈s.tasks.filter λt=>!fh s t:=Yv.2 ⟨hx,by rw[hq];rfl⟩;rw[f2]at this;exact nomatch this
  ·have:x∈s.tasks.filter (fh s):=Yv.2 ⟨hx,hq⟩;rw[f1]at this;exact nomatch this
theorem Iq {s:ak} (h:SOk s) (hn:s.now≠1000000):
  (s.tasks=[]/\s.run=0/\s.left=0/\fU s false=(⟨s.now+1,s.ai,s.age,s.tasks,s.run,s.left,s.turns,s.next⟩,0,false))\/∃t L tr,W0 s t L tr/\(s.run=t.id\/(s.run=0/\lz s=t.id)):=by
 have hb:=Ag h
 have SR:(bI s&&!(s.now==1000000))=true:=by rw[hb];simpa using hn
 rcases h.run with⟨h1,h2⟩|⟨t,ht,e,l1,l2⟩
 ·by_cases hp:lz s=0
  ·left;refine⟨Qd h hp,h1,h2,?_⟩;unfold fU;rw[SR,h1,hp];rfl
  ·right;obtain⟨i,hi,hf,hid⟩:=Cw hb hp;have ht:=XH hi;have hc:=fF (h.task _ ht).1;refine⟨s.tasks[i],fE s.tasks[i],cond (decide (s.turns+1>1000000)) 0 (s.turns+1),⟨ht,hc.2.1,Int.le_refl _,λu hu=>?_,?_,?_⟩,.inr ⟨h1,hid.symm⟩⟩
   ·have hu0:=(ch (h.task u hu).1).1
    have:(s.run==u.id)=false:=by rw[h1];simp;omega
    unfold eF;rw[this,cond_false];cases hq:s.tasks[i].id==u.id
    ·rfl
    ·have:=Vs h ht hu (by simpa using hq);rw[cond_true,this];omega
   ·have:=h.turns;rw[ab];split<;>omega
   ·have hp':(lz s==0)=false:=by simpa using hp
    unfold fU;rw[SR,h1,hp',hf];simp only[cond_true,cond_false,XD];rw[ag hi,XD,hid];rfl
 ·right;have ht0:=(ch (h.task t ht).1).1;refine⟨t,s.left,s.turns,⟨ht,l1,l2,λu hu=>?_,h.turns,?_⟩,.inl e.symm⟩
  ·unfold eF;rw[e]
  ·have:(s.run==0)=false:=by rw[<-e];simp;omega
   unfold fU;rw[SR,this,e];rfl
def Uh (p:Int->Bool) (s:ak):Int:=(s.tasks.map λt=>cond (p t.due) (eF s t) 0).sum
theorem Ir {t:Task} (h:je t=true):ij (sq t)=ij t-fE t:=by
 have ht:=ch h
 have hlt:t.at_.toNat<t.av.length:=by omega
 have e:idx t.av t.at_=some t.av[t.at_.toNat]:=by rw[uu _ ht.2.2.1.1];exact ag hlt
 have hc:fE t=t.av[t.at_.toNat]:=by unfold fE;rw[e];rfl
 unfold ij sq
 have e2:(t.at_+1).toNat=t.at_.toNat+1:=by omega
 simp only;rw[e2,iu hlt,Y9,hc];omega
theorem Qe {t:Task} (h:je t=true) (hl:¬t.at_+1<t.av.length):ij t-fE t=0:=by
 rw[<-Ir h];unfold ij sq;simp only;rw[List.drop_eq_nil_of_le (by omega)];rfl
structure Vt (s:ak) (t:Task) (r:ak× Int× Bool):Prop where
 ok:SOk r.1
 now:r.1.now=s.now+1
 ai:r.1.ai=s.ai
 age:r.1.age=s.age
 next:r.1.next=s.next
 sum:∀p:Int->Bool,Uh p r.1=Uh p s-cond (p t.due) 1 0
 from_:∀u∈r.1.tasks,∃v∈s.tasks,v.id=u.id/\v.due=u.due
 told:(r.2.1=0/\r.2.2=false/\r.1.run=t.id/\r.1.tasks=s.tasks)\/(r.2.1=t.id/\r.1.run=0/\r.1.left=0)
 goes:r.2.2=true->r.2.1=t.id/\∀u∈r.1.tasks,u.id≠t.id
theorem worked {s:ak} {t:Task} {L tr:Int} (h:SOk s) (hn:s.now≠1000000) (T:W0 s t L tr):Vt s t (fU s false):=by
  obtain⟨pre,post,e,h1,h2,h3,h4,h5⟩:=LR h.ids T.mem;have hb:=(h.task t T.mem).1;have htb:=ch hb
  have n1:∀u∈pre,u.id≠t.id:=λu hu=>by have:=h1 u hu;omega
  have n2:∀u∈post,u.id≠t.id:=λu hu=>by have:=h2 u hu;omega
  have m1:∀u∈pre,u∈s.tasks:=λu hu=>by rw[e];simp[hu]
  have m2:∀u∈post,u∈s.tasks:=λu hu=>by rw[e];simp[hu]
  have hlen:=h.len;rw[e,XG,XI]at hlen;have SR:=h.now
  have part:∀(p:Int->Bool) (s':ak) (l:List Task),(∀u∈l,u∈s.tasks/\u.id≠t.id)->(∀u∈l,s'.run≠u.id)->(l.map λu=>cond (p u.due) (eF s' u) 0)=l.map λu=>cond (p u.due) (eF s u) 0:=λp s' l hl hr=>List.map_congr_left λu hu=>by
    have r1:eF s' u=ij u:=by unfold eF;rw[show(s'.run==u.id)=false by simpa using hr u hu];rfl
    have r2:eF s u=ij u:=by rw[T.rem u (hl u hu).1,show(t.id==u.id)=false by simpa usingλq=>(hl u hu).2 q.symm];rfl
    rw[r1,r2]
  have q1:∀u∈pre,u∈s.tasks/\u.id≠t.id:=λu hu=>⟨m1 u hu,n1 u hu⟩;have q2:∀u∈post,u∈s.tasks/\u.id≠t.id:=λu hu=>⟨m2 u hu,n2 u hu⟩
  have z1:∀u∈s.tasks,(0:Int)≠u.id:=λu hu=>by have:=(ch (h.task u hu).1).1;omega
  have rt:eF s t=ij t-fE t+L:=by rw[T.rem t T.mem];simp
  have old:∀p:Int->Bool,Uh p s=(pre.map λu=>cond (p u.due) (eF s u) 0).sum+(cond (p t.due) (ij t-fE t+L) 0+(post.map λu=>cond (p u.due) (eF s u) 0).sum):=λp=>by
    unfold Uh;rw[<-rt];conv=>lhs;rw[e,YJ,Zr,Yp,Y9]
  rw[T.eq,Er e n1 n2];have hlo:=T.lo;by_cases c1:L-1>0
  · rw[if_pos c1];refine⟨⟨by simp only;omega,h.ai,h.age,h.len,T.trn,h.next,λu hu=>?_,h.ids,.inr ⟨t,T.mem,rfl,?_⟩⟩,rfl,rfl,rfl,rfl,λp=>?_,λu hu=>⟨u,hu,rfl,rfl⟩,.inl ⟨rfl,rfl,rfl,rfl⟩,λhg=>nomatch hg⟩
    · have:=h.task u hu;exact⟨this.1,this.2.1,by simp only;omega⟩
    · have:=T.hi;simp only;omega
    · rw[old p];unfold Uh;simp only
      conv=>lhs;rw[show List.map (λu:Task=>cond (p u.due) (eF ⟨s.now+1,s.ai,s.age,s.tasks,t.id,L-1,tr,s.next⟩ u) 0) s.tasks=List.map (λu:Task=>cond (p u.due) (eF ⟨s.now+1,s.ai,s.age,s.tasks,t.id,L-1,tr,s.next⟩ u) 0) (pre++t::post)from by rw[<-e],YJ,Zr,Yp,Y9]
      rw[part p _ pre q1 (λu hu=>(n1 u hu).symm),part p _ post q2 (λu hu=>(n2 u hu).symm)]
      have:eF ⟨s.now+1,s.ai,s.age,s.tasks,t.id,L-1,tr,s.next⟩ t=ij t-fE t+(L-1):=by unfold eF;simp
      rw[this];cases p t.due<;>simp only[cond_true,cond_false]<;>omega
  · have hL:L=1:=by omega
    subst hL;rw[if_neg c1];by_cases c2:t.at_+1<t.av.length
    · rw [if_pos c2]
      have hnb:je (sq t)=true:=by
        unfold je inB sq;unfold je inB at hb;simp only[XB,decide_eq_true_eq]at hb⊢;exact⟨hb.1,hb.2.1,⟨by omega,by omega⟩,hb.2.2.2.1,hb.2.2.2.2.1,hb.2.2.2.2.2⟩
      refine⟨⟨by simp only;omega,h.ai,h.age,by simp only[XG,XI];omega,T.trn,h.next,λu hu=>?_,?_,.inl ⟨rfl,rfl⟩⟩,rfl,rfl,rfl,rfl,λp=>?_,λu hu=>?_,.inr ⟨rfl,rfl,rfl⟩,λhg=>nomatch hg⟩
      · simp only at hu⊢
        rcases Yr.1 hu with hu|hu
        · have:=h.task u (m1 u hu);exact⟨this.1,this.2.1,by omega⟩
        · rcases X3.1 hu with rfl|hu
          · have:=h.task t T.mem;exact⟨hnb,this.2.1,by show t.born<=_;omega⟩
          · have:=h.task u (m2 u hu);exact⟨this.1,this.2.1,by omega⟩
      · simp only;rw[Zd,ZN];refine⟨h4,⟨h2,h5⟩,λu hu v hv=>?_⟩
        rcases X3.1 hv with rfl|hv
        · exact h1 u hu
        · exact h3 u hu v hv
      · rw[old p];unfold Uh;simp only;rw[YJ,Zr,Yp,Y9];rw[part p _ pre q1 (λu hu=>z1 u (m1 u hu)),part p _ post q2 (λu hu=>z1 u (m2 u hu))];have hd:(sq t).due=t.due:=rfl
        have:eF ⟨s.now+1,s.ai,s.age,pre++sq t::post,0,1-1,tr,s.next⟩ (sq t)=ij t-fE t:=by
          unfold eF;rw[show((0:Int)==(sq t).id)=false by show((0:Int)==t.id)=false;simp;omega,cond_false,Ir hb]
        rw[this,hd];cases p t.due<;>simp only[cond_true,cond_false]<;>omega
      · simp only at hu
        rcases Yr.1 hu with hu|hu
        · exact⟨u,m1 u hu,rfl,rfl⟩
        · rcases X3.1 hu with rfl|hu
          · exact⟨t,T.mem,rfl,rfl⟩
          · exact⟨u,m2 u hu,rfl,rfl⟩
    · rw[if_neg c2];have hr:=Qe hb c2;refine⟨⟨by simp only;omega,h.ai,h.age,by simp only[XG];omega,T.trn,h.next,λu hu=>?_,?_,.inl ⟨rfl,rfl⟩⟩,rfl,rfl,rfl,rfl,λp=>?_,λu hu=>?_,.inr ⟨rfl,rfl,rfl⟩,λ_=>⟨rfl,λu hu=>?_⟩⟩
      · simp only at hu⊢
        rcases Yr.1 hu with hu|hu
        · have:=h.task u (m1 u hu);exact⟨this.1,this.2.1,by omega⟩
        · have:=h.task u (m2 u hu);exact⟨this.1,this.2.1,by omega⟩
      · simp only;rw[Zd];exact⟨h4,h5,h3⟩
      · rw[old p];unfold Uh;simp only;rw[YJ,Zr];rw[part p _ pre q1 (λu hu=>z1 u (m1 u hu)),part p _ post q2 (λu hu=>z1 u (m2 u hu)),hr];cases p t.due<;>simp only[cond_true,cond_false]<;>omega
      · simp only at hu
        rcases Yr.1 hu with hu|hu
        · exact⟨u,m1 u hu,rfl,rfl⟩
        · exact⟨u,m2 u hu,rfl,rfl⟩
      · simp only at hu
        rcases Yr.1 hu with hu|hu
        · exact n1 u hu
        · exact n2 u hu
theorem zp {s:ak} (h:SOk s) (hn:s.now≠1000000):fU s true=(⟨s.now+1,s.ai,s.age,s.tasks,s.run,s.left,s.turns,s.next⟩,0,false):=by
 have SR:(bI s&&!(s.now==1000000))=true:=by rw[Ag h];simpa using hn
 unfold fU;rw[SR];rfl
theorem Ah {s:ak} (hn:s.now=1000000) (st:Bool):fU s st=(s,0,false):=by
 unfold fU;rw[hn];simp
theorem LS {s:ak} (h:SOk s) (hn:s.now≠1000000):SOk ⟨s.now+1,s.ai,s.age,s.tasks,s.run,s.left,s.turns,s.next⟩:=by
 have:=h.now;exact⟨by simp only;omega,h.ai,h.age,h.len,h.turns,h.next,λu hu=>by have:=h.task u hu;exact⟨this.1,this.2.1,by simp only;omega⟩,h.ids,h.run⟩
theorem Qf {s:ak} (h:SOk s) (st:Bool):SOk (fU s st).1:=by
 by_cases hn:s.now=1000000
 ·rw[Ah hn];exact h
 cases st
 ·rcases Iq h hn with⟨_,_,_,e⟩|⟨t,L,tr,T,_⟩
  ·rw[e];exact LS h hn
  ·exact(worked h hn T).ok
 ·rw[zp h hn];exact LS h hn
theorem Qg {s:ak} (h:SOk s) (id:Int):SOk (sk s id).1:=by
 unfold sk;cases hc:(bI s&&decide (0<=lx s.tasks id))
 ·exact h
 rw[cond_true]
 have hm:∀u∈NR s.tasks id,u∈s.tasks/\u.id≠id:=λu hu=>by
  have:=Yv.1 hu;exact⟨this.1,by simpa using this.2⟩
 refine⟨h.now,h.ai,h.age,YW (Zn _ _) h.len,h.turns,h.next,λu hu=>h.task u (hm u hu).1,h.ids.filter _,?_⟩;cases hr:s.run==id
 ·simp only[cond_false]
  rcases h.run with h1|⟨t,ht,e,l⟩
  ·exact .inl h1
  ·refine .inr ⟨t,Yv.2 ⟨ht,?_⟩,e,l⟩;rw[e,hr];rfl
 ·exact .inl ⟨rfl,rfl⟩
theorem RZ {s:ak} (h:SOk s) (av:List Int) (due:Int):SOk (eY s av due).1:=by
 rcases Cx s av due with⟨_,_,_,g,_⟩|⟨_,_,g⟩
 ·unfold Cp at g;exact SQ (Yn.1 g).1
 ·rw[g];exact h
end
set_option maxRecDepth 100000
section
end
set_option maxRecDepth 100000
set_option maxHeartbeats 4000000
section
theorem Nw {b:List Int} (h:(dR b).2=0):fi (dR b).1=true:=by
  unfold dR at h⊢;by_cases c:(b.length:Int)>6000
  · rw[decide_eq_true c]at h;exact absurd (show(5:Int)=0 from h) (by decide)
  rw[decide_eq_false c]at h⊢;simp only[cond_false]at h⊢;cases c1:decide (b.take 3=[80,77,49])
  · rw[c1]at h;exact absurd (show(1:Int)=0 from h) (by decide)
  rw[c1]at h;simp only[XJ,cond_false]at h⊢;generalize aR b 3 false=r2 at h⊢;generalize aR b r2.2.1 r2.2.2=r3 at h⊢;generalize aR b r3.2.1 r3.2.2=r4 at h⊢;generalize aY b r4.2.1 r4.2.2 2000=r5 at h⊢;generalize sb b r5.1.toNat r5.2.1 r5.2.2 []=y at h⊢;generalize aR b y.1 y.2.1=r6 at h⊢;cases c2:r6.2.2
  · rw [c2] at h;simp only[cond_false]at h⊢;cases c3:(r6.1 !=nw ((b.take y.1.toNat).drop 0))
    · rw[c3]at h;simp only[cond_false]at h⊢;cases c4:(r6.2.1 !=(b.length:Int))
      · rw[c4]at h;simp only[cond_false]at h⊢;cases c5:fi ⟨⟨r2.1,r3.1,r4.1⟩,y.2.2⟩
        · rw[c5]at h;exact absurd (show(4:Int)=0 from h) (by decide)
        · simp only[XJ,cond_false];exact c5
      · rw[c4]at h;exact absurd (show(3:Int)=0 from h) (by decide)
    · rw[c3]at h;exact absurd (show(3:Int)=0 from h) (by decide)
  · rw[c2]at h;exact absurd (show(2:Int)=0 from h) (by decide)
theorem uM (b:List Int):(dR b).1.tot<=8002000:=by
  have h0:en.tot=0:=rfl;unfold dR;generalize aR b 3 false=r2;simp only;generalize aR b r2.2.1 r2.2.2=r3;generalize aR b r3.2.1 r3.2.2=r4;have hc:=tp b r4.2.1 r4.2.2;generalize aY b r4.2.1 r4.2.2 2000=r5 at hc;have ht:=tq b r5.1.toNat r5.2.1 r5.2.2 [];rw[show fI aA.tot []=0 from rfl]at ht;generalize sb b r5.1.toNat r5.2.1 r5.2.2 []=y at ht;generalize aR b y.1 y.2.1=r6
  have hy:(⟨⟨r2.1,r3.1,r4.1⟩,y.2.2⟩:Model).tot<=8002000:=by show fI aA.tot y.2.2+0<=_;omega
  cases decide ((b.length:Int)>6000)<;>simp only[cond_true,cond_false]
  · cases (!decide (b.take 3 = [80, 77, 49])) <;> simp only [cond_true, cond_false]
    · cases r6.2.2<;>simp only[cond_true,cond_false]
      · cases(r6.1 !=nw ((b.take y.1.toNat).drop 0))<;>simp only[cond_true,cond_false]
        · cases(r6.2.1 !=(b.length:Int))<;>simp only[cond_true,cond_false]
          · generalize (!fi _)=q;cases q<;>simp only[cond_true,cond_false]
            · exact hy
            · omega
          · omega
        · omega
      · omega
    · omega
  · omega
def sr (m:Model):Bool:=(bC m).all λc=>decide (c<=1000)
theorem Gd {k:Nat} {m:Model} (hk:m.tot<k) (hN:m.tot<=aG):ta k m=some (sr m&&fi m):=by
 have hM:=aj;have hc:=ki m;have hl:=br aA.tot m.aF;have ht:m.tot=fI aA.tot m.aF+0:=rfl;unfold ta sr;rw[lq hk hN,aa,zb hk hN]
 rw[kt (bC m) (λc=>decide (c<=1000)) (no:=some false) (yes:=some (fi m)) (λi hi next=>by
  unfold l6;simp only;rw[decide_eq_true (by omega),cond_true,decide_eq_true (by omega),cond_true,XE,ag hi,aa,al hi (by omega)];by_cases c:(bC m)[i]<=1000
  ·rw[decide_eq_false (by omega),decide_eq_true c];rfl
  ·rw[decide_eq_true (by omega),decide_eq_false c];rfl) (λnext=>by
  unfold l6;simp only
  rw[decide_eq_false (by omega)];rfl) (by omega)]
 cases(bC m).all λc=>decide (c<=1000)<;>rfl
theorem Is {k:Nat} {m:Model} (hk:m.tot+1<k) (hN:m.tot<aG):vZ k m=some (sr m):=by
 have hM:=aj;have hc:=ki m;have hl:=br aA.tot m.aF;have ht:m.tot=fI aA.tot m.aF+0:=rfl;unfold vZ sr ca cD;rw[lr hk hN,aa]
 rw[dX (bC m) (λx=>decide (x>1000)) (λi hi next=>by
  simp only[bw,ab,rV,aa]
  rw[if_pos (by omega),aD,ag hi,aa,al hi (by omega)]) (λnext=>by
  simp only[bw,ab];rw[if_neg (by omega)]) (by omega)]
 rw[cQ];simp only[aa,mB];rw[YZ,ZT]
 congr 2
 funext c
 rw[<-decide_not]
 congr 1
 exact propext Int.not_lt
def zG:az:=⟨⟨0,0,0⟩,[]⟩
def cU (kind code:Int):List Event:=[⟨5,kind,code,zG⟩]
def IY (r:Runtime) (a:Int):Bool:=inB a 0 3&&r.aq.getD a.toNat false
def pJ (r:Runtime) (x:Step):List Event× List Model× List Bool:=
 cond (inB x.a 0 3&&!r.aq.getD x.a.toNat false) (cond (decide ((dR x.data).2=0)&&sr (dR x.data).1) ([⟨0,x.a,sa (dR x.data).1,zG⟩],r.ao.set x.a.toNat (dR x.data).1,r.aq.set x.a.toNat true) (cU x.kind 2,r.ao,r.aq)) (cU x.kind 1,r.ao,r.aq)
section
variable {k:Nat} {r:Runtime} {x:Step} (hk:9000000<=k) (hb:∀y∈x.data,okB y) (hl:x.data.length<=aG) (hlo:r.aq.length=4) (hmo:r.ao.length=4)
include hk hb hl hlo hmo
theorem Iu:qz k r x=some (pJ r x):=by
 have hM:=aj;have hd:=uM x.data;unfold qz pJ bn;rw[bN,aa];cases c1:inB x.a 0 3
 ·simp only[X8,cond_true,aa,decide_true,Yy,cond_false];rfl
 have c1':=of_decide_eq_true c1
 have hi:x.a.toNat<r.aq.length:=by omega
 simp only[XJ,cond_false,XM];rw[decide_eq_true (by omega),cond_true,ag hi,aa,dj hi];cases c2:r.aq[x.a.toNat]
 ·simp only[cond_false,X8,cond_true];rw[zC hk hb hl,aa,pE];by_cases c3:(dR x.data).2=0
  ·rw[decide_eq_true c3];simp only[cond_true,XM];rw[Gd (by omega) (by omega),aa,Nw c3,Zw];cases sr (dR x.data).1
   ·simp only[X8,cond_true,aa,decide_true,cond_false];rfl
   ·simp only[XJ,cond_false,cond_true];rw[decide_eq_true (by omega),cond_true,Dc (by omega) (by omega),aa];simp only[decide_true,cond_true];rfl
  ·rw[decide_eq_false c3];simp only[cond_true,aa,decide_true,Yy,cond_false];rfl
 ·simp only[cond_true,aa,decide_true,XJ,cond_false];rfl
theorem Qh:hY k r x=some (pJ r x):=by
 have hM:=aj;have hd:=uM x.data;unfold hY pJ ek;rw[gn,aa];cases c1:inB x.a 0 3
 ·simp only[X8,cond_true,aa,decide_true,Yy,cond_false];rfl
 have c1':=of_decide_eq_true c1
 have hi:x.a.toNat<r.aq.length:=by omega
 simp only[XJ,cond_false,XM];rw[decide_eq_true (by omega),cond_true,ag hi,aa,dj hi];cases c2:r.aq[x.a.toNat]
 ·simp only[cond_false,X8,cond_true];rw[zD hk hb hl,aa,pE];by_cases c3:(dR x.data).2=0
  ·rw[decide_eq_true c3];simp only[cond_true,XM];rw[Is (by omega) (by omega),aa];cases sr (dR x.data).1
   ·simp only[X8,cond_true,aa,decide_true,cond_false];rfl
   ·simp only[XJ,cond_false,cond_true];rw[decide_eq_true (by omega),cond_true,Dd (by omega) (by omega),aa];simp only[decide_true,cond_true];rfl
  ·rw[decide_eq_false c3];simp only[cond_true,aa,decide_true,Yy,cond_false];rfl
 ·simp only[cond_true,aa,decide_true,XJ,cond_false];rfl
end
theorem wD {k:Nat} {r:Runtime} {a:Int} (hlo:r.aq.length=4):eW k r a=some (IY r a):=by
 unfold eW IY;rw[gn,aa];cases c:inB a 0 3
 ·rfl
 have c':=of_decide_eq_true c;simp only[cond_true,XM];rw[uu _ (by omega),ag (show a.toNat<r.aq.length by omega),dj (show a.toNat<r.aq.length by omega)];rfl
end
set_option maxRecDepth 100000
set_option maxHeartbeats 4000000
section
def wE (rs:List Request) (id:Int):Int:=(rs.findIdx? λq=>q.id==id).elim (-1) λi=>(i:Int)
def Ai (rs:List Request) (id:Int):List Request:=rs.filter λq=>!(q.id==id)
section
variable {k:Nat} {rs:List Request} {id:Int} (hk:rs.length<k) (hN:rs.length<=aG)
include hk hN
theorem Cz:bK k rs id=some (wE rs id):=by
 have hM:=aj;unfold bK wE
 rw[dX rs (λt=>t.id==id) (yes:=some (-1)) (no:=some) (λi hi next=>by
  simp only[bo,il,decide_true,cond_true,aa]
  rw[ab,if_pos (by omega),ab,if_pos (by omega),XE,ag hi,aa,al hi (by omega)]) (λnext=>by
  simp only[bo,decide_true,cond_true];rw[ab,if_neg (by omega)]) hk]
 exact cQ _
theorem CA:bL k rs id=some (wE rs id):=by
 have hM:=aj;unfold bL wE
 rw[dX rs (λt=>t.id==id) (yes:=some (-1)) (no:=some) (λi hi next=>by
  simp only[bp,iP,decide_true,cond_true,aa]
  rw[ab,if_pos (by omega),aD,ag hi,aa,al hi (by omega)]) (λnext=>by
  simp only[bp,decide_true,cond_true];rw[ab,if_neg (by omega)]) hk]
 exact cQ _
theorem CB:bE k rs id=some (Ai rs id):=by
  have hM:=aj;unfold bE Ai;rw[Cz hk hN,aa];unfold wE
  cases hf:rs.findIdx? λz=>z.id==id with
  | none =>
    rw[X5,filter_none hf]
    simp
  | some i =>
    obtain⟨hi,hfi⟩:=oE hf;rw[XD,cO,if_neg (by omega),al hi (by omega)]
    obtain⟨i',ys',h1,h2,h3,h4⟩:=kn rs (λz=>z.id==id) (R:=List Request) (g:=(λu5 n5=>aQ k id u5 n5 (λy4=>cond (decide (0<=y4.1/\y4.1<=(y4.2.length:Int))) (cond (decide (0<=y4.1/\y4.1<=(((y4.2).take y4.1.toNat++List.replicate (y4.2.length-y4.1.toNat) (⟨(0:Int),(0:Int),(⟨(⟨(⟨(0:Int),(0:Int),(0:Int)⟩:Shape),([]:List aA)⟩:Model),(0:Int),(⟨(⟨(0:Int),(0:Int),(0:Int)⟩:Shape),([]:List Int)⟩:az),(0:Int)⟩:Job),(0:Int)⟩:Request)++(y4.2).drop (y4.1.toNat+(y4.2.length-y4.1.toNat))).length:Int))) (cond (decide (id=id)) (some (((y4.2).take y4.1.toNat++List.replicate (y4.2.length-y4.1.toNat) (⟨(0:Int),(0:Int),(⟨(⟨(⟨(0:Int),(0:Int),(0:Int)⟩:Shape),([]:List aA)⟩:Model),(0:Int),(⟨(⟨(0:Int),(0:Int),(0:Int)⟩:Shape),([]:List Int)⟩:az),(0:Int)⟩:Job),(0:Int)⟩:Request)++(y4.2).drop (y4.1.toNat+(y4.2.length-y4.1.toNat))).take (y4.1.toNat-0))) none) none) none)))
      (fin:=(λy4=>cond (decide (0<=y4.1/\y4.1<=(y4.2.length:Int))) (cond (decide (0<=y4.1/\y4.1<=(((y4.2).take y4.1.toNat++List.replicate (y4.2.length-y4.1.toNat) (⟨(0:Int),(0:Int),(⟨(⟨(⟨(0:Int),(0:Int),(0:Int)⟩:Shape),([]:List aA)⟩:Model),(0:Int),(⟨(⟨(0:Int),(0:Int),(0:Int)⟩:Shape),([]:List Int)⟩:az),(0:Int)⟩:Job),(0:Int)⟩:Request)++(y4.2).drop (y4.1.toNat+(y4.2.length-y4.1.toNat))).length:Int))) (cond (decide (id=id)) (some (((y4.2).take y4.1.toNat++List.replicate (y4.2.length-y4.1.toNat) (⟨(0:Int),(0:Int),(⟨(⟨(⟨(0:Int),(0:Int),(0:Int)⟩:Shape),([]:List aA)⟩:Model),(0:Int),(⟨(⟨(0:Int),(0:Int),(0:Int)⟩:Shape),([]:List Int)⟩:az),(0:Int)⟩:Job),(0:Int)⟩:Request)++(y4.2).drop (y4.1.toNat+(y4.2.length-y4.1.toNat))).take (y4.1.toNat-0))) none) none) none))
      (λi j ys hj next hij hl hg=>by
        simp only[aQ,gJ,decide_true,cond_true,aa,hl]
        rw[ab,if_pos (by omega),ab,if_pos (by omega),XE,hg,aa,cond_not,ab,if_pos (by omega),al hj (by omega),al (show i<rs.length by omega) (by omega),XE])
      (λi ys next hl=>by simp only[aQ,hl];rw[ab,if_neg (by omega)])
      (rs.length-(i+1)) i (i+1) rs k (by omega) (by omega) (by omega) rfl rfl hfi
    refine h4.trans ?_;obtain⟨c1,c2⟩:=tx (⟨(0:Int),(0:Int),(⟨(⟨(⟨(0:Int),(0:Int),(0:Int)⟩:Shape),([]:List aA)⟩:Model),(0:Int),(⟨(⟨(0:Int),(0:Int),(0:Int)⟩:Shape),([]:List Int)⟩:az),(0:Int)⟩:Job),(0:Int)⟩:Request) h1 h2;simp only[XE,h2,decide_true,cond_true];rw[c2,c1,ab,if_pos (by omega),ab,if_pos (by omega),h3]
end
theorem xV {k:Nat} {r:Runtime} {id:Int} (hk:r.ae.length<k) (hN:r.ae.length<=aG):iC k r id=some (wE r.ae id):=by
 unfold iC;rw[CA hk hN];rfl
theorem tz {k:Nat} {r:Runtime} {id:Int} (hk:r.ae.length<k) (hN:r.ae.length<=aG):BJ k r id=some (wE r.ae id):=by
 have hM:=aj;unfold BJ wE
 rw[dX r.ae (λt=>t.id==id) (yes:=some (-1)) (no:=some) (λi hi next=>by
  simp only[tb]
  rw[ab,if_pos (by omega),aD,ag hi,aa,al hi (by omega)]) (λnext=>by
  simp only[tb];rw[ab,if_neg (by omega)]) hk]
 exact cQ _
def xW (s:ak) (id:Int):ak:=⟨s.now,s.ai,s.age,NR s.tasks id,cond (s.run==id) 0 s.run,cond (s.run==id) 0 s.left,s.turns,s.next⟩
theorem xX {s:ak} (h:SOk s) {id:Int} (hid:1<=id):(sk s id).1=xW s id:=by
 unfold sk;rw[Ag h,XM];by_cases c:0<=lx s.tasks id
 ·rw[decide_eq_true c];rfl
 rw[decide_eq_false c,cond_false]
 have hn:∀t∈s.tasks,t.id≠id:=λt ht e=>by
  unfold lx at c
  cases hf:s.tasks.findIdx? λt=>t.id==id with
  |none=>rw[YS]at hf;have:=hf t ht;simp[e]at this
  |some i=>rw[hf,XD]at c;omega
 have ht:NR s.tasks id=s.tasks:=YT.2 λt ht=>by simpa using hn t ht
 have hr:(s.run==id)=false:=by
  rcases h.run with⟨h1,_⟩|⟨t,g1,g2,_⟩
  ·rw[h1];simp;omega
  ·rw[<-g2];simpa using hn t g1
 unfold xW;rw[ht,hr];rfl
def Ui (r:Runtime) (id:Int):Runtime:=⟨xW r.sched id,r.ao,r.aq,Ai r.ae id⟩
section
variable {k:Nat} {r:Runtime} {id:Int} (hk:r.sched.tot+r.ae.length<k) (hN:r.sched.tot+r.ae.length<=aG)
include hk hN
theorem Qi (h:SOk r.sched) (hid:1<=id):qA k r id=some (let s:=xW r.sched id;(s.now,s.ai,s.age,s.tasks,s.run,s.left,s.turns,s.next,Ai r.ae id)):=by
 have hM:=aj;unfold qA
 refine(qK r.ae (λq=>!(q.id==id)) (λq=>q) (g:=λu5 n5=>iB k (id,r.sched.now,r.sched.ai,r.sched.age,r.sched.run,r.sched.left,r.sched.turns,r.sched.next,r.ae,r.sched.tasks,r.ao,r.aq) u5 n5 _) (fin:=_) (λi ys hi next hl=>by
  simp only[iB];rw[ab,if_pos (by omega),aD,ag hi,aa,aa,bR (by omega),al hi (by omega)]
  rfl) (λys next=>by
  simp only[iB];rw[ab,if_neg (by omega)]) (by omega)).trans ?_
 simp only[ZV,sn (show r.sched.tot<k by omega) (show r.sched.tot<=aG by omega),aa,decide_true,cond_true];have:=xX h hid;rw[<-this];unfold sk Ai;cases(bI r.sched&&decide (0<=lx r.sched.tasks id))<;>rfl
theorem xY (h:SOk r.sched) (hid:1<=id):lj k r id=some (let s:=xW r.sched id;(s.now,s.ai,s.age,s.tasks,s.run,s.left,s.turns,s.next,Ai r.ae id)):=by
 have hM:=aj;unfold lj
 refine(qK r.ae (λq=>!(q.id==id)) (λq=>q) (g:=λu5 n5=>gH k (id,r.sched.now,r.sched.ai,r.sched.age,r.sched.run,r.sched.left,r.sched.turns,r.sched.next,r.sched.tasks,r.ao,r.aq,r.ae) u5 n5 _) (fin:=_) (λi ys hi next hl=>by
  simp only[gH];rw[ab,if_pos (by omega),ab,if_pos (by omega),XE,ag hi,aa,ab,if_pos (by omega),aa,bR (by omega),al hi (by omega)]
  rfl) (λys next=>by
  simp only[gH];rw[ab,if_neg (by omega)]) (by omega)).trans ?_
 simp only[ZV,sn (show r.sched.tot<k by omega) (show r.sched.tot<=aG by omega),aa,decide_true,cond_true];have:=xX h hid;rw[<-this];unfold sk Ai;cases(bI r.sched&&decide (0<=lx r.sched.tasks id))<;>rfl
omit hk hN in
theorem Nx {zs:List dY} {a b c d e f g:Int} {ms:List Model} {ls:List Bool} {rs:List Request} (hk:zs.length<k) (hN:zs.length<=aG):dA k a b c zs d e f g ms ls rs id=some (zs.filter λz=>!(z.id==id),cond (d==id) 0 d,cond (d==id) 0 e):=by
 unfold dA;rw[qU hk hN,aa];simp only[decide_true,cond_true];cases d==id<;>rfl
theorem Iv:eu k r id=some (let s:=xW r.sched id;(⟨4,id,0,zG⟩,s.tasks,s.run,s.left,Ai r.ae id)):=by
 have hlen:=br Task.tot r.sched.tasks;have hst:r.sched.tot=fI Task.tot r.sched.tasks+0:=rfl;unfold eu;rw[tw,aa,Nx (by rw[eZ];omega) (by rw[eZ];omega),aa];simp only;rw[oD,cond_true,qL r.sched.tasks (λt=>!(t.id==id)) (λz=>!(z.id==id)) (λn t=>rfl),aa,CB (by omega) (by omega),aa];simp only[decide_true,cond_true];rfl
end
end
set_option maxRecDepth 100000
set_option maxHeartbeats 4000000
section
structure R2 (q:Request) (t:Task):Prop where
 id:q.id=t.id
 job:wJ q.job=true
 at_:q.job.at_=t.at_
 av:bC q.job.model=t.av
 tot:q.job.model.tot<=8002000
inductive Lk:List Request->List Task->Prop
 |nil:Lk [] []
 |cons {q:Request} {t:Task} {qs:List Request} {ts:List Task}:R2 q t->Lk qs ts->Lk (q::qs) (t::ts)
theorem Lk.len:∀{qs:List Request} {ts:List Task},Lk qs ts->qs.length=ts.length
 |_,_,.nil=>rfl
 |_,_,.cons _ h=>by simp[h.len]
theorem Lk.off {id:Int}:∀{qs:List Request} {ts:List Task},Lk qs ts->Lk (Ai qs id) (NR ts id)
 |_,_,.nil=>.nil
 |_,_,.cons (q:=q) (t:=t) (qs:=qs) (ts:=ts) h g=>by
  have e:(q.id==id)=(t.id==id):=by rw[h.id]
  have:=g.off (id:=id);unfold Ai NR at this⊢;rw[Y6,Y6,e];cases(t.id==id)
  ·exact .cons h this
  ·exact this
theorem Lk.app {q:Request} {t:Task} (l:R2 q t):∀{qs:List Request} {ts:List Task},Lk qs ts->Lk (qs++[q]) (ts++[t])
 |_,_,.nil=>.cons l .nil
 |_,_,.cons h g=>.cons h (g.app l)
theorem Lk.get:∀{qs:List Request} {ts:List Task},Lk qs ts->∀{i:Nat} (h1:i<qs.length) (h2:i<ts.length),R2 qs[i] ts[i]
 |_,_,.nil,_,h,_=>absurd h (by simp)
 |_,_,.cons h _,0,_,_=>h
 |_,_,.cons _ g,i+1,h1,h2=>g.get (by simpa using h1) (by simpa using h2)
theorem Lk.set {q:Request} {t:Task} (l:R2 q t):∀{qs:List Request} {ts:List Task},Lk qs ts->∀(i:Nat),Lk (qs.set i q) (ts.set i t)
 |_,_,.nil,_=>.nil
 |_,_,.cons _ g,0=>.cons l g
 |_,_,.cons h g,i+1=>.cons h (g.set l i)
theorem Lk.ids {qs:List Request} {ts:List Task} (h:Lk qs ts):∀q∈qs,∃t∈ts,q.id=t.id:=by
 induction h with
 |nil=>exactλq hq=>nomatch hq
 |cons l _ ih=>
  intro q hq
  rcases X3.1 hq with rfl|hq
  ·exact⟨_,Yc,l.id⟩
  ·obtain⟨t,h1,h2⟩:=ih q hq;exact⟨t,XV _ h1,h2⟩
structure pM (r:Runtime):Prop where
 s:SOk r.sched
 ml:r.ao.length=4
 ll:r.aq.length=4
 mod:∀m∈r.ao,m.tot<=8002000
 req:Lk r.ae r.sched.tasks
theorem pM.SS {r:Runtime} (h:pM r):r.ae.length<=12:=by rw[h.req.len];exact h.s.len
theorem LU {t:Task} (h:je t=true):t.tot<=6:=by
 have:=(ch h).2.1.2;unfold Task.tot;omega
theorem Kx {α:Type} {t:α->Nat} {B:Nat}:∀{xs:List α},(∀x∈xs,t x<=B)->fI t xs<=xs.length*(B+1)
 |[],_=>by simp[fI]
 |x::xs,h=>by
  have h1:=h x Yc;have h2:=Kx (t:=t) (B:=B) (xs:=xs) λy hy=>h y (XV _ hy);rw[vz,XI,X7];omega
theorem pM.tot {r:Runtime} (h:pM r):r.sched.tot<=84:=by
 have h1:=Kx (t:=Task.tot) (B:=6) (xs:=r.sched.tasks) λt ht=>LU (h.s.task t ht).1;have h2:=h.s.len;show fI Task.tot r.sched.tasks+0<=84;omega
theorem CC {r:Runtime} (h:pM r):∀q∈r.ae,1<=q.id:=λq hq=>by
 obtain⟨t,h1,h2⟩:=h.req.ids q hq;have:=(ch (h.s.task t h1).1).1.1;omega
theorem Qj {s:ak} (h:SOk s) {id:Int} (hid:1<=id):SOk (xW s id):=by rw[<-xX h hid];exact Qg h id
theorem LV {r:Runtime} (h:pM r) {id:Int} (hid:1<=id):pM (Ui r id):=⟨Qj h.s hid,h.ml,h.ll,h.mod,h.req.off⟩
def dS (r:Runtime) (x:Step):List Event× ak× List Request:=
  cond (IY r x.a) (cond (dw (r.ao.getD x.a.toNat en) x.input).2 (cond (inB x.b 0 1000000)
    (let ad:=eY r.sched (bC (dw (r.ao.getD x.a.toNat en) x.input).1.model) (r.sched.now+x.b);
      cond (decide (ad.2.2=0)) ([⟨2,ad.2.1,r.sched.now+x.b,zG⟩],ad.1,r.ae++[⟨ad.2.1,x.a,(dw (r.ao.getD x.a.toNat en) x.input).1,r.sched.now+x.b⟩]) (cU x.kind (i64.wrap (3+ad.2.2)),r.sched,r.ae))
    (cU x.kind 8,r.sched,r.ae)) (cU x.kind 3,r.sched,r.ae)) (cU x.kind 1,r.sched,r.ae)
def W1 (e:List Event× ak× List Request):List Event× Int× Int× Int× List Task× Int× Int× Int× Int× List Request:=(e.1,e.2.1.now,e.2.1.ai,e.2.1.age,e.2.1.tasks,e.2.1.run,e.2.1.left,e.2.1.turns,e.2.1.next,e.2.2)
section
variable {k:Nat} {r:Runtime} {x:Step} (h:pM r) (hk:20000000<=k) (hx:x.input.tot<=2000000)
include h hk hx
theorem CD:l8 k r x=some (W1 (dS r x)):=by
 have hM:=aj;have hq:=h.SS;have ht:=h.tot;have SR:=h.s.now;unfold l8 dS bn IY;rw[bN,aa];cases c1:inB x.a 0 3
 ·simp only[X8,cond_true,aa,decide_true,Yy,cond_false];rfl
 have c1':=of_decide_eq_true c1;have hlo:=h.ll;have hmo:=h.ml
 have hi:x.a.toNat<r.aq.length:=by omega
 have hi2:x.a.toNat<r.ao.length:=by omega
 simp only[XJ,cond_false,XM];rw[decide_eq_true (by omega),cond_true,ag hi,aa,dj hi];cases c2:r.aq[x.a.toNat]
 ·simp only[X8,cond_true,aa,decide_true,cond_false];rfl
 simp only[XJ,cond_false,cond_true];rw[decide_eq_true (by omega),cond_true,ag hi2,aa,dj hi2];have hmt:=h.mod _ (XH hi2);generalize hm:r.ao[x.a.toNat]=m at hmt;have hjt:=zd m x.input;rw[FG (by omega) (by omega),aa];cases c3:(dw m x.input).2
 ·simp only[X8,cond_true,aa,decide_true,cond_false];rfl
 simp only[XJ,cond_false,cond_true];rw[sf,aa];cases c4:inB x.b 0 1000000
 ·simp only[X8,cond_true,aa,decide_true,cond_false];rfl
 have c4':=of_decide_eq_true c4;simp only[XJ,cond_false,cond_true];rw[aL (n:=r.sched.now+x.b) (by omega) (by omega)];generalize hj:(dw m x.input).1=j at hjt
 have hjm:j.model.tot<=j.tot:=by unfold Job.tot;omega
 have hcl:=ki j.model;have hcl2:=br aA.tot j.model.aF;have hcl3:j.model.tot=fI aA.tot j.model.aF+0:=rfl;rw[lq (by omega) (by omega),aa,Nn (by omega) (by omega),aa,pE];generalize eY r.sched (bC j.model) (r.sched.now+x.b)=ad;by_cases c5:ad.2.2=0
 ·rw[decide_eq_true c5];simp only[cond_true]
  have hlen:(r.ae++[(⟨ad.2.1,x.a,j,r.sched.now+x.b⟩:Request)]).length=r.ae.length+1:=by simp
  rw[bR (by omega),hlen,aL (by omega) (by omega),decide_eq_true (by omega),cond_true,show(((r.ae.length+1:Nat):Int)-1).toNat=r.ae.length from by omega,XL (X1 _),Nat.sub_self];simp only[Zs,aa,decide_true,cond_true];rfl
 ·rw[decide_eq_false c5];simp only[cond_true,aa,decide_true,cond_false];rfl
theorem Ky:fR k r x=some (W1 (dS r x)):=by
 have hM:=aj;have hq:=h.SS;have ht:=h.tot;have SR:=h.s.now;have hlo:=h.ll;have hmo:=h.ml;unfold fR dS ek;rw[wD h.ll,aa];cases c0:IY r x.a
 ·simp only[X8,cond_true,aa,decide_true,Yy,cond_false];rfl
 have c1':=of_decide_eq_true (Yn.1 c0).1
 have hi2:x.a.toNat<r.ao.length:=by omega
 simp only[XJ,cond_false,cond_true];rw[decide_eq_true (by omega),cond_true,ag hi2,aa,dj hi2];have hmt:=h.mod _ (XH hi2);generalize hm:r.ao[x.a.toNat]=m at hmt;have hjt:=zd m x.input;rw[FH (by omega) (by omega),aa];cases c3:(dw m x.input).2
 ·simp only[X8,cond_true,aa,decide_true,cond_false];rfl
 simp only[XJ,cond_false,cond_true];rw[uL,aa];cases c4:inB x.b 0 1000000
 ·simp only[X8,cond_true,aa,decide_true,cond_false];rfl
 have c4':=of_decide_eq_true c4;simp only[XJ,cond_false,cond_true];rw[aL (n:=r.sched.now+x.b) (by omega) (by omega)];generalize hj:(dw m x.input).1=j at hjt
 have hjm:j.model.tot<=j.tot:=by unfold Job.tot;omega
 have hcl:=ki j.model;have hcl2:=br aA.tot j.model.aF;have hcl3:j.model.tot=fI aA.tot j.model.aF+0:=rfl;rw[lr (by omega) (by omega),aa,Np (by omega) (by omega),aa,pE];generalize eY r.sched (bC j.model) (r.sched.now+x.b)=ad;by_cases c5:ad.2.2=0
 ·rw[decide_eq_true c5];simp only[cond_true];rw[bR (by omega)];simp only[aa,decide_true,cond_true];rfl
 ·rw[decide_eq_false c5];simp only[cond_true,aa,decide_true,cond_false];rfl
end
end
end Go.Proofs.Ev
