/- Typed functions and what holds of them: part 5. -/
import Derived.Test.YtkjdnpefjebmlaaGreatDoorEvL4
set_option linter.unusedVariables false
set_option linter.unusedSimpArgs false
set_option linter.unusedSectionVars false
namespace Go.Proofs.Ev
open IntKind(i64 u8 u64)
section
theorem sC {k:Nat} {s:al} (hk:s.tot<k) (hN:s.tot<=aO):mQ k s=some s:=by
 have hM:=ak;unfold al.tot at hk hN;have hlen:=bu Task.tot s.tasks;unfold mQ
 refine(s8 s.tasks (λt=>t) (g:=λu4 n4=>k6 k (s.now,s.aj,s.age,s.tasks,s.run,s.left,s.turns,s.next,(0:Int),(0:Int),(0:Int),(0:Int),(0:Int),(0:Int),(0:Int),s.now,s.aj,s.age,s.run,s.left,s.turns,s.next) u4 n4 (λy3=>some (⟨s.now,s.aj,s.age,y3,s.run,s.left,s.turns,s.next⟩:al)))
  (fin:=λy3=>some (⟨s.now,s.aj,s.age,y3,s.run,s.left,s.turns,s.next⟩:al)) (λi ys hi next hl=>by
  have hm:=jy Task.tot (W9 hi);have hm0:s.tasks[i].tot=s.tasks[i].ax.length+0:=rfl;simp only[k6]
  rw[ab,if_pos (by omega),aL,ai hi,aa,lk (by omega) (by omega),aa,bO (by omega),ar hi (by omega)]) (λys next=>by
  simp only[k6];rw[ab,if_neg (by omega)]) (by omega)).trans ?_
 simp
theorem kr {k:Nat} {s:al} (hk:s.tot<k) (hN:s.tot<=aO):ir k s=some s:=by
 have hM:=ak;unfold al.tot at hk hN;have hlen:=bu Task.tot s.tasks;unfold ir
 refine(s8 s.tasks (λt=>t) (g:=λu4 n4=>gT k (s.tasks,(s.tasks.length:Int),s.now,s.aj,s.age,s.run,s.left,s.turns,s.next,(0:Int),(0:Int),(0:Int),(0:Int),(0:Int),(0:Int),(0:Int)) u4 n4 (λy3=>some (⟨s.now,s.aj,s.age,y3,s.run,s.left,s.turns,s.next⟩:al)))
  (fin:=λy3=>some (⟨s.now,s.aj,s.age,y3,s.run,s.left,s.turns,s.next⟩:al)) (λi ys hi next hl=>by
  have hm:=jy Task.tot (W9 hi);have hm0:s.tasks[i].tot=s.tasks[i].ax.length+0:=rfl;simp only[gT]
  rw[ab,if_pos (by omega),aL,ai hi,aa,cY (by omega),aa,bO (by omega),ar hi (by omega)]) (λys next=>by
  simp only[gT];rw[ab,if_neg (by omega)]) (by omega)).trans ?_
 simp
def ib (t:Task):Int:=(t.ax.drop t.at_.toNat).sum
def fu (t:Task):Int:=(idx t.ax t.at_).getD 0
def ez (s:al) (t:Task):Int:=cond (s.run==t.id) (ib t-fu t+s.left) (ib t)
theorem fv {t:Task} (h:je t=true):idx t.ax t.at_=some (fu t)/\1<=fu t/\fu t<=1000:=by
 have ht:=bT h
 have hlt:t.at_.toNat<t.ax.length:=by omega
 have e:idx t.ax t.at_=some t.ax[t.at_.toNat]:=by rw[j9 _ ht.2.2.1.1];exact ai hlt
 unfold fu;rw[e,Yu];exact⟨rfl,ht.2.2.2.2.2 _ (W9 hlt)⟩
theorem BX {t:Task} (h:je t=true):fu t<=ib t/\ib t-fu t<=5000/\0<=ib t-fu t:=by
 have ht:=bT h
 have hlt:t.at_.toNat<t.ax.length:=by omega
 have e:idx t.ax t.at_=some t.ax[t.at_.toNat]:=by rw[j9 _ ht.2.2.1.1];exact ai hlt
 have hc:fu t=t.ax[t.at_.toNat]:=by unfold fu;rw[e];rfl
 have hb:=BU (f:=λx:Int=>x) (B:=1000) (t.ax.drop (t.at_.toNat+1)) (λx hx=>by have:=ht.2.2.2.2.2 x (Zc hx);omega);rw[Zv,XZ]at hb;unfold ib;rw[jx hlt,YS,hc];omega
theorem tJ {s:al} (h:bE s=true) {t:Task} (hm:t∈s.tasks) (hr:s.run=t.id):1<=s.left/\s.left<=fu t:=by
 have hs:=br h;obtain⟨i,hi,rfl⟩:=XC.1 hm;have hT:=(bX hs.2.2.2.2.2.2.1 hi).1;have ht:=bT hT;have lC:=hs.2.2.2.2.2.2.2;unfold Na at lC
 have h0:(s.run==0)=false:=by rw[hr];simp;omega
 rw[h0,cond_false,hr,FO hs.2.2.2.2.2.2.1 hi,W8,ai hi,W8,(fv hT).1,W8]at lC;exact of_decide_eq_true lC
theorem BZ {s:al} (h:bE s=true) {t:Task} (hm:t∈s.tasks):0<=ez s t/\ez s t<=6000:=by
 have hs:=br h;obtain⟨i,hi,e⟩:=XC.1 hm;have hT:je t=true:=e▸(bX hs.2.2.2.2.2.2.1 hi).1;have hc:=fv hT;have hb:=BX hT;unfold ez;cases hr:s.run==t.id
 ·simp only[cond_false];omega
 ·have:=tJ h hm (by simpa using hr);simp only[cond_true];omega
theorem FR {k:Nat} {s:al} (hk:s.tot<k) (hN:s.tot<=aO) (h:bE s=true) {t:Task} (hm:t∈s.tasks):tf k s t.id=some (ez s t):=by
  have hM:=ak;have hs:=br h;obtain⟨i,hi,rfl⟩:=XC.1 hm;have hT:=(bX hs.2.2.2.2.2.2.1 hi).1;have ht:=bT hT;have hlen:=bu Task.tot s.tasks;have htm:=jy Task.tot hm;have hm0:s.tasks[i].tot=s.tasks[i].ax.length+0:=rfl;have hst:s.tot=gp Task.tot s.tasks+0:=rfl;have hc:=fv hT;have hb:=BX hT;unfold tf;rw[mx (by omega) (by omega),aa,ek hk hN,aa,h,jc (FO hs.2.2.2.2.2.2.1 hi)];simp only[Xa,cond_false];rw[ab,if_neg (by omega),aL,ai hi,aa]
  have hat:s.tasks[i].at_=((s.tasks[i].at_.toNat:Nat):Int):=by omega
  have e:=HV (R:=Int) s.tasks[i].ax s.tasks[i].at_.toNat (by omega) (B:=1000) (by omega) (λx hx=>by have:=ht.2.2.2.2.2 x hx;omega)
    (g:=λu7 n7=>jA k (s.tasks[i].id,s.now,s.aj,s.age,s.tasks,s.run,s.left,s.turns,s.next,s.tasks[i].id,s.tasks[i].ax,s.tasks[i].at_,s.tasks[i].due,s.tasks[i].born) u7 n7 (λy5=>cond (s.run==s.tasks[i].id) ((idx s.tasks[i].ax s.tasks[i].at_).bind λe6=>some (i64.wrap ((i64.wrap (y5-e6))+s.left))) (some y5)))
    (fin:=λy5=>cond (s.run==s.tasks[i].id) ((idx s.tasks[i].ax s.tasks[i].at_).bind λe6=>some (i64.wrap ((i64.wrap (y5-e6))+s.left))) (some y5))
    (λj z hj next h0 h1=>by
      have:=ht.2.2.2.2.2 _ (W9 hj);simp only[jA]
      rw[ab,if_pos (by omega),aL,ai hj,aa,aF (by omega) (by omega),ar hj (by omega)])
    (λz next=>by simp only[jA];rw[ab,if_neg (by omega)]) (k:=k) (by omega)
  rw[<-hat]at e;refine e.trans ?_;show cond _ _ _=some (ez s s.tasks[i]);unfold ez;rw[hc.1,aa];cases hr:s.run==s.tasks[i].id
  · rfl
  · have:=tJ h hm (by simpa using hr);simp only[cond_true];have e2:(s.tasks[i].ax.drop s.tasks[i].at_.toNat).sum=ib s.tasks[i]:=rfl;rw[e2,aF (n:=ib s.tasks[i]-fu s.tasks[i]) (by omega) (by omega),aF (by omega) (by omega)]
theorem Lb {B:Int}:∀(xs:List Int) (s:Int) (hf:∀x∈xs,0<=x/\x<=B) (h0:0<=s) (h1:s+B*xs.length<=9223372036854775807),xs.foldl (λs x=>i64.wrap (s+x)) s=s+xs.sum
 |[],s,_,_,_=>by simp
 |x::xs,s,hf,h0,h1=>by
  have hx:=hf x (by simp);rw[W7,Int.natCast_add,Int.mul_add]at h1;have h2:0<=B*(xs.length:Int):=X7 (by omega) (by omega);rw[YX,YS,aF (by omega) (by omega),Lb xs (s+x) (λy hy=>hf y (by simp[hy])) (by omega) (by omega)];omega
theorem JV {k:Nat} {s:al} (hk:s.tot<k) (hN:s.tot<=aO) (h:bE s=true) {t:Task} (hm:t∈s.tasks):oJ k s t=some (ez s t):=by
 have hM:=ak;have hs:=br h;obtain⟨i,hi,rfl⟩:=XC.1 hm;have hT:=(bX hs.2.2.2.2.2.2.1 hi).1;have ht:=bT hT;have htm:=jy Task.tot hm;have hm0:s.tasks[i].tot=s.tasks[i].ax.length+0:=rfl;have hst:s.tot=gp Task.tot s.tasks+0:=rfl;have hc:=fv hT;have hb:=BX hT;unfold oJ;rw[ab,if_pos (by omega),Yz (Xt _),Ft (by simp;omega) (by simp;omega),aa,Lb (B:=1000) _ 0 (λx hx=>by have:=ht.2.2.2.2.2 x (Zc hx);omega) (by omega) (by simp;omega),hc.1,aa,Int.zero_add];have e2:(s.tasks[i].ax.drop s.tasks[i].at_.toNat).sum=ib s.tasks[i]:=rfl;rw[e2];unfold ez;cases hr:s.run==s.tasks[i].id
 ·rfl
 ·have:=tJ h hm (by simpa using hr);simp only[cond_true];rw[aF (n:=s.left-fu s.tasks[i]) (by omega) (by omega),aF (by omega) (by omega)]
  congr 1;omega
def wC (s:al) (d:Int):Int:=(s.tasks.map λt=>cond (decide (t.due<=d)) (ez s t) 0).sum
def block (s:al) (d:Int):Int:=(s.tasks.findIdx? λt=>t.id==s.run).elim 0 λi=>(s.tasks[i]?).elim 0 λt=>cond (decide (t.due>d)) s.left 0
theorem xT {s:al} (h:bE s=true) (d:Int):∀t∈s.tasks,0<=cond (decide (t.due<=d)) (ez s t) 0/\cond (decide (t.due<=d)) (ez s t) 0<=6000:=λt ht=>by
 have:=BZ h ht;cases decide (t.due<=d)
 ·simp
 ·simpa using this
theorem Pv {s:al} (h:bE s=true) (d:Int):0<=wC s d/\wC s d<=72000:=by
 have hs:=br h;have:=BU (B:=6000) s.tasks (xT h d);unfold wC;omega
theorem FT {k:Nat} {s:al} {d:Int} (hk:s.tot<k) (hN:s.tot<=aO) (h:bE s=true):tj k s d=some (wC s d):=by
  have hM:=ak;have hs:=br h;have hlen:=bu Task.tot s.tasks;have hst:s.tot=gp Task.tot s.tasks+0:=rfl;unfold tj;rw[ek hk hN,aa,h];simp only[Xa,cond_false]
  exact K8 s.tasks (λt=>cond (decide (t.due<=d)) (ez s t) 0) (B:=6000) (xT h d) (g:=λu6 n6=>jB k (d,s.now,s.aj,s.age,s.tasks,s.run,s.left,s.turns,s.next) u6 n6 (λy5=>some y5)) (fin:=some)
    (λi z hi next h0 h1=>by
      have hr:=BZ h (W9 hi);have e:=FR hk hN h (W9 hi);simp only[jB];rw[ab,if_pos (by omega),aL,ai hi,aa,ar hi (by omega),aa];by_cases c:s.tasks[i].due<=d
      · rw[decide_eq_true c,cond_true,cond_true,show(⟨s.now,s.aj,s.age,s.tasks,s.run,s.left,s.turns,s.next⟩:al)=s from rfl,e,aa,aF (by omega) (by omega)]
      · rw[decide_eq_false c,cond_false,cond_false,Int.add_zero])
    (λz next=>by simp only[jB];rw[ab,if_neg (by omega)]) (by omega)
theorem JW {k:Nat} {s:al} {d:Int} (hk:s.tot<k) (hN:s.tot<=aO) (h:bE s=true):oK k s d=some (wC s d):=by
  have hM:=ak;have hs:=br h;have hlen:=bu Task.tot s.tasks;have hst:s.tot=gp Task.tot s.tasks+0:=rfl;unfold oK
  exact K8 s.tasks (λt=>cond (decide (t.due<=d)) (ez s t) 0) (B:=6000) (xT h d) (g:=λu4 n4=>gU k (d,s.tasks,(s.tasks.length:Int),s.now,s.aj,s.age,s.tasks,s.run,s.left,s.turns,s.next) u4 n4 (λy3=>some y3)) (fin:=some)
    (λi z hi next h0 h1=>by
      have hr:=BZ h (W9 hi);have e:=JV hk hN h (W9 hi);simp only[gU];rw[ab,if_pos (by omega),aL,ai hi,aa,ar hi (by omega)];by_cases c:s.tasks[i].due<=d
      · rw[decide_eq_true c,cond_true,cond_true,show(⟨s.now,s.aj,s.age,s.tasks,s.run,s.left,s.turns,s.next⟩:al)=s from rfl,e,aa,aF (by omega) (by omega)]
      · rw[decide_eq_false c,cond_false,cond_false,Int.add_zero])
    (λz next=>by simp only[gU];rw[ab,if_neg (by omega)]) (by omega)
theorem Rj {s:al} (h:bE s=true) (d:Int):0<=block s d/\block s d<=1000:=by
 have hs:=br h;unfold block
 cases hf:s.tasks.findIdx? λt=>t.id==s.run with
 |none=>exact⟨ZE _,by show(0:Int)<=1000;omega⟩
 |some i=>
  obtain⟨hi,hid⟩:=sB hf;have hT:=(bX hs.2.2.2.2.2.2.1 hi).1;have:=tJ h (W9 hi) hid.symm;have:=fv hT;rw[W8,ai hi,W8];cases decide (s.tasks[i].due>d)
  ·exact⟨ZE _,by show(0:Int)<=1000;omega⟩
  ·simp only[cond_true];omega
theorem D1 {s:al} {d:Int} (h:bE s=true):cond (decide (lr s.tasks s.run>=(0:Int))) ((idx s.tasks (lr s.tasks s.run)).bind λe3=>cond (decide (e3.due>d)) (some s.left) (some (0:Int))) (some (0:Int))=some (block s d):=by
 unfold block
 cases hf:s.tasks.findIdx? λt=>t.id==s.run with
 |none=>rw[xS hf];rfl
 |some i=>
  obtain⟨hi,_⟩:=sB hf;rw[jc hf,ab,if_pos (by omega),aL,ai hi,aa,W8,ai hi,W8];cases decide (s.tasks[i].due>d)<;>rfl
theorem HW {k:Nat} {s:al} {d:Int} (hk:s.tot<k) (hN:s.tot<=aO) (h:bE s=true):vP k s d=some (block s d):=by
 have hlen:=bu Task.tot s.tasks;have hst:s.tot=gp Task.tot s.tasks+0:=rfl;unfold vP;rw[ek hk hN,aa,h];simp only[Xa,cond_false];rw[mx (by omega) (by omega),aa,D1 h]
theorem MO {k:Nat} {s:al} {d:Int} (hk:s.tot<k) (hN:s.tot<=aO) (h:bE s=true):qy k s d=some (block s d):=by
 have hlen:=bu Task.tot s.tasks;have hst:s.tot=gp Task.tot s.tasks+0:=rfl;unfold qy;rw[wB (by omega) (by omega),aa,D1 h]
def eY (s:al) (t:Task):Bool:=decide (t.due<=s.now)
def JX (s:al) (t:Task):Bool:=decide (wC s t.due+block s t.due+s.aj<=t.due-s.now)
def B4 (s:al):Bool:=bE s&&s.tasks.all λt=>!eY s t&&JX s t
theorem Pw {α:Type} (p q:α->Bool):∀xs:List α,(xs.all p&&xs.all q)=xs.all λx=>p x&&q x
 |[]=>rfl
 |x::xs=>by
  rw[Yw,Yw,Yw,<-Pw p q xs];cases p x<;>cases q x<;>cases xs.all p<;>cases xs.all q<;>rfl
theorem JY {k:Nat} {s:al} (hk:s.tot<k) (hN:s.tot<=aO) (h:bE s=true):zS k s=some ((s.tasks.filter (eY s)).map (·.id)):=by
  have hM:=ak;have hlen:=bu Task.tot s.tasks;have hst:s.tot=gp Task.tot s.tasks+0:=rfl;unfold zS;rw[ek hk hN,aa,h];simp only[Xa,cond_false]
  exact qT s.tasks (eY s) (·.id) (g:=λu5 n5=>mR k (s.now,s.aj,s.age,s.tasks,s.run,s.left,s.turns,s.next) u5 n5 (λy4=>some y4)) (fin:=some)
    (λi ys hi next hl=>by
      simp only[mR];rw[ab,if_pos (by omega),aL,ai hi,aa,ar hi (by omega),aa,bO (by simp;omega)]
      rfl)
    (λys next=>by simp only[mR];rw[ab,if_neg (by omega)]) (by omega)
theorem Px {s:al} (h:bE s=true) {t:Task} (hm:t∈s.tasks):decide ((i64.wrap ((i64.wrap (wC s t.due+block s t.due))+s.aj))>(i64.wrap (t.due-s.now)))=!JX s t:=by
 have hs:=br h;have hd:=Pv h t.due;have hb:=Rj h t.due;obtain⟨i,hi,e⟩:=XC.1 hm;have ht:=bT (t:=t) (e▸(bX hs.2.2.2.2.2.2.1 hi).1);rw[aF (n:=wC s t.due+block s t.due) (by omega) (by omega),aF (n:=wC s t.due+block s t.due+s.aj) (by omega) (by omega),aF (by omega) (by omega),Pt];rfl
theorem JZ {k:Nat} {s:al} (hk:s.tot<k) (hN:s.tot<=aO):zT k s=some (B4 s):=by
 have hM:=ak;have hlen:=bu Task.tot s.tasks;have hst:s.tot=gp Task.tot s.tasks+0:=rfl;unfold zT B4;rw[ek hk hN,aa];cases h:bE s
 ·rfl
 simp only[Xa,cond_false,Xf]
 rw[JY hk hN h,aa,nO s.tasks (JX s) (yes:=some true) (no:=some false) (λi hi next=>by
  simp only[qw]
  rw[ab,if_pos (by omega),aL,ai hi,aa,show(⟨s.now,s.aj,s.age,s.tasks,s.run,s.left,s.turns,s.next⟩:al)=s from rfl,FT hk hN h,aa,HW hk hN h,aa,Px h (W9 hi),cond_not,ar hi (by omega)]) (λnext=>by
  simp only[qw];rw[ab,if_neg (by omega)]) (by omega)]
 rw[<-Pw,List.length_map]
 have hz:decide (((s.tasks.filter (eY s)).length:Int)>0)=!(s.tasks.all λt=>!eY s t):=by
  cases ha:s.tasks.all λt=>!eY s t
  ·rw[List.all_eq_false]at ha;obtain⟨t,ht,hl⟩:=ha;have:0<(s.tasks.filter (eY s)).length:=List.length_pos_of_mem (X1.2 ⟨ht,by simpa using hl⟩);rw[decide_eq_true (by omega)];rfl
  ·rw[Xv]at ha
   have:s.tasks.filter (eY s)=[]:=List.filter_eq_nil_iff.2 λt ht=>by simpa using ha t ht
   rw[this];rfl
 rw[hz];cases s.tasks.all λt=>!eY s t
 ·rfl
 ·simp only[Xa,cond_false,Xf];cases s.tasks.all (JX s)<;>rfl
theorem J0 {k:Nat} {s:al} (hk:s.tot<k) (hN:s.tot<=aO):Fi k s=some (B4 s):=by
  have hM:=ak;have hlen:=bu Task.tot s.tasks;have hst:s.tot=gp Task.tot s.tasks+0:=rfl;unfold Fi B4;rw[ov hk hN,aa];cases h:bE s
  · rfl
  simp only[cond_true,Xf];unfold eg eG;simp only[decide_true,cond_true]
  rw [er s.tasks (λ t => !(!eY s t && JX s t)) (yes := some (-1)) (no := some) (λ i hi next => by
    simp only[cw,decide_true,cond_true];rw[ab,if_pos (by omega),aL,ai hi,aa,show(⟨s.now,s.aj,s.age,s.tasks,s.run,s.left,s.turns,s.next⟩:al)=s from rfl]
    have e:qz k s.tasks[i] s=some (!(!eY s s.tasks[i]&&JX s s.tasks[i])):=by
      unfold qz dG;rw[aa,JW hk hN h,MO hk hN h];simp only[decide_true,cond_true,aa,Px h (W9 hi)];unfold eY;cases decide (s.tasks[i].due<=s.now)<;>cases JX s s.tasks[i]<;>rfl
    rw[e,aa,ar hi (by omega)]) (λnext=>by
    simp only[cw,decide_true,cond_true];rw[ab,if_neg (by omega)]) (by omega)]
  rw[cI];simp only[aa,mv];rw[Yv];simp only[Zt]
def fw (s:al) (ax:List Int) (due:Int):al× Int× Int:=
  cond (bE s&&je ⟨s.next,ax,0,due,s.now⟩)
    (cond ((s.tasks.length:Int)==12||s.next==1000000) (s,0,2)
      (cond (B4 ⟨s.now,s.aj,s.age,s.tasks++[⟨s.next,ax,0,due,s.now⟩],s.run,s.left,s.turns,s.next+1⟩)
        (⟨s.now,s.aj,s.age,s.tasks++[⟨s.next,ax,0,due,s.now⟩],s.run,s.left,s.turns,s.next+1⟩,s.next,0) (s,0,3))) (s,0,1)
theorem MP {k:Nat} {s:al} {ax:List Int} {due:Int} (hk:s.tot+ax.length+1<k) (hN:s.tot+ax.length+1<=aO):Fg k s ax due=some (fw s ax due):=by
 have hM:=ak;have hlen:=bu Task.tot s.tasks;have hst:s.tot=gp Task.tot s.tasks+0:=rfl;have hT:Task.tot ⟨s.next,ax,0,due,s.now⟩=ax.length+0:=rfl;unfold Fg fw;rw[sC (by omega) (by omega),aa,lk (by omega) (by omega),aa,ek (by omega) (by omega),aa,BV (t:=⟨s.next,ax,0,due,s.now⟩) (by show ax.length<k;omega) (by show ax.length<=aO;omega),aa];cases h:bE s
 ·rfl
 have hs:=br h;simp only[Xa,cond_false,Xf];cases je ⟨s.next,ax,0,due,s.now⟩
 ·rfl
 simp only[Xa,cond_false,cond_true];cases((s.tasks.length:Int)==12)
 case true=>rfl
 cases(s.next==(1000000:Int))
 case true=>rfl
 simp only[cond_false,Bool.or_false]
 have ht2:al.tot ⟨s.now,s.aj,s.age,s.tasks++[⟨s.next,ax,0,due,s.now⟩],s.run,s.left,s.turns,s.next+1⟩=s.tot+(ax.length+1):=by
  unfold al.tot;simp only[qq,pn,hT];simp[gp]
 rw[bO (by omega),aF (by omega) (by omega),JZ (by omega) (by omega),aa,cond_not];cases B4 _<;>rfl
theorem MQ {k:Nat} {s:al} {ax:List Int} {due:Int} (hk:s.tot+ax.length+1<k) (hN:s.tot+ax.length+1<=aO):JK k s ax due=some (fw s ax due):=by
 have hM:=ak;have hlen:=bu Task.tot s.tasks;have hst:s.tot=gp Task.tot s.tasks+0:=rfl;have hT:Task.tot ⟨s.next,ax,0,due,s.now⟩=ax.length+0:=rfl;unfold JK fw;rw[cY (by omega),aa,kr (by omega) (by omega),aa,ov (by omega) (by omega),aa,BW (t:=⟨s.next,ax,0,due,s.now⟩) (by show ax.length<k;omega) (by show ax.length<=aO;omega),aa];cases h:bE s
 ·rfl
 have hs:=br h;simp only[Xa,cond_false,Xf];cases je ⟨s.next,ax,0,due,s.now⟩
 ·rfl
 simp only[Xa,cond_false,cond_true];cases((s.tasks.length:Int)==12)
 case true=>rfl
 cases(s.next==(1000000:Int))
 case true=>rfl
 simp only[cond_false,Bool.or_false]
 have ht2:al.tot ⟨s.now,s.aj,s.age,s.tasks++[⟨s.next,ax,0,due,s.now⟩],s.run,s.left,s.turns,s.next+1⟩=s.tot+(ax.length+1):=by
  unfold al.tot;simp only[qq,pn,hT];simp[gp]
 rw[aa,bO (by omega),aF (by omega) (by omega),J0 (by omega) (by omega),aa,cond_not];cases B4 _<;>rfl
end
section
def TN (n:Nat) (t:Task):dY:=⟨t.id,n+1,t.at_,t.due,t.born⟩
def sD:Nat->List Task->List dY
 |_,[]=>[]
 |n,t::l=>TN n t::sD (n+5) l
theorem B5:∀(ts:List Task) (n:Nat),yO .task .fD n ts=some (sD n ts)
 |[],n=>rfl
 |t::l,n=>by
  have ih:=B5 l (n+5);show((S.fD.eV (nJ n (Qd t))).bind λy=>(yO .task .fD (n+S.task.sz) l).bind λys=>some (y::ys))=_;rw[show S.task.sz=5 from rfl,ih];rfl
theorem eT:∀(ts:List Task) (n:Nat),(sD n ts).length=ts.length
 |[],n=>rfl
 |t::l,n=>by simp[sD,eT l]
theorem D2:∀zs:List dY,Gd (dE .fD zs)=zs.map (·.ax)
 |[]=>rfl
 |z::l=>by
  show Gd (CW z++dE .fD l)=_;rw[XQ,<-D2 l];rfl
theorem HX:∀{l:List Nat},l.Nodup->ij l=true
 |[],_=>rfl
 |x::l,h=>by
  rw[Yd]at h;simp only[ij];cases hm:mem x l
  ·exact HX h.2
  ·exact(h.1 ((mem_iff x l).1 hm)).elim
theorem D3:∀(ts:List Task) (n:Nat),(∀z∈sD n ts,n<z.ax)/\(sD n ts).Pairwise λa b=>a.ax<b.ax
 |[],n=>⟨(λz hz=>by simp[sD]at hz),List.Pairwise.nil⟩
 |t::l,n=>by
  obtain⟨h1,h2⟩:=D3 l (n+5);refine⟨λz hz=>?_,List.Pairwise.cons (λz hz=>?_) h2⟩
  ·rcases Xm.1 hz with rfl|hz
   ·show n<n+1;omega
   ·have:=h1 z hz;omega
  ·have:=h1 z hz;show n+1<z.ax;omega
theorem ow {ts:List Task} {n:Nat} (q:dY->Bool):j8 ((sD n ts).filter q)=true:=by
 have h:=((D3 ts n).2.filter q)
 have h2:ij (((sD n ts).filter q).map (·.ax))=true:=by
  refine HX ?_;rw[List.Nodup,List.pairwise_map]
  exact h.imp λh e=>by omega
 unfold j8;exact(congrArg ij (D2 ((sD n ts).filter q))).trans h2
theorem MR (C:List R) (y:dY) (l:List dY):zv .task .fD C (y::l)=(xq C (CW y)).bind λc=>(S.task.eV c).bind λx=>(zv .task .fD C l).bind λxs=>some (x::xs):=rfl
theorem D4 (p:Task->Bool) (q:dY->Bool) (hq:∀n t,q (TN n t)=p t) (C:List R):∀(ts:List Task) (n:Nat),(∀(i:Nat) (h:i<ts.length),C[n+5*i]? =some (.ints ts[i].ax))->
  zv .task .fD C ((sD n ts).filter q)=some (ts.filter p)
 |[],n,_=>rfl
 |t::l,n,hC=>by
  have ih:=D4 p q hq C l (n+5) λi hi=>by
   have:=hC (i+1) (by simpa using hi);rw[show n+5+5*i=n+5*(i+1)from by omega,this];rfl
  have h0:C[n]? =some (.ints t.ax):=by
   have:=hC 0 (by simp);simpa using this
  have e1:(sD n (t::l)).filter q=cond (p t) (TN n t::(sD (n+5) l).filter q) ((sD (n+5) l).filter q):=by
   simp only[sD,YH,hq];cases p t<;>rfl
  have e2:(t::l).filter p=cond (p t) (t::l.filter p) (l.filter p):=by
   rw[YH];cases p t<;>rfl
  refine(congrArg (zv .task .fD C) e1).trans (Eq.trans ?_ (congrArg some e2.symm));clear e1 e2;cases p t
  ·exact ih
  ·have hc:xq C (CW (TN n t))=some (Qd t):=by
    have hu:rQ C (.tok (n+1))=some (.ints t.ax):=by
     show(match C[n]? with|some (.sl t xs)=>some (R.sl t xs)|_=>none)=_;rw[h0]
    show((rQ C (.i t.id)).bind λx=>((rQ C (.tok (n+1))).bind λx=>((rQ C (.i t.at_)).bind λx=>((rQ C (.i t.due)).bind λx=>((rQ C (.i t.born)).bind λx=>(some []).bind λxs=>some (x::xs)).bind λxs=>some (x::xs)).bind λxs=>some (x::xs)).bind λxs=>some (x::xs)).bind λxs=>some (x::xs))=_;rw[hu];rfl
   refine(MR C (TN n t) _).trans ?_;rw[hc];exact congrArg (λr:Option (List Task)=>r.bind λxs=>some (t::xs)) ih
theorem FU (ts:List Task) (i:Nat) (h:i<ts.length):(dE .task ts)[1+5*i]? =some (.ints ts[i].ax):=by
 have:=ql (s:=.task) (xs:=ts) (i:=i) (j:=1) (r:=.ints ts[i].ax) ⟨ts[i],ai h,rfl⟩;rw[show S.task.sz=5 from rfl]at this;rw[show 1+5*i=i*5+1 from by omega];exact this
theorem tK (ts:List Task):lE ts=some (sD 1 ts):=B5 ts 1
theorem qU (ts:List Task) (p:Task->Bool) (q:dY->Bool) (hq:∀n t,q (TN n t)=p t):rf ts ((sD 1 ts).filter q)=some (ts.filter p):=
 D4 p q hq _ ts 1 λi hi=>FU ts i hi
theorem kt {α R:Type} (xs:List α) (p:α->Bool) {g:Int× Int× List α->(Int× Int× List α->Option R)->Option R} {fin:Int× List α->Option R}
    (h:∀(i j:Nat) (ys:List α) (hj:j<xs.length) (next:Int× Int× List α->Option R),i<=j->ys.length=xs.length->ys[j]? =some xs[j]->
      g ((i:Int),(j:Int),ys) next=cond (p xs[j]) (next ((i:Int),((j+1:Nat):Int),ys)) (next (((i+1:Nat):Int),((j+1:Nat):Int),ys.set i xs[j])))
    (hn:∀(i:Nat) (ys:List α) next,ys.length=xs.length->g ((i:Int),(xs.length:Int),ys) next=fin ((i:Int),ys)):
    ∀ (d i j : Nat) (ys : List α) (k : Nat), j + d = xs.length -> d < k -> i <= j -> ys.length = xs.length -> ys.drop j = xs.drop j -> ys.take i = (xs.take j).filter (λ x => !p x) ->
      ∃(i':Nat) (ys':List α),i'<=xs.length/\ys'.length=xs.length/\ys'.take i'=xs.filter (λx=>!p x)/\iter g k ((i:Int),(j:Int),ys)=fin ((i':Int),ys')
  |d,i,j,ys,0,_,h2,_,_,_,_=>by omega
  | 0, i, j, ys, k + 1, h1, _, h3, h4, _, h6 => by
    have hj:j=xs.length:=by omega
    subst hj;refine⟨i,ys,h3,h4,by rw[h6,XO],?_⟩
    rw[aS];exact hn i ys _ h4
  | d + 1, i, j, ys, k + 1, h1, h2, h3, h4, h5, h6 => by
    have hj:j<xs.length:=by omega
    have hg:ys[j]? =some xs[j]:=by
      have:(ys.drop j)[0]? =(xs.drop j)[0]? :=by rw[h5]
      rw[Xl,Xl,XB]at this;rw[this];exact ai hj
    rw[aS,h i j ys hj _ h3 h4 hg]
    have UE:∀zs:List α,(∀m,j<m->zs[m]? =ys[m]?)->zs.drop (j+1)=xs.drop (j+1):=λzs hz=>by
      apply List.ext_getElem?;intro m;rw[Xl,Xl,hz _ (by omega)]
      have:(ys.drop j)[m+1]? =(xs.drop j)[m+1]? :=by rw[h5]
      rw[Xl,Xl]at this;rw[show j+1+m=j+(m+1)from by omega];exact this
    cases hp:p xs[j]
    · simp only[cond_false];refine kt xs p h hn d (i+1) (j+1) (ys.set i xs[j]) k (by omega) (by omega) (by omega) (by simp[h4]) (UE _ λm hm=>YL (by omega)) ?_;rw[dh hj,YV,<-h6]
      have hi:i<ys.length:=by omega
      rw[dh (show i<(ys.set i xs[j]).length by simp;omega),List.take_set_of_le (Xt _)];simp[hp]
    · simp only[cond_true];refine kt xs p h hn d i (j+1) ys k (by omega) (by omega) (by omega) h4 (UE _ λm hm=>rfl) ?_;rw[dh hj,YV,<-h6];simp[hp]
theorem filter_none {α:Type} {p:α->Bool} {xs:List α} (h:xs.findIdx? p=none):xs.filter (λx=>!p x)=xs:=by
 rw[X9]at h
 exact Yo.2 λx hx=>by rw[h x hx];rfl
theorem oz {α:Type} {p:α->Bool} {xs:List α} {i:Nat} (h:xs.findIdx? p=some i):i<xs.length/\xs.take i=(xs.take (i+1)).filter (λx=>!p x):=by
 obtain⟨hi,hp,hlt⟩:=Yf.1 h;refine⟨hi,?_⟩;rw[dh hi,YV]
 have h1:(xs.take i).filter (λx=>!p x)=xs.take i:=Yo.2 λx hx=>by
  obtain⟨j,hj,rfl⟩:=XC.1 hx
  have hj':j<i:=by simp at hj;omega
  rw[List.getElem_take];have:=hlt j hj';simpa using this
 rw[h1];simp[hp]
theorem tL {α:Type} {ys:List α} {i n:Nat} (z:α) (hi:i<=n) (hy:ys.length=n):((ys.take i++List.replicate (n-i) z++ys.drop (i+(n-i))).take (i-0))=ys.take i/\(ys.take i++List.replicate (n-i) z++ys.drop (i+(n-i))).length=n:=by
 refine⟨?_,by simp;omega⟩;rw[XP,Xh,Yp (by simp;omega),List.take_take,Nat.min_self]
theorem B6 {k:Nat} {zs:List dY} {id:Int} (hk:zs.length<k) (hN:zs.length<=aO):c7 k zs id=some ((zs.findIdx? λz=>z.id==id).elim (-1) λi=>(i:Int)):=by
 have hM:=ak;unfold c7
 rw[er zs (λt=>t.id==id) (yes:=some (-1)) (no:=some) (λi hi next=>by
  simp only[cy,fF,decide_true,cond_true,aa]
  rw[ab,if_pos (by omega),aL,ai hi,aa,ar hi (by omega)]) (λnext=>by
  simp only[cy,decide_true,cond_true];rw[ab,if_neg (by omega)]) hk]
 exact cI _
theorem rj {k:Nat} {zs:List dY} {id:Int} (hk:zs.length<k) (hN:zs.length<=aO):bJ k zs id=some (zs.filter λz=>!(z.id==id)):=by
  have hM:=ak;unfold bJ;rw[B6 hk hN,aa]
  cases hf:zs.findIdx? λz=>z.id==id with
  | none =>
    rw[XM,filter_none hf]
    simp
  | some i =>
    obtain⟨hi,hfi⟩:=oz hf;rw[W8,dF,if_neg (by omega),ar hi (by omega)];simp only[decide_true,cond_true]
    obtain⟨i',ys',h1,h2,h3,h4⟩:=kt zs (λz=>z.id==id) (R:=List dY) (g:=λu5 n5=>bw k id u5 n5 (λy4=>cond (decide (0<=y4.1/\y4.1<=(y4.2.length:Int))) (cond (decide (0<=y4.1/\y4.1<=(((y4.2).take y4.1.toNat++List.replicate (y4.2.length-y4.1.toNat) (⟨(0:Int),(0:Nat),(0:Int),(0:Int),(0:Int)⟩:dY)++(y4.2).drop (y4.1.toNat+(y4.2.length-y4.1.toNat))).length:Int))) (some (((y4.2).take y4.1.toNat++List.replicate (y4.2.length-y4.1.toNat) (⟨(0:Int),(0:Nat),(0:Int),(0:Int),(0:Int)⟩:dY)++(y4.2).drop (y4.1.toNat+(y4.2.length-y4.1.toNat))).take (y4.1.toNat-0))) none) none))
      (fin:=λy4=>cond (decide (0<=y4.1/\y4.1<=(y4.2.length:Int))) (cond (decide (0<=y4.1/\y4.1<=(((y4.2).take y4.1.toNat++List.replicate (y4.2.length-y4.1.toNat) (⟨(0:Int),(0:Nat),(0:Int),(0:Int),(0:Int)⟩:dY)++(y4.2).drop (y4.1.toNat+(y4.2.length-y4.1.toNat))).length:Int))) (some (((y4.2).take y4.1.toNat++List.replicate (y4.2.length-y4.1.toNat) (⟨(0:Int),(0:Nat),(0:Int),(0:Int),(0:Int)⟩:dY)++(y4.2).drop (y4.1.toNat+(y4.2.length-y4.1.toNat))).take (y4.1.toNat-0))) none) none)
      (λi j ys hj next hij hl hg=>by
        simp only[bw,fF,decide_true,cond_true,aa,hl]
        rw[ab,if_pos (by omega),ab,if_pos (by omega),W4,hg,aa,cond_not,ab,if_pos (by omega),ar hj (by omega),ar (show i<zs.length by omega) (by omega),W4])
      (λi ys next hl=>by simp only[bw,hl];rw[ab,if_neg (by omega)])
      (zs.length-(i+1)) i (i+1) zs k (by omega) (by omega) (by omega) rfl rfl hfi
    refine h4.trans ?_;obtain⟨c1,c2⟩:=tL (⟨0,0,0,0,0⟩:dY) h1 h2;simp only[W4,h2];rw[c2,c1,ab,if_pos (by omega),ab,if_pos (by omega),h3]
theorem zi {k:Nat} {zs:List dY} {a b c d e f g id:Int} (hk:zs.length<k) (hN:zs.length<=aO):gx k a b c zs d e f g id=some (zs.filter λz=>!(z.id==id)):=by
 have hM:=ak;unfold gx;simp only[decide_true,cond_true]
 refine(qT zs (λz=>!(z.id==id)) (λz=>z) (g:=λu4 n4=>iu k (id,a,b,c,d,e,f,g,zs) u4 n4 (λy3=>some y3)) (fin:=some) (λi ys hi next hl=>by
  simp only[iu];rw[ab,if_pos (by omega),ab,if_pos (by omega),W4,ai hi,aa,ab,if_pos (by omega),aa,bO (by simp;omega),ar hi (by omega)]
  rfl) (λys next=>by
  simp only[iu];rw[ab,if_neg (by omega)]) hk).trans ?_
 simp
def Nb (ts:List Task) (id:Int):List Task:=ts.filter λt=>!(t.id==id)
def sE (s:al) (id:Int):al× Bool:=
 cond (bE s&&decide (0<=lr s.tasks id)) (⟨s.now,s.aj,s.age,Nb s.tasks id,cond (s.run==id) 0 s.run,cond (s.run==id) 0 s.left,s.turns,s.next⟩,true) (s,false)
theorem MS {k:Nat} {zs:List dY} {a b c d e f g id:Int} (hk:zs.length<k) (hN:zs.length<=aO):dR k a b c zs d e f g id=some (zs.filter λz=>!(z.id==id),cond (d==id) 0 d,cond (d==id) 0 e):=by
 unfold dR;rw[rj hk hN,aa];simp only[decide_true,cond_true];cases d==id<;>rfl
theorem sF {k:Nat} {s:al} {id:Int} (hk:s.tot<k) (hN:s.tot<=aO):k8 k s id=some (sE s id):=by
 have hlen:=bu Task.tot s.tasks;have hst:s.tot=gp Task.tot s.tasks+0:=rfl;unfold k8 sE;rw[sC hk hN,aa,ek hk hN,aa];cases bE s
 ·rfl
 simp only[Xa,cond_false,Xf];rw[mx (by omega) (by omega),aa];by_cases c:lr s.tasks id<0
 ·rw[decide_eq_true c,decide_eq_false (by omega)];rfl
 rw[decide_eq_false c,decide_eq_true (by omega)];simp only[cond_false,cond_true];rw[tK,aa,zi (by rw[eT];omega) (by rw[eT];omega),aa,ow,cond_true,qU s.tasks (λt=>!(t.id==id)) (λz=>!(z.id==id)) (λn t=>rfl),aa];unfold Nb;cases s.run==id<;>rfl
end
section
def HY (key:Task->Int):List Task->Option Task
 |[]=>none
 |x::xs=>some (xs.foldl (λm t=>cond (decide (key t<key m)) t m) x)
theorem uk (k:Nat) (a b:Int):dK k a b=some (cond (decide (a<b)) (-1) (cond (decide (a>b)) 1 0)):=by
 unfold dK qB;grind
theorem HZ {k:Nat} {a b:Int} (hk:3<k):tn k [a,b]=some (cond (a !=0) a b):=by
 obtain⟨k,rfl⟩:∃k',k=k'+3:=⟨k-3,by omega⟩;unfold tn;show cond (a !=0) (some a) (iter (λu4 n4=>qC (k+3) ((0:Int),[a,b],(([a,b]:List Int).length:Int)) u4 n4 (λy2=>some (0:Int)) (λy3=>some y3)) (k+2) (i64.wrap (0+1)))=_;cases h:a !=0
 ·rw[aF (n:=0+1) (by omega) (by omega)];show cond (b !=0) (some b) (iter (λu4 n4=>qC (k+3) ((0:Int),[a,b],(([a,b]:List Int).length:Int)) u4 n4 (λy2=>some (0:Int)) (λy3=>some y3)) (k+1) (i64.wrap (1+1)))=_;cases hb:b !=0
  ·have:b=0:=by simpa using hb
   subst this;rw[aF (n:=1+1) (by omega) (by omega)];rfl
  ·rfl
 ·rfl
theorem Lc {a b i j:Int} (h:j<i):decide (cond (cond (decide (a<b)) (-1) (cond (decide (a>b)) 1 0) !=(0:Int)) (cond (decide (a<b)) (-1) (cond (decide (a>b)) 1 0)) (cond (decide (i<j)) (-1) (cond (decide (i>j)) 1 0))<(0:Int))=decide (a<b):=by
 grind
theorem Aa (key:Task->Int):∀(xs:List Task) (x:Task),xs.foldl (λm t=>cond (decide (key t<key m)) t m) x∈x::xs
 |[],x=>by simp
 |y::xs,x=>by
  rw[YX];have:=Aa key xs (cond (decide (key y<key x)) y x);grind
theorem Py {x:Task} {xs:List Task} (hp:(x::xs).Pairwise λa b=>a.id<b.id) {i:Nat} (hi:i<xs.length) {m:Task} (hm:m∈x::xs.take i):m.id<xs[i].id:=by
 rw[Zl]at hp
 rcases Xm.1 hm with rfl|hm
 ·grind
 ·obtain⟨j,hj,rfl⟩:=XC.1 hm
  have hj':j<i:=by simp at hj;omega
  rw[List.getElem_take];exact(List.pairwise_iff_getElem.1 hp.2) j i (by omega) hi hj'
theorem H3 {k:Nat} {x:Task} {xs:List Task} (hk:xs.length+2<k) (hN:xs.length<aO) (hp:(x::xs).Pairwise λa b=>a.id<b.id):dz k (x::xs)=some (xs.foldl (λm t=>cond (decide (Task.born t<Task.born m)) t m) x):=by
 have hM:=ak;unfold dz;rw[ab,if_neg (by simp;omega),zO,ai (by simp),aa]
 have:=ff (g:=λu6 n6=>bQ k (x::xs,(0:Int),(0:Int),(0:Int),(0:Int)) u6 n6 (λy5=>some (⟨y5.1,y5.2.1,y5.2.2.1,y5.2.2.2.1,y5.2.2.2.2⟩:Task)))
  (st:=λi=>let m:=(xs.take i).foldl (λm t=>cond (decide (Task.born t<Task.born m)) t m) x;(((i+1:Nat):Int),m.id,m.ax,m.at_,m.due,m.born)) (n:=xs.length) (r:=some (xs.foldl (λm t=>cond (decide (Task.born t<Task.born m)) t m) x)) (λi hi next=>by
  have QW:=Aa Task.born (xs.take i) x;have hlt:=Py hp hi QW;rw[dh hi,X3];generalize (xs.take i).foldl (λm t=>cond (decide (Task.born t<Task.born m)) t m) x=m at hlt;simp only[bQ,nT,mT,aa,uk,HZ (show 3<k by omega)];rw[ab,if_pos (by simp;omega),aL,YO,ai hi,aa,aa,aF (by omega) (by omega),Lc hlt];simp only[YX,List.foldl_nil]
  cases decide (Task.born xs[i]<Task.born m)<;>rfl) (λnext=>by
  rw[XO];simp only[bQ]
  rw[ab,if_neg (by simp)]) (k:=k) (by omega)
 exact this
theorem FV {k:Nat} {x:Task} {xs:List Task} (hk:xs.length+2<k) (hN:xs.length<aO) (hp:(x::xs).Pairwise λa b=>a.id<b.id):dp k (x::xs)=some (xs.foldl (λm t=>cond (decide (Task.due t<Task.due m)) t m) x):=by
 have hM:=ak;unfold dp;rw[ab,if_neg (by simp;omega),zO,ai (by simp),aa]
 have:=ff (g:=λu6 n6=>bK k (x::xs,(0:Int),(0:Int),(0:Int),(0:Int)) u6 n6 (λy5=>some (⟨y5.1,y5.2.1,y5.2.2.1,y5.2.2.2.1,y5.2.2.2.2⟩:Task)))
  (st:=λi=>let m:=(xs.take i).foldl (λm t=>cond (decide (Task.due t<Task.due m)) t m) x;(((i+1:Nat):Int),m.id,m.ax,m.at_,m.due,m.born)) (n:=xs.length) (r:=some (xs.foldl (λm t=>cond (decide (Task.due t<Task.due m)) t m) x)) (λi hi next=>by
  have QW:=Aa Task.due (xs.take i) x;have hlt:=Py hp hi QW;rw[dh hi,X3];generalize (xs.take i).foldl (λm t=>cond (decide (Task.due t<Task.due m)) t m) x=m at hlt;simp only[bK,mX,mW,aa,uk,HZ (show 3<k by omega)];rw[ab,if_pos (by simp;omega),aL,YO,ai hi,aa,aa,aF (by omega) (by omega),Lc hlt];simp only[YX,List.foldl_nil]
  cases decide (Task.due xs[i]<Task.due m)<;>rfl) (λnext=>by
  rw[XO];simp only[bK]
  rw[ab,if_neg (by simp)]) (k:=k) (by omega)
 exact this
theorem B7 {k:Nat} {xs:List Task} {s:al} (hk:xs.length<k) (hN:xs.length<=aO):c9 k xs s=some ((xs.findIdx? λt=>!eY s t).elim (-1) λi=>(i:Int)):=by
 have hM:=ak;unfold c9;simp only[decide_true,cond_true]
 rw[er xs (λt=>!eY s t) (yes:=some (-1)) (no:=some) (λi hi next=>by
  simp only[cz,nS,dG,decide_true,cond_true,aa];rw[ab,if_pos (by omega),ab,if_pos (by omega),W4,ai hi,aa,ar hi (by omega)]
  rfl) (λnext=>by
  simp only[cz,decide_true,cond_true];rw[ab,if_neg (by omega)]) hk]
 exact cI _
theorem zD {k:Nat} {xs:List Task} {s:al} (hk:xs.length<k) (hN:xs.length<=aO):cR k xs s=some (xs.filter λt=>!(!eY s t)):=by
  have hM:=ak;unfold cR;rw[B7 hk hN,aa]
  cases hf:xs.findIdx? λt=>!eY s t with
  | none =>
    rw[XM,filter_none hf]
    simp
  | some i =>
    obtain⟨hi,hfi⟩:=oz hf;rw[W8,dF,if_neg (by omega),ar hi (by omega)];simp only[decide_true,cond_true]
    obtain⟨i',ys',h1,h2,h3,h4⟩:=kt xs (λt=>!eY s t) (R:=List Task) (g:=λu5 n5=>bz k (s.now,s.aj,s.age,s.tasks,s.run,s.left,s.turns,s.next) u5 n5 (λy4=>cond (decide (0<=y4.1/\y4.1<=(y4.2.length:Int))) (cond (decide (0<=y4.1/\y4.1<=(((y4.2).take y4.1.toNat++List.replicate (y4.2.length-y4.1.toNat) (⟨(0:Int),([]:List Int),(0:Int),(0:Int),(0:Int)⟩:Task)++(y4.2).drop (y4.1.toNat+(y4.2.length-y4.1.toNat))).length:Int))) (some (((y4.2).take y4.1.toNat++List.replicate (y4.2.length-y4.1.toNat) (⟨(0:Int),([]:List Int),(0:Int),(0:Int),(0:Int)⟩:Task)++(y4.2).drop (y4.1.toNat+(y4.2.length-y4.1.toNat))).take (y4.1.toNat-0))) none) none))
      (fin:=λy4=>cond (decide (0<=y4.1/\y4.1<=(y4.2.length:Int))) (cond (decide (0<=y4.1/\y4.1<=(((y4.2).take y4.1.toNat++List.replicate (y4.2.length-y4.1.toNat) (⟨(0:Int),([]:List Int),(0:Int),(0:Int),(0:Int)⟩:Task)++(y4.2).drop (y4.1.toNat+(y4.2.length-y4.1.toNat))).length:Int))) (some (((y4.2).take y4.1.toNat++List.replicate (y4.2.length-y4.1.toNat) (⟨(0:Int),([]:List Int),(0:Int),(0:Int),(0:Int)⟩:Task)++(y4.2).drop (y4.1.toNat+(y4.2.length-y4.1.toNat))).take (y4.1.toNat-0))) none) none)
      (λi j ys hj next hij hl hg=>by
        simp only[bz,mS,dG,decide_true,cond_true,aa,hl];rw[ab,if_pos (by omega),ab,if_pos (by omega),W4,hg,aa,cond_not,ab,if_pos (by omega),ar hj (by omega),ar (show i<xs.length by omega) (by omega),W4]
        rfl)
      (λi ys next hl=>by simp only[bz,hl];rw[ab,if_neg (by omega)])
      (xs.length-(i+1)) i (i+1) xs k (by omega) (by omega) (by omega) rfl rfl hfi
    refine h4.trans ?_;obtain⟨c1,c2⟩:=tL ((⟨(0:Int),([]:List Int),(0:Int),(0:Int),(0:Int)⟩:Task)) h1 h2;grind
theorem B8 {k:Nat} {xs:List Task} {s:al} (hk:xs.length<k) (hN:xs.length<=aO):da k xs s=some ((xs.findIdx? λt=>!(!eY s t)).elim (-1) λi=>(i:Int)):=by
 have hM:=ak;unfold da;simp only[decide_true,cond_true]
 rw[er xs (λt=>!(!eY s t)) (yes:=some (-1)) (no:=some) (λi hi next=>by
  simp only[cC,mV,fG,gV,dG,decide_true,cond_true,aa];rw[ab,if_pos (by omega),ab,if_pos (by omega),W4,ai hi,aa,ar hi (by omega)]
  rfl) (λnext=>by
  simp only[cC,decide_true,cond_true];rw[ab,if_neg (by omega)]) hk]
 exact cI _
theorem zE {k:Nat} {xs:List Task} {s:al} (hk:xs.length<k) (hN:xs.length<=aO):cS k xs s=some (xs.filter λt=>!(!(!eY s t))):=by
  have hM:=ak;unfold cS;rw[B8 hk hN,aa]
  cases hf:xs.findIdx? λt=>!(!eY s t)with
  | none =>
    rw[XM,filter_none hf]
    simp
  | some i =>
    obtain⟨hi,hfi⟩:=oz hf;rw[W8,dF,if_neg (by omega),ar hi (by omega)];simp only[decide_true,cond_true]
    obtain⟨i',ys',h1,h2,h3,h4⟩:=kt xs (λt=>!(!eY s t)) (R:=List Task) (g:=λu5 n5=>bA k (s.now,s.aj,s.age,s.tasks,s.run,s.left,s.turns,s.next) u5 n5 (λy4=>cond (decide (0<=y4.1/\y4.1<=(y4.2.length:Int))) (cond (decide (0<=y4.1/\y4.1<=(((y4.2).take y4.1.toNat++List.replicate (y4.2.length-y4.1.toNat) (⟨(0:Int),([]:List Int),(0:Int),(0:Int),(0:Int)⟩:Task)++(y4.2).drop (y4.1.toNat+(y4.2.length-y4.1.toNat))).length:Int))) (some (((y4.2).take y4.1.toNat++List.replicate (y4.2.length-y4.1.toNat) (⟨(0:Int),([]:List Int),(0:Int),(0:Int),(0:Int)⟩:Task)++(y4.2).drop (y4.1.toNat+(y4.2.length-y4.1.toNat))).take (y4.1.toNat-0))) none) none))
      (fin:=λy4=>cond (decide (0<=y4.1/\y4.1<=(y4.2.length:Int))) (cond (decide (0<=y4.1/\y4.1<=(((y4.2).take y4.1.toNat++List.replicate (y4.2.length-y4.1.toNat) (⟨(0:Int),([]:List Int),(0:Int),(0:Int),(0:Int)⟩:Task)++(y4.2).drop (y4.1.toNat+(y4.2.length-y4.1.toNat))).length:Int))) (some (((y4.2).take y4.1.toNat++List.replicate (y4.2.length-y4.1.toNat) (⟨(0:Int),([]:List Int),(0:Int),(0:Int),(0:Int)⟩:Task)++(y4.2).drop (y4.1.toNat+(y4.2.length-y4.1.toNat))).take (y4.1.toNat-0))) none) none)
      (λi j ys hj next hij hl hg=>by
        simp only[bA,fG,fG,gV,dG,decide_true,cond_true,aa,hl];rw[ab,if_pos (by omega),ab,if_pos (by omega),W4,hg,aa,cond_not,ab,if_pos (by omega),ar hj (by omega),ar (show i<xs.length by omega) (by omega),W4]
        rfl)
      (λi ys next hl=>by simp only[bA,hl];rw[ab,if_neg (by omega)])
      (xs.length-(i+1)) i (i+1) xs k (by omega) (by omega) (by omega) rfl rfl hfi
    refine h4.trans ?_;obtain⟨c1,c2⟩:=tL ((⟨(0:Int),([]:List Int),(0:Int),(0:Int),(0:Int)⟩:Task)) h1 h2;grind
theorem uo {k:Nat} {xs:List Task} (hx:xs.length<=aO):di k xs=some xs:=by
 unfold di;rw[bO (by simpa using hx)]
 cases xs with
 |nil=>simp only[isNil,cond_true,Xo];exact wi _
 |cons x l=>rfl
theorem FW {s:al} (h:ia s=true):s.tasks.Pairwise λa b=>a.id<b.id:=by
 rw[List.pairwise_iff_getElem];intro i j hi hj hij;obtain⟨d,rfl⟩:∃d,j=i+d+1:=⟨j-i-1,by omega⟩;exact K9 h d i hj
def CO (s:al):Option Task:=HY Task.born (s.tasks.filter (eY s))
def rk (s:al):Option Task:=HY Task.due (s.tasks.filter λt=>!eY s t)
theorem MT {k:Nat} {s:al} (hk:s.tot+2<k) (hN:s.tot<aO) (h:ia s=true):mU k s s=some ((CO s).elim 0 Task.id):=by
 have hM:=ak;have hlen:=bu Task.tot s.tasks;have hst:s.tot=gp Task.tot s.tasks+0:=rfl;have hf:=YW (eY s) s.tasks;unfold mU CO;rw[uo (by omega),aa,zD (by omega) (by omega),aa];simp only[Zt]
 cases hq:s.tasks.filter (eY s)with
 |nil=>rfl
 |cons x xs=>
  rw[hq]at hf;have hp:=(FW h).filter (eY s);rw[hq]at hp;rw[dF,if_neg (by simp;omega),H3 (by simp at hf;omega) (by simp at hf;omega) hp,aa];rfl
theorem J1 {k:Nat} {s:al} (hk:s.tot+2<k) (hN:s.tot<aO) (h:ia s=true):lH k s s=some ((rk s).elim 0 Task.id):=by
 have hM:=ak;have hlen:=bu Task.tot s.tasks;have hst:s.tot=gp Task.tot s.tasks+0:=rfl;have hf:=YW (λt=>!eY s t) s.tasks;unfold lH rk;rw[uo (by omega),aa,zE (by omega) (by omega),aa];simp only[Zt,decide_true,cond_true]
 cases hq:s.tasks.filter λt=>!eY s t with
 |nil=>rfl
 |cons x xs=>
  rw[hq]at hf;have hp:=(FW h).filter λt=>!eY s t;rw[hq]at hp;rw[dF,if_neg (by simp;omega),FV (by simp at hf;omega) (by simp at hf;omega) hp,aa];rfl
def lu (s:al):Int:=
 cond ((CO s).isSome&&(!(rk s).isSome||(decide (s.age>0)&&(s.turns.tmod s.age==0)))) ((CO s).elim 0 Task.id) ((rk s).elim 0 Task.id)
theorem pQ {key:Task->Int} {xs:List Task} {t:Task} (h:HY key xs=some t):t∈xs:=by
 cases xs with
 |nil=>exact nomatch h
 |cons x xs=>
  simp only[HY,It]at h;rw[<-h];exact Aa key xs x
theorem Pz {s:al} (h:ia s=true) {t:Task} (ht:CO s=some t):1<=t.id:=by
 have:=(X1.1 (pQ ht)).1;obtain⟨i,hi,rfl⟩:=XC.1 this;exact(bT (bX h hi).1).1.1
theorem FX {s:al} (h:ia s=true) {t:Task} (ht:rk s=some t):1<=t.id:=by
 have:=(X1.1 (pQ ht)).1;obtain⟨i,hi,rfl⟩:=XC.1 this;exact(bT (bX h hi).1).1.1
theorem PA {k:Nat} {s:al} (hk:s.tot+2<k) (hN:s.tot<aO) (h:ia s=true):nU k s=some (lu s):=by
 unfold nU lu;rw[MT hk hN h,aa,J1 hk hN h,aa]
 have hage:∀X:Option Int,(cond (decide (s.age>0)) (cond (decide (s.age=0)) none X) X)=X:=λX=>by
  grind
 cases hl:CO s with
 |none=>
  grind
 |some l=>
  have h1:=Pz h hl
  cases he:rk s with
  |none=>
   grind
  |some e=>
   have h2:=FX h he;grind
def better (key:Task->Int) (m:Option Task) (t:Task):Option Task:=m.elim (some t) λu=>cond (decide (key t<key u)) (some t) (some u)
theorem B9 (key:Task->Int):∀(xs:List Task) (m:Task),xs.foldl (better key) (some m)=some (xs.foldl (λm t=>cond (decide (key t<key m)) t m) m)
 |[],m=>rfl
 |x::xs,m=>by
  rw[YX,YX,<-B9 key xs]
  congr 1
  show cond (decide (key x<key m)) (some x) (some m)=_;grind
theorem MU (key:Task->Int) (xs:List Task):xs.foldl (better key) none=HY key xs:=by
 cases xs with
 |nil=>rfl
 |cons x xs=>exact B9 key xs x
def AtT (ts:List Task) (l:Int) (m:Option Task):Prop:=(m=none/\l=-1)\/∃(j:Nat) (hj:j<ts.length),l=(j:Int)/\m=some ts[j]
theorem H4 {R:Type} {k:Nat} {s:al} {fin:Int× Int->Option R} (hN:s.tasks.length<=aO):∀(d i:Nat) (l e:Int) (ml me:Option Task) (kf:Nat),i+d=s.tasks.length->d<kf->AtT s.tasks l ml->AtT s.tasks e me->
  ∃l' e',AtT s.tasks l' (((s.tasks.drop i).filter (eY s)).foldl (better Task.born) ml)/\AtT s.tasks e' (((s.tasks.drop i).filter λt=>!eY s t).foldl (better Task.due) me)/\
   iter (λu11 n11=>eS k (s.now,s.aj,s.age,s.tasks,s.run,s.left,s.turns,s.next) u11 n11 fin) kf (l,e,(i:Int))=fin (l',e')
 |d,i,l,e,ml,me,0,_,h,_,_=>by omega
 |0,i,l,e,ml,me,kf+1,hi,_,hl,he=>by
  have:i=s.tasks.length:=by omega
  subst this;refine⟨l,e,by simpa using hl,by simpa using he,?_⟩;rw[aS];simp only[eS]
  grind
 |d+1,i,l,e,ml,me,kf+1,hi,h,hl,he=>by
  have hM:=ak
  have hlt:i<s.tasks.length:=by omega
  have Rk:AtT s.tasks (i:Int) (some s.tasks[i]):=.inr ⟨i,hlt,rfl,rfl⟩
  have vp:∀(l2 e2:Int) (ml2 me2:Option Task),AtT s.tasks l2 ml2->AtT s.tasks e2 me2->ml2=cond (eY s s.tasks[i]) (better Task.born ml s.tasks[i]) ml->me2=cond (eY s s.tasks[i]) me (better Task.due me s.tasks[i])->
    (∀next:Int× Int× Int->Option R,eS k (s.now,s.aj,s.age,s.tasks,s.run,s.left,s.turns,s.next) (l,e,(i:Int)) next fin=next (l2,e2,((i+1:Nat):Int)))->
    ∃l' e',AtT s.tasks l' (((s.tasks.drop i).filter (eY s)).foldl (better Task.born) ml)/\AtT s.tasks e' (((s.tasks.drop i).filter λt=>!eY s t).foldl (better Task.due) me)/\
     iter (λu11 n11=>eS k (s.now,s.aj,s.age,s.tasks,s.run,s.left,s.turns,s.next) u11 n11 fin) (kf+1) (l,e,(i:Int))=fin (l',e'):=λl2 e2 ml2 me2 h1 h2 e1 e2' hg=>by
   obtain⟨l',e',g1,g2,g3⟩:=H4 (k:=k) (fin:=fin) hN d (i+1) l2 e2 ml2 me2 kf (by omega) (by omega) h1 h2;refine⟨l',e',?_,?_,?_⟩
   ·rw[jx hlt,YH];grind
   ·rw[jx hlt,YH];grind
   ·rw[aS,hg];exact g3
  have e0:∀next:Int× Int× Int->Option R,eS k (s.now,s.aj,s.age,s.tasks,s.run,s.left,s.turns,s.next) (l,e,(i:Int)) next fin=
    cond (eY s s.tasks[i]) (cond (decide (l<(0:Int))) (next ((i:Int),e,((i+1:Nat):Int))) ((idx s.tasks l).bind λe3=>cond (decide (s.tasks[i].born<e3.born)) (next ((i:Int),e,((i+1:Nat):Int))) (next (l,e,((i+1:Nat):Int)))))
     (cond (decide (e<(0:Int))) (next (l,(i:Int),((i+1:Nat):Int))) ((idx s.tasks e).bind λe4=>cond (decide (s.tasks[i].due<e4.due)) (next (l,(i:Int),((i+1:Nat):Int))) (next (l,e,((i+1:Nat):Int))))):=λnext=>by
   simp only[eS];rw[ab,if_pos (by omega),aL,ai hlt,aa,ar hlt (by omega)];rfl
  cases hb:eY s s.tasks[i]
  ·rcases he with⟨rfl,rfl⟩|⟨j,hj,rfl,rfl⟩
   ·exact vp l (i:Int) ml (some s.tasks[i]) hl Rk (by rw[hb];rfl) (by rw[hb];rfl) λnext=>by rw[e0,hb];rfl
   ·by_cases c:s.tasks[i].due<s.tasks[j].due
    ·exact vp l (i:Int) ml (some s.tasks[i]) hl Rk (by rw[hb];rfl) (by rw[hb];show _=cond (decide (s.tasks[i].due<s.tasks[j].due)) _ _;rw[decide_eq_true c];rfl) λnext=>by
      rw[e0,hb,cond_false,ab,if_neg (by omega),aL,ai hj,aa,decide_eq_true c];rfl
    ·exact vp l (j:Int) ml (some s.tasks[j]) hl (.inr ⟨j,hj,rfl,rfl⟩) (by rw[hb];rfl) (by rw[hb];show _=cond (decide (s.tasks[i].due<s.tasks[j].due)) _ _;rw[decide_eq_false c];rfl) λnext=>by
      rw[e0,hb,cond_false,ab,if_neg (by omega),aL,ai hj,aa,decide_eq_false c];rfl
  ·rcases hl with⟨rfl,rfl⟩|⟨j,hj,rfl,rfl⟩
   ·exact vp (i:Int) e (some s.tasks[i]) me Rk he (by rw[hb];rfl) (by rw[hb];rfl) λnext=>by rw[e0,hb];rfl
   ·by_cases c:s.tasks[i].born<s.tasks[j].born
    ·exact vp (i:Int) e (some s.tasks[i]) me Rk he (by rw[hb];show _=cond (decide (s.tasks[i].born<s.tasks[j].born)) _ _;rw[decide_eq_true c];rfl) (by rw[hb];rfl) λnext=>by
      rw[e0,hb,cond_true,ab,if_neg (by omega),aL,ai hj,aa,decide_eq_true c];rfl
    ·exact vp (j:Int) e (some s.tasks[j]) me (.inr ⟨j,hj,rfl,rfl⟩) he (by rw[hb];show _=cond (decide (s.tasks[i].born<s.tasks[j].born)) _ _;rw[decide_eq_false c];rfl) (by rw[hb];rfl) λnext=>by
      rw[e0,hb,cond_true,ab,if_neg (by omega),aL,ai hj,aa,decide_eq_false c];rfl
theorem FY {k:Nat} {s:al} (hk:s.tot<k) (hN:s.tot<=aO) (h:bE s=true):tl k s=some (lu s):=by
 have hM:=ak;have hs:=br h;have hlen:=bu Task.tot s.tasks;have hst:s.tot=gp Task.tot s.tasks+0:=rfl;unfold tl;rw[ek hk hN,aa,h];simp only[Xa,cond_false];obtain⟨l,e,hl,he,hi⟩:=H4 (R:=Int) (k:=k) (s:=s) (fin:=λy5=>cond (decide (y5.1>=(0:Int))) (cond (decide (y5.2<(0:Int))) ((idx s.tasks y5.1).bind λe6=>some e6.id) (cond (decide (s.age>(0:Int))) (cond (decide (s.age=0)) none (cond ((s.turns.tmod s.age)==(0:Int)) ((idx s.tasks y5.1).bind λe7=>some e7.id) (cond (decide (y5.2>=(0:Int))) ((idx s.tasks y5.2).bind λe8=>some e8.id) (some (0:Int))))) (cond (decide (y5.2>=(0:Int))) ((idx s.tasks y5.2).bind λe9=>some e9.id) (some (0:Int))))) (cond (decide (y5.2>=(0:Int))) ((idx s.tasks y5.2).bind λe10=>some e10.id) (some (0:Int)))) (by omega) s.tasks.length 0 (-1) (-1) none none k (by omega) (by omega) (.inl ⟨rfl,rfl⟩) (.inl ⟨rfl,rfl⟩);refine hi.trans ?_;rw[Y2,MU]at hl he;unfold lu;have el:CO s=HY Task.born (s.tasks.filter (eY s)):=rfl;have ee:rk s=HY Task.due (s.tasks.filter λt=>!eY s t):=rfl;rw[<-el]at hl;rw[<-ee]at he
 rcases hl with⟨hl,rfl⟩|⟨j,hj,rfl,hl⟩
 ·rcases he with⟨he,rfl⟩|⟨j2,hj2,rfl,he⟩
  ·grind
  ·rw[hl,he];simp only[YF,X4,cond_false,W8];rw[decide_eq_false (show¬((-1:Int)>=0) by omega),decide_eq_true (show((j2:Int)>=0) by omega),aL,ai hj2];rfl
 ·rcases he with⟨he,rfl⟩|⟨j2,hj2,rfl,he⟩
  ·rw[hl,he];rw[decide_eq_true (show((j:Int)>=0) by omega),aL,ai hj];rfl
  ·rw[hl,he];simp only[Zm,Xa,Bool.false_or,Xf,W8];rw[decide_eq_true (show((j:Int)>=0) by omega),decide_eq_false (show¬((j2:Int)<0) by omega),decide_eq_true (show((j2:Int)>=0) by omega),aL,ai hj,aL,ai hj2];grind
def wK (s:al) (run left turns:Int):al× Int× Bool:=
  cond (decide (left-1>0)) (⟨s.now+1,s.aj,s.age,s.tasks,run,left-1,turns,s.next⟩,0,false)
    ((s.tasks.findIdx? λt=>t.id==run).elim (s,0,false) λi=>(s.tasks[i]?).elim (s,0,false) λt=>
      cond (decide (t.at_+1<t.ax.length)) (⟨s.now+1,s.aj,s.age,s.tasks.set i ⟨t.id,t.ax,t.at_+1,t.due,t.born⟩,0,left-1,turns,s.next⟩,run,false)
        (⟨s.now+1,s.aj,s.age,Nb (s.tasks.set i ⟨t.id,t.ax,t.at_+1,t.due,t.born⟩) run,0,left-1,turns,s.next⟩,run,true))
theorem Ca {k:Nat} {s:al} {run left turns:Int} (hk:s.tot<k) (hN:s.tot<=aO) (h:bE s=true) (hl:1<=left/\left<=1000) {i:Nat} (hf:(s.tasks.findIdx? λt=>t.id==run)=some i):
  (cond (decide ((i64.wrap (left-(1:Int)))>(0:Int))) (some ((⟨(i64.wrap (s.now+(1:Int))),s.aj,s.age,s.tasks,run,(i64.wrap (left-(1:Int))),turns,s.next⟩:al),(0:Int),false)) ((lF k (⟨(i64.wrap (s.now+(1:Int))),s.aj,s.age,s.tasks,run,(i64.wrap (left-(1:Int))),turns,s.next⟩:al) run).bind λr23=>cond (decide (0<=r23/\r23<(s.tasks.length:Int))) ((s.tasks[r23.toNat]?).bind λe24=>cond (decide (0<=r23/\r23<(s.tasks.length:Int))) ((s.tasks[r23.toNat]?).bind λe25=>cond (decide (0<=r23/\r23<((s.tasks.set r23.toNat (⟨e25.id,e25.ax,(i64.wrap (e24.at_+(1:Int))),e25.due,e25.born⟩:Task)).length:Int))) (((s.tasks.set r23.toNat (⟨e25.id,e25.ax,(i64.wrap (e24.at_+(1:Int))),e25.due,e25.born⟩:Task))[r23.toNat]?).bind λe26=>cond (decide (0<=r23/\r23<((s.tasks.set r23.toNat (⟨e25.id,e25.ax,(i64.wrap (e24.at_+(1:Int))),e25.due,e25.born⟩:Task)).length:Int))) (((s.tasks.set r23.toNat (⟨e25.id,e25.ax,(i64.wrap (e24.at_+(1:Int))),e25.due,e25.born⟩:Task))[r23.toNat]?).bind λe27=>cond (decide (e26.at_<(e27.ax.length:Int))) (some ((⟨(i64.wrap (s.now+(1:Int))),s.aj,s.age,(s.tasks.set r23.toNat (⟨e25.id,e25.ax,(i64.wrap (e24.at_+(1:Int))),e25.due,e25.born⟩:Task)),(0:Int),(i64.wrap (left-(1:Int))),turns,s.next⟩:al),run,false)) ((lE (s.tasks.set r23.toNat (⟨e25.id,e25.ax,(i64.wrap (e24.at_+(1:Int))),e25.due,e25.born⟩:Task))).bind λy28=>(gx k (i64.wrap (s.now+(1:Int))) s.aj s.age y28 (0:Int) (i64.wrap (left-(1:Int))) turns s.next run).bind λr29=>cond (j8 r29) ((rf (s.tasks.set r23.toNat (⟨e25.id,e25.ax,(i64.wrap (e24.at_+(1:Int))),e25.due,e25.born⟩:Task)) r29).bind λz30=>some ((⟨(i64.wrap (s.now+(1:Int))),s.aj,s.age,z30,(0:Int),(i64.wrap (left-(1:Int))),turns,s.next⟩:al),run,true)) none)) none) none) none) none))=some (wK s run left turns):=by
 have hM:=ak;have hs:=br h;have hlen:=bu Task.tot s.tasks;have hst:s.tot=gp Task.tot s.tasks+0:=rfl;obtain⟨hi,hid⟩:=sB hf;have ht:=bT (bX hs.2.2.2.2.2.2.1 hi).1;unfold wK;rw[aF (n:=left-1) (by omega) (by omega),aF (n:=s.now+1) (by omega) (by omega)];by_cases c:left-1>0
 ·grind
 rw[decide_eq_false c,cond_false,cond_false];rw[mx (by show s.tasks.length<k;omega) (by show s.tasks.length<=aO;omega),aa];show(λr23:Int=>_) (lr s.tasks run)=_;rw[jc hf];simp only[W4,XV];rw[ab,if_pos (by omega),ai hi,aa,ab,if_pos (by omega),aa,ab,if_pos (by omega),Ya hi,aa,ab,if_pos (by omega),aa,hf,W8,ai hi,W8,aF (n:=s.tasks[i].at_+1) (by omega) (by omega)];simp only;by_cases c2:s.tasks[i].at_+1<(s.tasks[i].ax.length:Int)
 ·grind
 rw[decide_eq_false c2,cond_false,cond_false,tK,aa,zi (by rw[eT,XV];omega) (by rw[eT,XV];omega),aa,ow,cond_true,qU _ (λt=>!(t.id==run)) (λz=>!(z.id==run)) (λn t=>rfl),aa];rfl
theorem H5 {k:Nat} {s:al} {run left turns:Int} (hk:s.tot<k) (hN:s.tot<=aO) (h:bE s=true) (hl:1<=left/\left<=1000) {i:Nat} (hf:(s.tasks.findIdx? λt=>t.id==run)=some i):
  (cond (decide ((i64.wrap (left-(1:Int)))>(0:Int))) (cond (decide (s.aj=s.aj)) (cond (decide (s.age=s.age)) (cond (decide (s.next=s.next)) (some (((0:Int),false),i64.wrap (s.now+(1:Int)),s.tasks,run,i64.wrap (left-(1:Int)),turns)) none) none) none) ((dI k (⟨(i64.wrap (s.now+(1:Int))),s.aj,s.age,s.tasks,run,(i64.wrap (left-(1:Int))),turns,s.next⟩:al) run).bind λr1=>cond (decide (0<=r1/\r1<(s.tasks.length:Int))) ((s.tasks[r1.toNat]?).bind λe2=>(s.tasks[r1.toNat]?).bind λe3=>((s.tasks.set r1.toNat (⟨e3.id,e3.ax,(i64.wrap (e2.at_+(1:Int))),e3.due,e3.born⟩:Task))[r1.toNat]?).bind λe4=>((s.tasks.set r1.toNat (⟨e3.id,e3.ax,(i64.wrap (e2.at_+(1:Int))),e3.due,e3.born⟩:Task))[r1.toNat]?).bind λe5=>cond (decide (e4.at_<(e5.ax.length:Int))) (cond (decide (s.aj=s.aj)) (cond (decide (s.age=s.age)) (cond (decide (s.next=s.next)) (some ((run,false),i64.wrap (s.now+(1:Int)),s.tasks.set r1.toNat (⟨e3.id,e3.ax,(i64.wrap (e2.at_+(1:Int))),e3.due,e3.born⟩:Task),(0:Int),i64.wrap (left-(1:Int)),turns)) none) none) none) ((lE (s.tasks.set r1.toNat (⟨e3.id,e3.ax,(i64.wrap (e2.at_+(1:Int))),e3.due,e3.born⟩:Task))).bind λy6=>(dR k (i64.wrap (s.now+(1:Int))) s.aj s.age y6 (0:Int) (i64.wrap (left-(1:Int))) turns s.next run).bind λr7=>cond (j8 r7.1) ((rf (s.tasks.set r1.toNat (⟨e3.id,e3.ax,(i64.wrap (e2.at_+(1:Int))),e3.due,e3.born⟩:Task)) r7.1).bind λz8=>cond (decide (s.aj=s.aj)) (cond (decide (s.age=s.age)) (cond (decide (s.next=s.next)) (some ((run,true),i64.wrap (s.now+(1:Int)),z8,r7.2.1,r7.2.2,turns)) none) none) none) none)) none))=some (((wK s run left turns).2.1,(wK s run left turns).2.2),(wK s run left turns).1.now,(wK s run left turns).1.tasks,(wK s run left turns).1.run,(wK s run left turns).1.left,(wK s run left turns).1.turns):=by
 have hM:=ak;have hs:=br h;have hlen:=bu Task.tot s.tasks;have hst:s.tot=gp Task.tot s.tasks+0:=rfl;obtain⟨hi,hid⟩:=sB hf;have ht:=bT (bX hs.2.2.2.2.2.2.1 hi).1;unfold wK;simp only[decide_true,cond_true];rw[aF (n:=left-1) (by omega) (by omega),aF (n:=s.now+1) (by omega) (by omega)];by_cases c:left-1>0
 ·grind
 rw[decide_eq_false c,cond_false,cond_false];rw[wB (by show s.tasks.length<k;omega) (by show s.tasks.length<=aO;omega),aa];show(λr23:Int=>_) (lr s.tasks run)=_;rw[jc hf];simp only[W4,XV];rw[ab,if_pos (by omega),ai hi,aa,aa,Ya hi,aa,aa,hf,W8,ai hi,W8,aF (n:=s.tasks[i].at_+1) (by omega) (by omega)];simp only;by_cases c2:s.tasks[i].at_+1<(s.tasks[i].ax.length:Int)
 ·grind
 rw[decide_eq_false c2,cond_false,cond_false,tK,aa,MS (by rw[eT,XV];omega) (by rw[eT,XV];omega),aa];simp only;rw[ow,cond_true,qU _ (λt=>!(t.id==run)) (λz=>!(z.id==run)) (λn t=>rfl),aa]
 have hne:((0:Int)==run)=false:=by simp;omega
 rw[hne];rfl
def fJ (s:al) (stalled:Bool):al× Int× Bool:=
  cond (bE s&&!(s.now==1000000))
    (cond stalled (⟨s.now+1,s.aj,s.age,s.tasks,s.run,s.left,s.turns,s.next⟩,0,false)
      (cond (s.run==0)
        (cond (lu s==0) (⟨s.now+1,s.aj,s.age,s.tasks,s.run,s.left,s.turns,s.next⟩,0,false)
          ((s.tasks.findIdx? λt=>t.id==lu s).elim (s,0,false) λi=>(s.tasks[i]?).elim (s,0,false) λt=>wK s (lu s) (fu t) (cond (decide (s.turns+1>1000000)) 0 (s.turns+1))))
        (wK s s.run s.left s.turns))) (s,0,false)
theorem Cb {s:al} (h:bE s=true) (hp:lu s≠0):∃(i:Nat) (hi:i<s.tasks.length),(s.tasks.findIdx? λt=>t.id==lu s)=some i/\s.tasks[i].id=lu s:=by
 have hs:=br h
 have:∃t∈s.tasks,lu s=t.id:=by
  unfold lu at hp⊢
  cases hl:CO s with
  |none=>
   cases he:rk s with
   |none=>grind
   |some e=>exact⟨e,(X1.1 (pQ he)).1,rfl⟩
  |some l=>
   cases he:rk s with
   |none=>exact⟨l,(X1.1 (pQ hl)).1,rfl⟩
   |some e=>
    simp only[Zm,Xa,Bool.false_or,Xf,W8];cases(decide (s.age>0)&&(s.turns.tmod s.age==0))
    ·exact⟨e,(X1.1 (pQ he)).1,rfl⟩
    ·exact⟨l,(X1.1 (pQ hl)).1,rfl⟩
 obtain⟨t,ht,e⟩:=this;obtain⟨i,hi,rfl⟩:=XC.1 ht;exact⟨i,hi,by rw[e];exact FO hs.2.2.2.2.2.2.1 hi,e.symm⟩
theorem FZ {s:al} (h:bE s=true) (hr:(s.run==0)=false):(1<=s.left/\s.left<=1000)/\∃i,(s.tasks.findIdx? λt=>t.id==s.run)=some i:=by
 have hs:=br h;have lC:=hs.2.2.2.2.2.2.2;unfold Na at lC;rw[hr,cond_false]at lC
 cases hf:s.tasks.findIdx? λt=>t.id==s.run with
 |none=>grind
 |some i=>
  obtain⟨hi,hid⟩:=sB hf;have h1:=tJ h (W9 hi) hid.symm;have h2:=fv (bX hs.2.2.2.2.2.2.1 hi).1;grind
theorem CP {k:Nat} {s:al} {st:Bool} (hk:s.tot<k) (hN:s.tot<=aO):qA k s st=some (fJ s st):=by
 have hM:=ak;have hlen:=bu Task.tot s.tasks;have hst:s.tot=gp Task.tot s.tasks+0:=rfl;unfold qA fJ;rw[sC hk hN,aa,ek hk hN,aa];cases h:bE s
 ·rfl
 have hs:=br h;simp only[Xa,cond_false,Xf];cases(s.now==(1000000:Int))
 case true=>rfl
 simp only[cond_false,XA,cond_true];cases st
 case true=>rw[aF (n:=s.now+1) (by omega) (by omega)];rfl
 simp only[cond_false];cases hr:s.run==0
 ·simp only[cond_false];obtain⟨hl,i,hf⟩:=FZ h hr;exact Ca hk hN h hl hf
 simp only[cond_true];rw[FY hk hN h,aa];by_cases hp:lu s=0
 ·rw[hp,aF (n:=s.now+1) (by omega) (by omega)];rfl
 rw[dF,if_neg hp,dF,if_neg hp];obtain⟨i,hi,hf,hid⟩:=Cb h hp;have hc:=fv (bX hs.2.2.2.2.2.2.1 hi).1;rw[mx (by show s.tasks.length<k;omega) (by show s.tasks.length<=aO;omega),aa];show(λr4:Int=>_) (lr s.tasks (lu s))=_;rw[jc hf];simp only[W4];rw[ab,if_pos (by omega),ai hi,aa,hc.1,aa,hf,W8,ai hi,W8,aF (n:=s.turns+1) (by omega) (by omega)];by_cases ct:s.turns+1>1000000
 ·rw[decide_eq_true ct,cond_true,cond_true];exact Ca hk hN h ⟨hc.2.1,hc.2.2⟩ hf
 ·rw[decide_eq_false ct,cond_false,cond_false];exact Ca hk hN h ⟨hc.2.1,hc.2.2⟩ hf
theorem MV {k:Nat} {s:al} (hk:s.tot+2<k) (hN:s.tot<aO) (h:bE s=true):
  (lu s=0/\eJ k s=some (false,s.run,s.left,s.turns))\/
  ∃(i:Nat) (hi:i<s.tasks.length),lu s≠0/\(s.tasks.findIdx? λt=>t.id==lu s)=some i/\eJ k s=some (true,lu s,fu s.tasks[i],cond (decide (s.turns+1>1000000)) 0 (s.turns+1)):=by
 have hM:=ak;have hs:=br h;have hlen:=bu Task.tot s.tasks;have hst:s.tot=gp Task.tot s.tasks+0:=rfl;unfold eJ;rw[PA hk hN hs.2.2.2.2.2.2.1,aa];simp only[decide_true,cond_true];by_cases hp:lu s=0
 ·grind
 ·obtain⟨i,hi,hf,hid⟩:=Cb h hp;have hc:=fv (bX hs.2.2.2.2.2.2.1 hi).1;refine .inr ⟨i,hi,hp,hf,?_⟩;rw[dF,if_neg hp,wB (by omega) (by omega),aa,jc hf,W4,ab,if_pos (by omega),ai hi,aa,hc.1,aa,aF (n:=s.turns+1) (by omega) (by omega)];grind
theorem Rm (s:al) (run left turns:Int) {i:Nat} (hf:(s.tasks.findIdx? λt=>t.id==run)=some i):(wK s run left turns).1.aj=s.aj/\(wK s run left turns).1.age=s.age/\(wK s run left turns).1.next=s.next:=by
 obtain⟨hi,_⟩:=sB hf;unfold wK;grind
theorem CQ {k:Nat} {s:al} {st:Bool} (hk:s.tot+2<k) (hN:s.tot<aO):uO k s st=some (fJ s st):=by
 have hM:=ak;have hlen:=bu Task.tot s.tasks;have hst:s.tot=gp Task.tot s.tasks+0:=rfl;unfold uO fJ;rw[kr (by omega) (by omega),aa,ov (by omega) (by omega),aa];cases h:bE s
 ·rfl
 have hs:=br h;simp only[Xa,cond_false,Xf];cases(s.now==(1000000:Int))
 case true=>rfl
 simp only[cond_false,XA,cond_true]
 have fin:∀(run left turns:Int) {i:Nat},(s.tasks.findIdx? λt=>t.id==run)=some i->(some (((wK s run left turns).2.1,(wK s run left turns).2.2),(wK s run left turns).1.now,(wK s run left turns).1.tasks,(wK s run left turns).1.run,(wK s run left turns).1.left,(wK s run left turns).1.turns)).bind (λr3:((Int× Bool)× Int× List Task× Int× Int× Int)=>some ((⟨r3.2.1,s.aj,s.age,r3.2.2.1,r3.2.2.2.1,r3.2.2.2.2.1,r3.2.2.2.2.2,s.next⟩:al),r3.1.1,r3.1.2))=some (wK s run left turns):=λrun left turns i hf=>by
  obtain⟨g1,g2,g3⟩:=Rm s run left turns hf;generalize wK s run left turns=q at g1 g2 g3⊢;obtain⟨⟨a1,a2,a3,a4,a5,a6,a7,a8⟩,b,c⟩:=q;grind
 unfold gy;cases st
 case true=>rw[aF (n:=s.now+1) (by omega) (by omega)];simp only[decide_true,cond_true,Xa,cond_false,aa]
 simp only[XA,cond_true,cond_false];cases hr:s.run==0
 ·rw[show(s.run !=0)=true by rw[bne,hr];rfl];simp only[cond_true,cond_false];obtain⟨hl,i,hf⟩:=FZ h hr;have e:=H5 (k:=k) (turns:=s.turns) (by omega) (by omega) h hl hf;grind
 rw[show(s.run !=0)=false by rw[bne,hr];rfl];simp only[cond_true,cond_false]
 rcases MV hk hN h with⟨hp,e⟩|⟨i,hi,hp,hf,e⟩
 ·rw[e,hp,aa,aF (n:=s.now+1) (by omega) (by omega)];grind
 ·have hc:=fv (bX hs.2.2.2.2.2.2.1 hi).1;rw[e,aa,dF,if_neg hp];have e:=H5 (k:=k) (turns:=cond (decide (s.turns+1>1000000)) 0 (s.turns+1)) (by omega) (by omega) h ⟨hc.2.1,hc.2.2⟩ hf;grind
end
section
def VU:al:=⟨0,0,0,[],0,0,0,0⟩
def Qc (aj age:Int):al:=⟨0,aj,age,[],0,0,0,1⟩
theorem Rn {k:Nat} {a b:Int} (hk:0<k):tp k a b=some (cond (bE (Qc a b)) (Qc a b,true) (VU,false)):=by
 unfold tp;rw[ek (by exact hk) (by exact XE _),aa];show cond (!(bE (Qc a b))) _ _=_;cases bE (Qc a b)<;>rfl
end
section
def ao {α:Type} (o:Option α) (Q:α->Prop):Prop:=∃r,o=some r/\Q r
theorem ao.bind {α β:Type} {o:Option α} {P:α->Prop} {f:α->Option β} {Q:β->Prop} (h:ao o P) (hf:∀a,P a->ao (f a) Q):ao (o.bind f) Q:=by
 obtain⟨r,e,hp⟩:=h;rw[e];exact hf r hp
theorem ao.some {α:Type} {a:α} {Q:α->Prop} (h:Q a):ao (some a) Q:=⟨a,rfl,h⟩
theorem ao.cond {α:Type} {b:Bool} {x y:Option α} {Q:α->Prop} (h1:b=true->ao x Q) (h2:b=false->ao y Q):ao (cond b x y) Q:=by
 cases b
 ·exact h2 rfl
 ·exact h1 rfl
theorem ao.mono {α:Type} {o:Option α} {P Q:α->Prop} (h:ao o P) (hq:∀a,P a->Q a):ao o Q:=by
 obtain⟨r,e,hp⟩:=h;exact⟨r,e,hq r hp⟩
theorem ao.iter {V R:Type} {g:V->(V->Option R)->Option R} {Inv:V->Prop} {m:V->Nat} {Q:R->Prop}
  (h:∀(v:V) (next:V->Option R),Inv v->(∀u,Inv u->m u<m v->ao (next u) Q)->ao (g v next) Q):∀(k:Nat) (v:V),Inv v->m v<k->ao (iter g k v) Q
 |0,v,_,hk=>by omega
 |k+1,v,hv,hk=>by
  rw[aS];exact h v _ hv λu hu hm=>ao.iter h k u hu (by omega)
def Cur (b:List Int) (i:Int):Prop:=0<=i/\i<=b.length
theorem R2 (x:BitVec i64.bits):0<=i64.wrap (((x&&& BitVec.ofInt i64.bits (255:Int)).toNat:Int))/\i64.wrap (((x&&& BitVec.ofInt i64.bits (255:Int)).toNat:Int))<=255:=by
 have h1:(x&&& BitVec.ofInt i64.bits (255:Int)).toNat<=255:=by
  rw[BitVec.toNat_and]
  have:(BitVec.ofInt i64.bits (255:Int)).toNat=255:=by decide
  rw[this];exact Nat.and_le_right
 rw[aF (by omega) (by omega)];omega
theorem tM {k:Nat} {b:List Int} {i h:Int} (hb:b.length<=1048576) (hc:Cur b i):ao (iJ k b i h) λr=>(0<=r.1/\r.1<=255)/\Cur b r.2.1:=by
 unfold Cur at hc;unfold iJ;refine ao.cond (λh1=>?_) λh1=>?_
 ·have h1:=of_decide_eq_true h1
  have hi:i.toNat<b.length:=by omega
  rw[j9 _ hc.1,ai hi,aa,decide_eq_true rfl];refine ao.some ⟨R2 _,?_⟩;show Cur b (i64.wrap (i+1));rw[aF (by omega) (by omega)];unfold Cur;omega
 ·rw[decide_eq_true rfl];exact ao.some ⟨R2 _,hc⟩
theorem J2 {x n:Int} (h0:0<=x) (hn:0<n):0<=x.tmod n/\x.tmod n<n:=⟨Zh n h0,YG x hn⟩
theorem aI {k:Nat} {b:List Int} {i h n:Int} (hb:b.length<=1048576) (hc:Cur b i):ao (ae k b i h n) λr=>(0<=r.1/\(0<n->r.1<n)/\(n<=0->r.1=0))/\Cur b r.2.1:=by
 unfold ae;refine ao.cond (λh1=>?_) λh1=>ao.cond (λh2=>?_) λh2=>?_
 ·have h1:=of_decide_eq_true h1;rw[decide_eq_true rfl];exact ao.some ⟨⟨ZE _,λh=>by omega,λ_=>rfl⟩,hc⟩
 ·have h1:=of_decide_eq_false h1;refine(tM hb hc).bind λr ⟨hr,hc1⟩=>?_;rw[decide_eq_false (show¬n=0 by omega),decide_eq_true rfl];have:=J2 (x:=r.1) (n:=n) hr.1 (by omega);exact ao.some ⟨⟨this.1,λ_=>this.2,λh=>by omega⟩,hc1⟩
 ·have h1:=of_decide_eq_false h1;refine(tM hb hc).bind λr ⟨hr,hc1⟩=>(tM hb hc1).bind λr2 ⟨hr2,hc2⟩=>(tM hb hc2).bind λr3 ⟨hr3,hc3⟩=>?_;rw[decide_eq_false (show¬n=0 by omega),decide_eq_true rfl];rw[aF (n:=r.1*65536) (by omega) (by omega),aF (n:=r2.1*256) (by omega) (by omega),aF (n:=r.1*65536+r2.1*256) (by omega) (by omega),aF (n:=r.1*65536+r2.1*256+r3.1) (by omega) (by omega)];have:=J2 (x:=r.1*65536+r2.1*256+r3.1) (n:=n) (by omega) (by omega);exact ao.some ⟨⟨this.1,λ_=>this.2,λh=>by omega⟩,hc3⟩
theorem eM {k:Nat} {b:List Int} {i h:Int} {xs:List Int} (hb:b.length<=1048576) (hc:Cur b i) (hx:0<xs.length):ao (ay k b i h xs) λr=>r.1∈xs/\Cur b r.2.1:=by
 unfold ay;refine(aI hb hc).bind λr ⟨⟨h0,h1,_⟩,hc1⟩=>?_;have:=h1 (by omega)
 have hi:r.1.toNat<xs.length:=by omega
 rw[j9 _ h0,ai hi,aa,decide_eq_true rfl];exact ao.some ⟨W9 hi,hc1⟩
theorem fx {k:Nat} {b:List Int} {i h n:Int} (hb:b.length<=1048576) (hc:Cur b i):ao (bD k b i h n) λr=>Cur b r.2.1:=by
 unfold bD;refine(aI hb hc).bind λr ⟨_,hc1⟩=>?_;rw[decide_eq_true rfl];exact ao.some hc1
theorem H6 {k:Nat} {b:List Int} (hb:b.length<=1048576) (hk:b.length<k):ao (pA k b) λr=>Cur b r.1:=by
 unfold pA;refine ao.iter (Inv:=λv:Int× Int=>0<=v.2/\v.2<=b.length) (m:=λv=>b.length-v.2.toNat) (λv next hv hn=>?_) k _ (by constructor<;>simp) (by simp;omega);unfold qD
 have fin:ao (cond (decide (b=b)) (some ((0:Int),v.1)) none) λr=>Cur b r.1:=by
  rw[decide_eq_true rfl];exact ao.some ⟨ZE _,by show(0:Int)<=b.length;omega⟩
 refine ao.cond (λh1=>ao.cond (λh2=>?_) λh2=>fin) λh1=>fin;have h1:=of_decide_eq_true h1
 have hi:v.2.toNat<b.length:=by omega
 rw[j9 _ hv.1,ai hi,aa];have e:i64.wrap (v.2+1)=v.2+1:=aF (by omega) (by omega);rw[e];exact hn _ (by simp only;omega) (by simp only;omega)
end
section
theorem ao.must {α:Type} {p:Prop} {i:Decidable p} {x y:Option α} {Q:α->Prop} (h:p) (hx:ao x Q):ao (bif (@decide p i)then x else y) Q:=by
 rw[decide_eq_true h];exact hx
theorem ao.ble {α:Type} {a b:Nat} {x y:Option α} {Q:α->Prop} (h:a<=b) (hx:ao x Q):ao (bif (Nat.ble a b)then x else y) Q:=by
 rw[Yr h];exact hx
end
set_option maxRecDepth 100000
section
theorem size_eq {b:List Int} (hb:b.length<=1048576) (k:Nat) {most:Int} (h0:2<=most) (h1:most<=1000000):ao (vQ k b most) λn=>2<=n/\n<=most:=by
 unfold vQ
 have e:i64.wrap ((b.length:Int).tdiv 16)=(b.length:Int).tdiv 16:=by
  have h2:(b.length:Int).tdiv 16=(b.length:Int)/16:=XT (by omega);rw[h2,aF (by omega) (by omega)]
 have h2:(b.length:Int).tdiv 16=(b.length:Int)/16:=XT (by omega);rw[e,h2,aF (n:=2+(b.length:Int)/16) (by omega) (by omega)];refine ao.cond (λh=>ao.some ⟨by omega,by omega⟩) λh=>?_;have h:=of_decide_eq_false h;exact ao.some ⟨by omega,by omega⟩
end
set_option maxRecDepth 100000
section
theorem Cc (s:al) (ax:List Int) (due:Int):
  ((fw s ax due).2.2=0/\0<(fw s ax due).2.1/\bE s=true/\B4 (fw s ax due).1=true/\(fw s ax due).1=⟨s.now,s.aj,s.age,s.tasks++[⟨s.next,ax,0,due,s.now⟩],s.run,s.left,s.turns,s.next+1⟩)\/
  ((fw s ax due).2.2≠0/\(fw s ax due).2.1=0/\(fw s ax due).1=s):=by
 unfold fw;cases h:bE s&&je ⟨s.next,ax,0,due,s.now⟩
 ·right;simp
 have hb:=(XY.1 h).1;have hs:=br hb;cases((s.tasks.length:Int)==12||s.next==1000000)
 ·cases hf:B4 ⟨s.now,s.aj,s.age,s.tasks++[⟨s.next,ax,0,due,s.now⟩],s.run,s.left,s.turns,s.next+1⟩
  ·right;simp
  ·left;simp only[cond_true,cond_false];exact⟨trivial,by omega,hb,hf,trivial⟩
 ·right;simp
end
section
structure SOk (s:al):Prop where
 now:0<=s.now/\s.now<=1000000
 aj:0<=s.aj/\s.aj<=1000
 age:0<=s.age/\s.age<=20
 len:s.tasks.length<=12
 turns:0<=s.turns/\s.turns<=1000000
 next:1<=s.next/\s.next<=1000000
 task:∀t∈s.tasks,je t=true/\t.id<s.next/\t.born<=s.now
 ids:s.tasks.Pairwise λa b=>a.id<b.id
 run:(s.run=0/\s.left=0)\/∃t∈s.tasks,t.id=s.run/\1<=s.left/\s.left<=fu t
theorem R3 {s:al} (h:bE s=true):SOk s:=by
 have hs:=br h;have hT:=hs.2.2.2.2.2.2.1;refine⟨hs.1,hs.2.1,hs.2.2.1,hs.2.2.2.1,hs.2.2.2.2.1,hs.2.2.2.2.2.1,λt ht=>?_,FW hT,?_⟩
 ·obtain⟨i,hi,rfl⟩:=XC.1 ht;have:=bX hT hi;exact⟨this.1,this.2.1,this.2.2.1⟩
 ·cases hr:s.run==0
  ·obtain⟨_,i,hf⟩:=FZ h hr;obtain⟨hi,hid⟩:=sB hf;exact .inr ⟨s.tasks[i],W9 hi,hid,tJ h (W9 hi) hid.symm⟩
  ·have lC:=hs.2.2.2.2.2.2.2;unfold Na at lC;rw[hr,cond_true]at lC;exact .inl ⟨by simpa using hr,by simpa using lC⟩
theorem Ce {s:al} (h:SOk s):ia s=true:=by
 unfold ia;rw[Xv];intro i hi;rw[List.mem_range]at hi;obtain⟨h1,h2,h3⟩:=h.task _ (W9 hi);rw[ai hi,W8];simp only[W3,decide_eq_true_eq];refine⟨h1,h2,h3,?_⟩;by_cases c:0<i
 ·rw[decide_eq_true c,cond_true,ai (show i-1<s.tasks.length by omega),W8];exact decide_eq_true (List.pairwise_iff_getElem.1 h.ids (i-1) i (by omega) hi (by omega))
 ·rw[decide_eq_false c];rfl
theorem Ab {s:al} (h:SOk s):bE s=true:=by
 have hT:=Ce h;unfold bE inB;simp only[W3,decide_eq_true_eq];refine⟨h.now,h.aj,h.age,by have:=h.len;omega,h.turns,h.next,hT,?_⟩
 rcases h.run with⟨h1,h2⟩|⟨t,ht,e,l1,l2⟩
 ·unfold Na;rw[h1,h2];rfl
 ·have hb:=(h.task t ht).1;have hid:=(bT hb).1;obtain⟨i,hi,rfl⟩:=XC.1 ht
  have h0:(s.run==0)=false:=by rw[<-e];simp;omega
  unfold Na;rw[h0,cond_false,<-e,FO hT hi,W8,ai hi,W8,(fv hb).1,W8];exact aY.2 ⟨l1,l2⟩
theorem Ld {ts:List Task} (hp:ts.Pairwise λa b=>a.id<b.id) {t:Task} (ht:t∈ts):∃pre post,ts=pre++t::post/\(∀u∈pre,u.id<t.id)/\(∀u∈post,t.id<u.id)/\(∀u∈pre,∀v∈post,u.id<v.id)/\(pre.Pairwise λa b=>a.id<b.id)/\post.Pairwise λa b=>a.id<b.id:=by
 obtain⟨pre,post,rfl⟩:=List.append_of_mem ht;rw[YN,Zl]at hp;obtain⟨h1,⟨h2,h3⟩,h4⟩:=hp;exact⟨pre,post,rfl,λu hu=>h4 u hu t (by simp),h2,λu hu v hv=>h4 u hu v (by simp[hv]),h1,h3⟩
theorem MW {pre post:List Task} {t:Task} (h:∀u∈pre,u.id≠t.id):((pre++t::post).findIdx? λu=>u.id==t.id)=some pre.length:=by
 rw[List.findIdx?_append]
 have h1:(pre.findIdx? λu=>u.id==t.id)=none:=by
  rw[X9];intro u hu;simpa using h u hu
 rw[h1,Zk];simp
theorem PB {pre post:List Task} {t:Task} {id:Int} (h1:∀u∈pre,u.id≠id) (h2:∀u∈post,u.id≠id) (ht:t.id=id):Nb (pre++t::post) id=pre++post:=by
 unfold Nb;rw[YV,YH]
 have e1:pre.filter (λu=>!(u.id==id))=pre:=Yo.2 λu hu=>by simpa using h1 u hu
 have e2:post.filter (λu=>!(u.id==id))=post:=Yo.2 λu hu=>by simpa using h2 u hu
 rw[e1,e2,ht];simp
def sG (t:Task):Task:=⟨t.id,t.ax,t.at_+1,t.due,t.born⟩
theorem D5 {s:al} {pre post:List Task} {t:Task} {L tr:Int} (e:s.tasks=pre++t::post) (h1:∀u∈pre,u.id≠t.id) (h2:∀u∈post,u.id≠t.id):
  wK s t.id L tr=if L-1>0 then(⟨s.now+1,s.aj,s.age,s.tasks,t.id,L-1,tr,s.next⟩,0,false)else
   if t.at_+1<t.ax.length then(⟨s.now+1,s.aj,s.age,pre++sG t::post,0,L-1,tr,s.next⟩,t.id,false)
   else(⟨s.now+1,s.aj,s.age,pre++post,0,L-1,tr,s.next⟩,t.id,true):=by
 unfold wK
 have hf:(s.tasks.findIdx? λu=>u.id==t.id)=some pre.length:=by rw[e];exact MW h1
 have hg:s.tasks[pre.length]? =some t:=by rw[e];simp
 have WV:s.tasks.set pre.length (sG t)=pre++sG t::post:=by rw[e];simp
 rw[ab,hf,W8,hg,W8,ab];show(if L-1>0 then _ else if t.at_+1<(t.ax.length:Int)then(⟨s.now+1,s.aj,s.age,s.tasks.set pre.length (sG t),0,L-1,tr,s.next⟩,t.id,false)else(⟨s.now+1,s.aj,s.age,Nb (s.tasks.set pre.length (sG t)) t.id,0,L-1,tr,s.next⟩,t.id,true):al× Int× Bool)=_;rw[WV,PB (t:=sG t) h1 h2 rfl]
structure Wh (s:al) (t:Task) (L tr:Int):Prop where
 mem:t∈s.tasks
 lo:1<=L
 hi:L<=fu t
 rem:∀u∈s.tasks,ez s u=cond (t.id==u.id) (ib u-fu u+L) (ib u)
 trn:0<=tr/\tr<=1000000
 eq:fJ s false=wK s t.id L tr
theorem UF {s:al} (h:SOk s) {t u:Task} (ht:t∈s.tasks) (hu:u∈s.tasks) (e:t.id=u.id):t=u:=by
 obtain⟨i,hi,rfl⟩:=XC.1 ht;obtain⟨j,hj,rfl⟩:=XC.1 hu;have:=Pu (Ce h) hi hj e;subst this;rfl
theorem D6 {key:Task->Int} {xs:List Task} (h:HY key xs=none):xs=[]:=by
 cases xs with
 |nil=>rfl
 |cons x l=>exact nomatch h
theorem PC {s:al} (h:SOk s) (hp:lu s=0):s.tasks=[]:=by
 have hT:=Ce h
 have hl:CO s=none:=by
  cases hl:CO s with
  |none=>rfl
  |some t=>
   have h1:=Pz hT hl
   cases he:rk s with
   |none=>
    unfold lu at hp;rw[hl,he]at hp;simp only[Zm,YF,XA,Bool.true_or,Xf,cond_true,W8]at hp
    omega
   |some e=>
    have h2:=FX hT he;unfold lu at hp;rw[hl,he]at hp;simp only[Zm,Xa,Bool.false_or,Xf,W8]at hp;cases hc:(decide (s.age>0)&&(s.turns.tmod s.age==0))<;>rw[hc]at hp
    ·simp only[cond_false]at hp;omega
    ·simp only[cond_true]at hp;omega
 have he:rk s=none:=by
  cases he:rk s with
  |none=>rfl
  |some e=>
   have h2:=FX hT he;unfold lu at hp;rw[hl,he]at hp;simp only[YF,X4,cond_false,W8]at hp;omega
 have f1:=D6 hl;have f2:=D6 he
 cases ht:s.tasks with
 |nil=>rfl
 |cons x l=>
  have hx:x∈s.tasks:=by rw[ht];simp
  cases hq:eY s x
  ·have:x∈s.tasks.filter λt=>!eY s t:=X1.2 ⟨hx,by rw[hq];rfl⟩;rw[f2]at this;exact nomatch this
  ·have:x∈s.tasks.filter (eY s):=X1.2 ⟨hx,hq⟩;rw[f1]at this;exact nomatch this
theorem H7 {s:al} (h:SOk s) (hn:s.now≠1000000):
  (s.tasks=[]/\s.run=0/\s.left=0/\fJ s false=(⟨s.now+1,s.aj,s.age,s.tasks,s.run,s.left,s.turns,s.next⟩,0,false))\/∃t L tr,Wh s t L tr/\(s.run=t.id\/(s.run=0/\lu s=t.id)):=by
 have hb:=Ab h
 have R4:(bE s&&!(s.now==1000000))=true:=by rw[hb];simpa using hn
 rcases h.run with⟨h1,h2⟩|⟨t,ht,e,l1,l2⟩
 ·by_cases hp:lu s=0
  ·left;refine⟨PC h hp,h1,h2,?_⟩;unfold fJ;rw[R4,h1,hp];rfl
  ·right;obtain⟨i,hi,hf,hid⟩:=Cb hb hp;have ht:=W9 hi;have hc:=fv (h.task _ ht).1;refine⟨s.tasks[i],fu s.tasks[i],cond (decide (s.turns+1>1000000)) 0 (s.turns+1),⟨ht,hc.2.1,ZE _,λu hu=>?_,?_,?_⟩,.inr ⟨h1,hid.symm⟩⟩
   ·have hu0:=(bT (h.task u hu).1).1
    have:(s.run==u.id)=false:=by rw[h1];simp;omega
    unfold ez;rw[this,cond_false];cases hq:s.tasks[i].id==u.id
    ·rfl
    ·have:=UF h ht hu (by simpa using hq);rw[cond_true,this];omega
   ·have:=h.turns;rw[ab];split<;>omega
   ·have hp':(lu s==0)=false:=by simpa using hp
    unfold fJ;rw[R4,h1,hp',hf];simp only[cond_true,cond_false,W8];rw[ai hi,W8,hid];rfl
 ·right;have ht0:=(bT (h.task t ht).1).1;refine⟨t,s.left,s.turns,⟨ht,l1,l2,λu hu=>?_,h.turns,?_⟩,.inl e.symm⟩
  ·unfold ez;rw[e]
  ·have:(s.run==0)=false:=by rw[<-e];simp;omega
   unfold fJ;rw[R4,this,e];rfl
def To (p:Int->Bool) (s:al):Int:=(s.tasks.map λt=>cond (p t.due) (ez s t) 0).sum
theorem H8 {t:Task} (h:je t=true):ib (sG t)=ib t-fu t:=by
 have ht:=bT h
 have hlt:t.at_.toNat<t.ax.length:=by omega
 have e:idx t.ax t.at_=some t.ax[t.at_.toNat]:=by rw[j9 _ ht.2.2.1.1];exact ai hlt
 have hc:fu t=t.ax[t.at_.toNat]:=by unfold fu;rw[e];rfl
 unfold ib sG
 have e2:(t.at_+1).toNat=t.at_.toNat+1:=by omega
 simp only;rw[e2,jx hlt,YS,hc];omega
theorem PD {t:Task} (h:je t=true) (hl:¬t.at_+1<t.ax.length):ib t-fu t=0:=by
 rw[<-H8 h];unfold ib sG;simp only;rw[List.drop_eq_nil_of_le (by omega)];rfl
structure UG (s:al) (t:Task) (r:al× Int× Bool):Prop where
 ok:SOk r.1
 now:r.1.now=s.now+1
 aj:r.1.aj=s.aj
 age:r.1.age=s.age
 next:r.1.next=s.next
 sum:∀p:Int->Bool,To p r.1=To p s-cond (p t.due) 1 0
 from_:∀u∈r.1.tasks,∃v∈s.tasks,v.id=u.id/\v.due=u.due
 told:(r.2.1=0/\r.2.2=false/\r.1.run=t.id/\r.1.tasks=s.tasks)\/(r.2.1=t.id/\r.1.run=0/\r.1.left=0)
 goes:r.2.2=true->r.2.1=t.id/\∀u∈r.1.tasks,u.id≠t.id
theorem worked {s:al} {t:Task} {L tr:Int} (h:SOk s) (hn:s.now≠1000000) (T:Wh s t L tr):UG s t (fJ s false):=by
  obtain⟨pre,post,e,h1,h2,h3,h4,h5⟩:=Ld h.ids T.mem;have hb:=(h.task t T.mem).1;have htb:=bT hb
  have n1:∀u∈pre,u.id≠t.id:=λu hu=>by have:=h1 u hu;omega
  have n2:∀u∈post,u.id≠t.id:=λu hu=>by have:=h2 u hu;omega
  have m1:∀u∈pre,u∈s.tasks:=λu hu=>by rw[e];simp[hu]
  have m2:∀u∈post,u∈s.tasks:=λu hu=>by rw[e];simp[hu]
  have hlen:=h.len;rw[e,W5,W7]at hlen;have R4:=h.now
  have part:∀(p:Int->Bool) (s':al) (l:List Task),(∀u∈l,u∈s.tasks/\u.id≠t.id)->(∀u∈l,s'.run≠u.id)->(l.map λu=>cond (p u.due) (ez s' u) 0)=l.map λu=>cond (p u.due) (ez s u) 0:=λp s' l hl hr=>List.map_congr_left λu hu=>by
    have r1:ez s' u=ib u:=by unfold ez;rw[show(s'.run==u.id)=false by simpa using hr u hu];rfl
    have r2:ez s u=ib u:=by rw[T.rem u (hl u hu).1,show(t.id==u.id)=false by simpa usingλq=>(hl u hu).2 q.symm];rfl
    rw[r1,r2]
  have q1:∀u∈pre,u∈s.tasks/\u.id≠t.id:=λu hu=>⟨m1 u hu,n1 u hu⟩;have q2:∀u∈post,u∈s.tasks/\u.id≠t.id:=λu hu=>⟨m2 u hu,n2 u hu⟩
  have z1:∀u∈s.tasks,(0:Int)≠u.id:=λu hu=>by have:=(bT (h.task u hu).1).1;omega
  have rt:ez s t=ib t-fu t+L:=by rw[T.rem t T.mem];simp
  have old:∀p:Int->Bool,To p s=(pre.map λu=>cond (p u.due) (ez s u) 0).sum+(cond (p t.due) (ib t-fu t+L) 0+(post.map λu=>cond (p u.due) (ez s u) 0).sum):=λp=>by
    unfold To;rw[<-rt];conv=>lhs;rw[e,Yl,YZ,XQ,YS]
  rw[T.eq,D5 e n1 n2];have hlo:=T.lo;by_cases c1:L-1>0
  · rw[if_pos c1];refine⟨⟨by simp only;omega,h.aj,h.age,h.len,T.trn,h.next,λu hu=>?_,h.ids,.inr ⟨t,T.mem,rfl,?_⟩⟩,rfl,rfl,rfl,rfl,λp=>?_,λu hu=>⟨u,hu,rfl,rfl⟩,.inl ⟨rfl,rfl,rfl,rfl⟩,λhg=>nomatch hg⟩
    · have:=h.task u hu;exact⟨this.1,this.2.1,by simp only;omega⟩
    · have:=T.hi;simp only;omega
    · rw[old p];unfold To;simp only
      conv=>lhs;rw[show List.map (λu:Task=>cond (p u.due) (ez ⟨s.now+1,s.aj,s.age,s.tasks,t.id,L-1,tr,s.next⟩ u) 0) s.tasks=List.map (λu:Task=>cond (p u.due) (ez ⟨s.now+1,s.aj,s.age,s.tasks,t.id,L-1,tr,s.next⟩ u) 0) (pre++t::post)from by rw[<-e],Yl,YZ,XQ,YS]
      rw[part p _ pre q1 (λu hu=>(n1 u hu).symm),part p _ post q2 (λu hu=>(n2 u hu).symm)]
      have:ez ⟨s.now+1,s.aj,s.age,s.tasks,t.id,L-1,tr,s.next⟩ t=ib t-fu t+(L-1):=by unfold ez;simp
      rw[this];cases p t.due<;>simp only[cond_true,cond_false]<;>omega
  · have hL:L=1:=by omega
    subst hL;rw[if_neg c1];by_cases c2:t.at_+1<t.ax.length
    · rw [if_pos c2]
      have hnb:je (sG t)=true:=by
        unfold je inB sG;unfold je inB at hb;simp only[W3,decide_eq_true_eq]at hb⊢;exact⟨hb.1,hb.2.1,⟨by omega,by omega⟩,hb.2.2.2.1,hb.2.2.2.2.1,hb.2.2.2.2.2⟩
      refine⟨⟨by simp only;omega,h.aj,h.age,by simp only[W5,W7];omega,T.trn,h.next,λu hu=>?_,?_,.inl ⟨rfl,rfl⟩⟩,rfl,rfl,rfl,rfl,λp=>?_,λu hu=>?_,.inr ⟨rfl,rfl,rfl⟩,λhg=>nomatch hg⟩
      · simp only at hu⊢
        rcases XN.1 hu with hu|hu
        · have:=h.task u (m1 u hu);exact⟨this.1,this.2.1,by omega⟩
        · rcases Xm.1 hu with rfl|hu
          · have:=h.task t T.mem;exact⟨hnb,this.2.1,by show t.born<=_;omega⟩
          · have:=h.task u (m2 u hu);exact⟨this.1,this.2.1,by omega⟩
      · simp only;rw[YN,Zl];refine⟨h4,⟨h2,h5⟩,λu hu v hv=>?_⟩
        rcases Xm.1 hv with rfl|hv
        · exact h1 u hu
        · exact h3 u hu v hv
      · rw[old p];unfold To;simp only;rw[Yl,YZ,XQ,YS];rw[part p _ pre q1 (λu hu=>z1 u (m1 u hu)),part p _ post q2 (λu hu=>z1 u (m2 u hu))];have hd:(sG t).due=t.due:=rfl
        have:ez ⟨s.now+1,s.aj,s.age,pre++sG t::post,0,1-1,tr,s.next⟩ (sG t)=ib t-fu t:=by
          unfold ez;rw[show((0:Int)==(sG t).id)=false by show((0:Int)==t.id)=false;simp;omega,cond_false,H8 hb]
        rw[this,hd];cases p t.due<;>simp only[cond_true,cond_false]<;>omega
      · simp only at hu
        rcases XN.1 hu with hu|hu
        · exact⟨u,m1 u hu,rfl,rfl⟩
        · rcases Xm.1 hu with rfl|hu
          · exact⟨t,T.mem,rfl,rfl⟩
          · exact⟨u,m2 u hu,rfl,rfl⟩
    · rw[if_neg c2];have hr:=PD hb c2;refine⟨⟨by simp only;omega,h.aj,h.age,by simp only[W5];omega,T.trn,h.next,λu hu=>?_,?_,.inl ⟨rfl,rfl⟩⟩,rfl,rfl,rfl,rfl,λp=>?_,λu hu=>?_,.inr ⟨rfl,rfl,rfl⟩,λ_=>⟨rfl,λu hu=>?_⟩⟩
      · simp only at hu⊢
        rcases XN.1 hu with hu|hu
        · have:=h.task u (m1 u hu);exact⟨this.1,this.2.1,by omega⟩
        · have:=h.task u (m2 u hu);exact⟨this.1,this.2.1,by omega⟩
      · simp only;rw[YN];exact⟨h4,h5,h3⟩
      · rw[old p];unfold To;simp only;rw[Yl,YZ];rw[part p _ pre q1 (λu hu=>z1 u (m1 u hu)),part p _ post q2 (λu hu=>z1 u (m2 u hu)),hr];cases p t.due<;>simp only[cond_true,cond_false]<;>omega
      · simp only at hu
        rcases XN.1 hu with hu|hu
        · exact⟨u,m1 u hu,rfl,rfl⟩
        · exact⟨u,m2 u hu,rfl,rfl⟩
      · simp only at hu
        rcases XN.1 hu with hu|hu
        · exact n1 u hu
        · exact n2 u hu
theorem zj {s:al} (h:SOk s) (hn:s.now≠1000000):fJ s true=(⟨s.now+1,s.aj,s.age,s.tasks,s.run,s.left,s.turns,s.next⟩,0,false):=by
 have R4:(bE s&&!(s.now==1000000))=true:=by rw[Ab h];simpa using hn
 unfold fJ;rw[R4];rfl
theorem Ac {s:al} (hn:s.now=1000000) (st:Bool):fJ s st=(s,0,false):=by
 unfold fJ;rw[hn];simp
theorem Lf {s:al} (h:SOk s) (hn:s.now≠1000000):SOk ⟨s.now+1,s.aj,s.age,s.tasks,s.run,s.left,s.turns,s.next⟩:=by
 have:=h.now;exact⟨by simp only;omega,h.aj,h.age,h.len,h.turns,h.next,λu hu=>by have:=h.task u hu;exact⟨this.1,this.2.1,by simp only;omega⟩,h.ids,h.run⟩
theorem Tp {s:al} (h:SOk s) (st:Bool):SOk (fJ s st).1:=by
 by_cases hn:s.now=1000000
 ·rw[Ac hn];exact h
 cases st
 ·rcases H7 h hn with⟨_,_,_,e⟩|⟨t,L,tr,T,_⟩
  ·rw[e];exact Lf h hn
  ·exact(worked h hn T).ok
 ·rw[zj h hn];exact Lf h hn
theorem PE {s:al} (h:SOk s) (id:Int):SOk (sE s id).1:=by
 unfold sE;cases hc:(bE s&&decide (0<=lr s.tasks id))
 ·exact h
 rw[cond_true]
 have hm:∀u∈Nb s.tasks id,u∈s.tasks/\u.id≠id:=λu hu=>by
  have:=X1.1 hu;exact⟨this.1,by simpa using this.2⟩
 refine⟨h.now,h.aj,h.age,Ys (YW _ _) h.len,h.turns,h.next,λu hu=>h.task u (hm u hu).1,h.ids.filter _,?_⟩;cases hr:s.run==id
 ·simp only[cond_false]
  rcases h.run with h1|⟨t,ht,e,l⟩
  ·exact .inl h1
  ·refine .inr ⟨t,X1.2 ⟨ht,?_⟩,e,l⟩;rw[e,hr];rfl
 ·exact .inl ⟨rfl,rfl⟩
theorem Ro {s:al} (h:SOk s) (ax:List Int) (due:Int):SOk (fw s ax due).1:=by
 rcases Cc s ax due with⟨_,_,_,g,_⟩|⟨_,_,g⟩
 ·unfold B4 at g;exact R3 (XY.1 g).1
 ·rw[g];exact h
end
set_option maxRecDepth 100000
section
end
set_option maxRecDepth 100000
set_option maxHeartbeats 4000000
section
theorem MX {b:List Int} (h:(ey b).2=0):eu (ey b).1=true:=by
  unfold ey at h⊢;by_cases c:(b.length:Int)>6000
  · rw[decide_eq_true c]at h;exact absurd (show(5:Int)=0 from h) (by decide)
  rw[decide_eq_false c]at h⊢;simp only[cond_false]at h⊢;cases c1:decide (b.take 3=[80,77,49])
  · rw[c1]at h;exact absurd (show(1:Int)=0 from h) (by decide)
  rw[c1]at h;simp only[Xa,cond_false]at h⊢;generalize aV b 3 false=r2 at h⊢;generalize aV b r2.2.1 r2.2.2=r3 at h⊢;generalize aV b r3.2.1 r3.2.2=r4 at h⊢;generalize aX b r4.2.1 r4.2.2 2000=r5 at h⊢;generalize sw b r5.1.toNat r5.2.1 r5.2.2 []=y at h⊢;generalize aV b y.1 y.2.1=r6 at h⊢;cases c2:r6.2.2
  · rw [c2] at h;simp only[cond_false]at h⊢;cases c3:(r6.1 !=kq ((b.take y.1.toNat).drop 0))
    · rw[c3]at h;simp only[cond_false]at h⊢;cases c4:(r6.2.1 !=(b.length:Int))
      · rw[c4]at h;simp only[cond_false]at h⊢;cases c5:eu ⟨⟨r2.1,r3.1,r4.1⟩,y.2.2⟩
        · rw[c5]at h;exact absurd (show(4:Int)=0 from h) (by decide)
        · simp only[Xa,cond_false];exact c5
      · rw[c4]at h;exact absurd (show(3:Int)=0 from h) (by decide)
    · rw[c3]at h;exact absurd (show(3:Int)=0 from h) (by decide)
  · rw[c2]at h;exact absurd (show(2:Int)=0 from h) (by decide)
theorem va (b:List Int):(ey b).1.tot<=8002000:=by
  have h0:eI.tot=0:=rfl;unfold ey;generalize aV b 3 false=r2;simp only;generalize aV b r2.2.1 r2.2.2=r3;generalize aV b r3.2.1 r3.2.2=r4;have hc:=tG b r4.2.1 r4.2.2;generalize aX b r4.2.1 r4.2.2 2000=r5 at hc;have ht:=tH b r5.1.toNat r5.2.1 r5.2.2 [];rw[show gp aq.tot []=0 from rfl]at ht;generalize sw b r5.1.toNat r5.2.1 r5.2.2 []=y at ht;generalize aV b y.1 y.2.1=r6
  have hy:(⟨⟨r2.1,r3.1,r4.1⟩,y.2.2⟩:Model).tot<=8002000:=by show gp aq.tot y.2.2+0<=_;omega
  cases decide ((b.length:Int)>6000)<;>simp only[cond_true,cond_false]
  · cases (!decide (b.take 3 = [80, 77, 49])) <;> simp only [cond_true, cond_false]
    · cases r6.2.2<;>simp only[cond_true,cond_false]
      · cases(r6.1 !=kq ((b.take y.1.toNat).drop 0))<;>simp only[cond_true,cond_false]
        · cases(r6.2.1 !=(b.length:Int))<;>simp only[cond_true,cond_false]
          · generalize (!eu _)=q;cases q<;>simp only[cond_true,cond_false]
            · exact hy
            · omega
          · omega
        · omega
      · omega
    · omega
  · omega
def uq (m:Model):Bool:=(bj m).all λc=>decide (c<=1000)
theorem F0 {k:Nat} {m:Model} (hk:m.tot<k) (hN:m.tot<=aO):tA k m=some (uq m&&eu m):=by
 have hM:=ak;have hc:=ko m;have hl:=bu aq.tot m.aE;have ht:m.tot=gp aq.tot m.aE+0:=rfl;unfold tA uq;rw[ln hk hN,aa,sr hk hN]
 rw[nO (bj m) (λc=>decide (c<=1000)) (no:=some false) (yes:=some (eu m)) (λi hi next=>by
  unfold lX;simp only;rw[decide_eq_true (by omega),cond_true,decide_eq_true (by omega),cond_true,W4,ai hi,aa,ar hi (by omega)];by_cases c:(bj m)[i]<=1000
  ·rw[decide_eq_false (by omega),decide_eq_true c];rfl
  ·rw[decide_eq_true (by omega),decide_eq_false c];rfl) (λnext=>by
  unfold lX;simp only
  rw[decide_eq_false (by omega)];rfl) (by omega)]
 cases(bj m).all λc=>decide (c<=1000)<;>rfl
theorem H9 {k:Nat} {m:Model} (hk:m.tot+1<k) (hN:m.tot<aO):Bo k m=some (uq m):=by
 have hM:=ak;have hc:=ko m;have hl:=bu aq.tot m.aE;have ht:m.tot=gp aq.tot m.aE+0:=rfl;unfold Bo uq dm dN;rw[lq hk hN,aa]
 rw[er (bj m) (λx=>decide (x>1000)) (λi hi next=>by
  simp only[bP,ab,yS,aa]
  rw[if_pos (by omega),aL,ai hi,aa,ar hi (by omega)]) (λnext=>by
  simp only[bP,ab];rw[if_neg (by omega)]) (by omega)]
 rw[cI];simp only[aa,mv];rw[Yv,Zt]
 congr 2
 funext c
 rw[<-decide_not]
 congr 1
 exact propext Int.not_lt
def F1:aD:=⟨⟨0,0,0⟩,[]⟩
def dP (kind code:Int):List Event:=[⟨5,kind,code,F1⟩]
def Lg (r:Runtime) (a:Int):Bool:=inB a 0 3&&r.aC.getD a.toNat false
def tZ (r:Runtime) (x:Step):List Event× List Model× List Bool:=
 cond (inB x.a 0 3&&!r.aC.getD x.a.toNat false) (cond (decide ((ey x.data).2=0)&&uq (ey x.data).1) ([⟨0,x.a,Bu (ey x.data).1,F1⟩],r.aB.set x.a.toNat (ey x.data).1,r.aC.set x.a.toNat true) (dP x.kind 2,r.aB,r.aC)) (dP x.kind 1,r.aB,r.aC)
section
variable {k:Nat} {r:Runtime} {x:Step} (hk:9000000<=k) (hb:∀y∈x.data,okB y) (hl:x.data.length<=aO) (hlo:r.aC.length=4) (hmo:r.aB.length=4)
include hk hb hl hlo hmo
theorem PF:qK k r x=some (tZ r x):=by
 have hM:=ak;have hd:=va x.data;unfold qK tZ bp;rw[bR,aa];cases c1:inB x.a 0 3
 ·simp only[XA,cond_true,aa,decide_true,X4,cond_false];rfl
 have c1':=of_decide_eq_true c1
 have hi:x.a.toNat<r.aC.length:=by omega
 simp only[Xa,cond_false,Xf];rw[decide_eq_true (by omega),cond_true,ai hi,aa,db hi];cases c2:r.aC[x.a.toNat]
 ·simp only[cond_false,XA,cond_true];rw[zB hk hb hl,aa,pK];by_cases c3:(ey x.data).2=0
  ·rw[decide_eq_true c3];simp only[cond_true,Xf];rw[F0 (by omega) (by omega),aa,MX c3,Zf];cases uq (ey x.data).1
   ·simp only[XA,cond_true,aa,decide_true,cond_false];rfl
   ·simp only[Xa,cond_false,cond_true];rw[decide_eq_true (by omega),cond_true,CM (by omega) (by omega),aa];simp only[decide_true,cond_true];rfl
  ·rw[decide_eq_false c3];simp only[cond_true,aa,decide_true,X4,cond_false];rfl
 ·simp only[cond_true,aa,decide_true,Xa,cond_false];rfl
theorem PH:ki k r x=some (tZ r x):=by
 have hM:=ak;have hd:=va x.data;unfold ki tZ eC;rw[fH,aa];cases c1:inB x.a 0 3
 ·simp only[XA,cond_true,aa,decide_true,X4,cond_false];rfl
 have c1':=of_decide_eq_true c1
 have hi:x.a.toNat<r.aC.length:=by omega
 simp only[Xa,cond_false,Xf];rw[decide_eq_true (by omega),cond_true,ai hi,aa,db hi];cases c2:r.aC[x.a.toNat]
 ·simp only[cond_false,XA,cond_true];rw[zC hk hb hl,aa,pK];by_cases c3:(ey x.data).2=0
  ·rw[decide_eq_true c3];simp only[cond_true,Xf];rw[H9 (by omega) (by omega),aa];cases uq (ey x.data).1
   ·simp only[XA,cond_true,aa,decide_true,cond_false];rfl
   ·simp only[Xa,cond_false,cond_true];rw[decide_eq_true (by omega),cond_true,CN (by omega) (by omega),aa];simp only[decide_true,cond_true];rfl
  ·rw[decide_eq_false c3];simp only[cond_true,aa,decide_true,X4,cond_false];rfl
 ·simp only[cond_true,aa,decide_true,Xa,cond_false];rfl
end
theorem wD {k:Nat} {r:Runtime} {a:Int} (hlo:r.aC.length=4):gd k r a=some (Lg r a):=by
 unfold gd Lg;rw[fH,aa];cases c:inB a 0 3
 ·rfl
 have c':=of_decide_eq_true c;simp only[cond_true,Xf];rw[j9 _ (by omega),ai (show a.toNat<r.aC.length by omega),db (show a.toNat<r.aC.length by omega)];rfl
end
set_option maxRecDepth 100000
set_option maxHeartbeats 4000000
section
def xU (rs:List Request) (id:Int):Int:=(rs.findIdx? λq=>q.id==id).elim (-1) λi=>(i:Int)
def Ad (rs:List Request) (id:Int):List Request:=rs.filter λq=>!(q.id==id)
section
variable {k:Nat} {rs:List Request} {id:Int} (hk:rs.length<k) (hN:rs.length<=aO)
include hk hN
theorem Cf:ca k rs id=some (xU rs id):=by
 have hM:=ak;unfold ca xU
 rw[er rs (λt=>t.id==id) (yes:=some (-1)) (no:=some) (λi hi next=>by
  simp only[bL,lK,decide_true,cond_true,aa]
  rw[ab,if_pos (by omega),ab,if_pos (by omega),W4,ai hi,aa,ar hi (by omega)]) (λnext=>by
  simp only[bL,decide_true,cond_true];rw[ab,if_neg (by omega)]) hk]
 exact cI _
theorem Cg:cc k rs id=some (xU rs id):=by
 have hM:=ak;unfold cc xU
 rw[er rs (λt=>t.id==id) (yes:=some (-1)) (no:=some) (λi hi next=>by
  simp only[bM,nh,decide_true,cond_true,aa]
  rw[ab,if_pos (by omega),aL,ai hi,aa,ar hi (by omega)]) (λnext=>by
  simp only[bM,decide_true,cond_true];rw[ab,if_neg (by omega)]) hk]
 exact cI _
theorem Ch:bV k rs id=some (Ad rs id):=by
  have hM:=ak;unfold bV Ad;rw[Cf hk hN,aa];unfold xU
  cases hf:rs.findIdx? λz=>z.id==id with
  | none =>
    rw[XM,filter_none hf]
    simp
  | some i =>
    obtain⟨hi,hfi⟩:=oz hf;rw[W8,dF,if_neg (by omega),ar hi (by omega)]
    obtain⟨i',ys',h1,h2,h3,h4⟩:=kt rs (λz=>z.id==id) (R:=List Request) (g:=(λu5 n5=>ba k id u5 n5 (λy4=>cond (decide (0<=y4.1/\y4.1<=(y4.2.length:Int))) (cond (decide (0<=y4.1/\y4.1<=(((y4.2).take y4.1.toNat++List.replicate (y4.2.length-y4.1.toNat) (⟨(0:Int),(0:Int),(⟨(⟨(⟨(0:Int),(0:Int),(0:Int)⟩:Shape),([]:List aq)⟩:Model),(0:Int),(⟨(⟨(0:Int),(0:Int),(0:Int)⟩:Shape),([]:List Int)⟩:aD),(0:Int)⟩:Job),(0:Int)⟩:Request)++(y4.2).drop (y4.1.toNat+(y4.2.length-y4.1.toNat))).length:Int))) (cond (decide (id=id)) (some (((y4.2).take y4.1.toNat++List.replicate (y4.2.length-y4.1.toNat) (⟨(0:Int),(0:Int),(⟨(⟨(⟨(0:Int),(0:Int),(0:Int)⟩:Shape),([]:List aq)⟩:Model),(0:Int),(⟨(⟨(0:Int),(0:Int),(0:Int)⟩:Shape),([]:List Int)⟩:aD),(0:Int)⟩:Job),(0:Int)⟩:Request)++(y4.2).drop (y4.1.toNat+(y4.2.length-y4.1.toNat))).take (y4.1.toNat-0))) none) none) none)))
      (fin:=(λy4=>cond (decide (0<=y4.1/\y4.1<=(y4.2.length:Int))) (cond (decide (0<=y4.1/\y4.1<=(((y4.2).take y4.1.toNat++List.replicate (y4.2.length-y4.1.toNat) (⟨(0:Int),(0:Int),(⟨(⟨(⟨(0:Int),(0:Int),(0:Int)⟩:Shape),([]:List aq)⟩:Model),(0:Int),(⟨(⟨(0:Int),(0:Int),(0:Int)⟩:Shape),([]:List Int)⟩:aD),(0:Int)⟩:Job),(0:Int)⟩:Request)++(y4.2).drop (y4.1.toNat+(y4.2.length-y4.1.toNat))).length:Int))) (cond (decide (id=id)) (some (((y4.2).take y4.1.toNat++List.replicate (y4.2.length-y4.1.toNat) (⟨(0:Int),(0:Int),(⟨(⟨(⟨(0:Int),(0:Int),(0:Int)⟩:Shape),([]:List aq)⟩:Model),(0:Int),(⟨(⟨(0:Int),(0:Int),(0:Int)⟩:Shape),([]:List Int)⟩:aD),(0:Int)⟩:Job),(0:Int)⟩:Request)++(y4.2).drop (y4.1.toNat+(y4.2.length-y4.1.toNat))).take (y4.1.toNat-0))) none) none) none))
      (λi j ys hj next hij hl hg=>by
        simp only[ba,lf,decide_true,cond_true,aa,hl]
        rw[ab,if_pos (by omega),ab,if_pos (by omega),W4,hg,aa,cond_not,ab,if_pos (by omega),ar hj (by omega),ar (show i<rs.length by omega) (by omega),W4])
      (λi ys next hl=>by simp only[ba,hl];rw[ab,if_neg (by omega)])
      (rs.length-(i+1)) i (i+1) rs k (by omega) (by omega) (by omega) rfl rfl hfi
    refine h4.trans ?_;obtain⟨c1,c2⟩:=tL (⟨(0:Int),(0:Int),(⟨(⟨(⟨(0:Int),(0:Int),(0:Int)⟩:Shape),([]:List aq)⟩:Model),(0:Int),(⟨(⟨(0:Int),(0:Int),(0:Int)⟩:Shape),([]:List Int)⟩:aD),(0:Int)⟩:Job),(0:Int)⟩:Request) h1 h2;simp only[W4,h2,decide_true,cond_true];rw[c2,c1,ab,if_pos (by omega),ab,if_pos (by omega),h3]
end
theorem xV {k:Nat} {r:Runtime} {id:Int} (hk:r.ag.length<k) (hN:r.ag.length<=aO):kI k r id=some (xU r.ag id):=by
 unfold kI;rw[Cg hk hN];rfl
theorem xW {k:Nat} {r:Runtime} {id:Int} (hk:r.ag.length<k) (hN:r.ag.length<=aO):Bn k r id=some (xU r.ag id):=by
 have hM:=ak;unfold Bn xU
 rw[er r.ag (λt=>t.id==id) (yes:=some (-1)) (no:=some) (λi hi next=>by
  simp only[tB]
  rw[ab,if_pos (by omega),aL,ai hi,aa,ar hi (by omega)]) (λnext=>by
  simp only[tB];rw[ab,if_neg (by omega)]) hk]
 exact cI _
def xX (s:al) (id:Int):al:=⟨s.now,s.aj,s.age,Nb s.tasks id,cond (s.run==id) 0 s.run,cond (s.run==id) 0 s.left,s.turns,s.next⟩
theorem xY {s:al} (h:SOk s) {id:Int} (hid:1<=id):(sE s id).1=xX s id:=by
 unfold sE;rw[Ab h,Xf];by_cases c:0<=lr s.tasks id
 ·rw[decide_eq_true c];rfl
 rw[decide_eq_false c,cond_false]
 have hn:∀t∈s.tasks,t.id≠id:=λt ht e=>by
  unfold lr at c
  cases hf:s.tasks.findIdx? λt=>t.id==id with
  |none=>rw[X9]at hf;have:=hf t ht;simp[e]at this
  |some i=>rw[hf,W8]at c;omega
 have ht:Nb s.tasks id=s.tasks:=Yo.2 λt ht=>by simpa using hn t ht
 have hr:(s.run==id)=false:=by
  rcases h.run with⟨h1,_⟩|⟨t,g1,g2,_⟩
  ·rw[h1];simp;omega
  ·rw[<-g2];simpa using hn t g1
 unfold xX;rw[ht,hr];rfl
def UH (r:Runtime) (id:Int):Runtime:=⟨xX r.sched id,r.aB,r.aC,Ad r.ag id⟩
section
variable {k:Nat} {r:Runtime} {id:Int} (hk:r.sched.tot+r.ag.length<k) (hN:r.sched.tot+r.ag.length<=aO)
include hk hN
theorem PI (h:SOk r.sched) (hid:1<=id):qL k r id=some (let s:=xX r.sched id;(s.now,s.aj,s.age,s.tasks,s.run,s.left,s.turns,s.next,Ad r.ag id)):=by
 have hM:=ak;unfold qL
 refine(qT r.ag (λq=>!(q.id==id)) (λq=>q) (g:=λu5 n5=>ix k (id,r.sched.now,r.sched.aj,r.sched.age,r.sched.run,r.sched.left,r.sched.turns,r.sched.next,r.ag,r.sched.tasks,r.aB,r.aC) u5 n5 _) (fin:=_) (λi ys hi next hl=>by
  simp only[ix];rw[ab,if_pos (by omega),aL,ai hi,aa,aa,bO (by omega),ar hi (by omega)]
  rfl) (λys next=>by
  simp only[ix];rw[ab,if_neg (by omega)]) (by omega)).trans ?_
 simp only[Zv,sF (show r.sched.tot<k by omega) (show r.sched.tot<=aO by omega),aa,decide_true,cond_true];have:=xY h hid;rw[<-this];unfold sE Ad;cases(bE r.sched&&decide (0<=lr r.sched.tasks id))<;>rfl
theorem D7 (h:SOk r.sched) (hid:1<=id):lb k r id=some (let s:=xX r.sched id;(s.now,s.aj,s.age,s.tasks,s.run,s.left,s.turns,s.next,Ad r.ag id)):=by
 have hM:=ak;unfold lb
 refine(qT r.ag (λq=>!(q.id==id)) (λq=>q) (g:=λu5 n5=>gB k (id,r.sched.now,r.sched.aj,r.sched.age,r.sched.run,r.sched.left,r.sched.turns,r.sched.next,r.sched.tasks,r.aB,r.aC,r.ag) u5 n5 _) (fin:=_) (λi ys hi next hl=>by
  simp only[gB];rw[ab,if_pos (by omega),ab,if_pos (by omega),W4,ai hi,aa,ab,if_pos (by omega),aa,bO (by omega),ar hi (by omega)]
  rfl) (λys next=>by
  simp only[gB];rw[ab,if_neg (by omega)]) (by omega)).trans ?_
 simp only[Zv,sF (show r.sched.tot<k by omega) (show r.sched.tot<=aO by omega),aa,decide_true,cond_true];have:=xY h hid;rw[<-this];unfold sE Ad;cases(bE r.sched&&decide (0<=lr r.sched.tasks id))<;>rfl
omit hk hN in
theorem MY {zs:List dY} {a b c d e f g:Int} {ms:List Model} {ls:List Bool} {rs:List Request} (hk:zs.length<k) (hN:zs.length<=aO):dS k a b c zs d e f g ms ls rs id=some (zs.filter λz=>!(z.id==id),cond (d==id) 0 d,cond (d==id) 0 e):=by
 unfold dS;rw[rj hk hN,aa];simp only[decide_true,cond_true];cases d==id<;>rfl
theorem Ia:gY k r id=some (let s:=xX r.sched id;(⟨4,id,0,F1⟩,s.tasks,s.run,s.left,Ad r.ag id)):=by
 have hlen:=bu Task.tot r.sched.tasks;have hst:r.sched.tot=gp Task.tot r.sched.tasks+0:=rfl;unfold gY;rw[tK,aa,MY (by rw[eT];omega) (by rw[eT];omega),aa];simp only;rw[ow,cond_true,qU r.sched.tasks (λt=>!(t.id==id)) (λz=>!(z.id==id)) (λn t=>rfl),aa,Ch (by omega) (by omega),aa];simp only[decide_true,cond_true];rfl
end
end
end Go.Proofs.Ev
